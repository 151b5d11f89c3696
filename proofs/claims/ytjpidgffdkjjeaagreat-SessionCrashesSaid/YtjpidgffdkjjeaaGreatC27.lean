/- Contracts and plain laws. No condition. -/
import Derived.Test.YtjpidgffdkjjeaaGreatCA
import Derived.Test.YtjpidgffdkjjeaaGreatC22
import Derived.Test.YtjpidgffdkjjeaaGreatC23
import Derived.Test.YtjpidgffdkjjeaaGreatC24
import Derived.Test.YtjpidgffdkjjeaaGreatC25
import Derived.Test.YtjpidgffdkjjeaaGreatC26
set_option linter.all false
set_option maxHeartbeats 16000000
namespace Go.Proofs.YtjpidgffdkjjeaaGreat
open Go.Proofs.Tryz
open Go.Proofs.Tryz renaming prog->AE
open List renaming length->Y
open Go.World renaming cell?->E,setCell->Ai,alloc->Ao,frozen?->Bo
open Go.Value renaming int->U,slice->R,pointer->AI,agg->Ba,tuple->Be,nilFunc->Bl,bool->Av
open Go.IntKind renaming i64->O,u64->AA,u32->BF,u8->Cd
open Option renaming none->Z,some->I
open Go.Ending renaming returned->AN
open Go.Obj renaming cells->N
open Go renaming World->V,Value->An,Calls->AL,Addr->AS
open Go.RowKit renaming Below->Ag,Hid->Aj
set_option maxRecDepth 100000
open Go.RowKit Go.Maps
section
variable {τ:Nat→Nat} {w:V} {i b W nb mb:Nat} {x:BR} {bits:List Bool} {a:Bb}
theorem Imm.Aiu{α:Type}{sz:Nat}{enc:α->List An}{A:Option AS}{c:Nat}{l:List α}(h:Imm sz enc τ w (R A (Y l) c) l):Arr sz enc w w A l:=by
 grind [Arr,Imm]
theorem Aiv(h:Bx τ w i b x W nb mb bits a)(hi:i≠0)(fr:BU τ w)(ok:Gi x.s W)(iv:BO (x.z W bits) a)(hb1:a.ph=1)(kind:Int)(hk:1<=kind/\kind<=11)(hwt:kind=11\/kind∈a.wait)
  (A:Option AS) (c:Nat) (ws:List Int) (hv:Imm 1 BD τ w (R A (Y ws) c) ws) (lw:Y ws<=4096) (hw:ws.all okW=true):
  AL AE 109 #[AI (I ⟨b,0,Z⟩),U O kind,R A (Y ws) c] w fun e w'=>DA τ w i b W nb mb bits x ((x.z W bits).Td kind a ws) e w':=by
 have hl:1<=a.last/\a.last<=1000:=⟨iv.busy hb1,iv.last.2⟩
 obtain⟨L,hL⟩:=DV (show 0<=a.last by omega);have QE:1<=L/\L<=1000:=J;have hrc:Y a.recs<=1000:=by have:=iv.few;omega
 have Dp:∀k:Int,kind=k->k≠11->k∈a.wait:=fun k e hn=>by
  grind
 rcases(show kind=1\/kind=2\/kind=3\/kind=4\/kind=5\/kind=6\/kind=7\/kind=8\/kind=9\/kind=10\/kind=11 by omega)with rfl | rfl | rfl | rfl | rfl | rfl | rfl | rfl | rfl | rfl | rfl
 ·exact So 196 1 (fun y=>by kernel_rfl) (fun _ _=>by kernel_rfl) h hi fr hl A (Y ws) c ws hv _ (fun τ y h fr hv=>Aiq h hi fr ok iv hb1 A c ws hv.Aiu lw hw)
 ·have hd:a.decoys=[]:=by rw[iv.dec,iv.w2 hb1 (Dp 2 Q AC)];rfl
  exact So 197 2 (fun y=>by kernel_rfl) (fun _ _=>by kernel_rfl) h hi fr hl A (Y ws) c ws hv _ (fun τ y h fr hv=>AhI h hi fr ok iv hb1 hd A c ws hv lw hw)
 ·exact So 198 3 (fun y=>by kernel_rfl) (fun _ _=>by kernel_rfl) h hi fr hl A (Y ws) c ws hv _ (fun τ y h fr hv=>Ae0 h hi fr ok L hL QE iv.clk A c ws hv hw lw)
 ·exact So 199 4 (fun y=>by kernel_rfl) (fun _ _=>by kernel_rfl) h hi fr hl A (Y ws) c ws hv _ (fun τ y h fr hv=>Aij h hi fr ok iv hb1 (iv.w4 hb1 (Dp 4 Q AC)) A c ws hv lw hw)
 ·exact So 200 5 (fun y=>by kernel_rfl) (fun _ _=>by kernel_rfl) h hi fr hl A (Y ws) c ws hv _ (fun τ y h fr hv=>Aeo h hi fr ok L hL QE iv.led iv.blk A c ws hv hw)
 ·exact So 201 6 (fun y=>by kernel_rfl) (fun _ _=>by kernel_rfl) h hi fr hl A (Y ws) c ws hv _ (fun τ y h fr hv=>Aew h hi fr ok L hL QE iv.led iv.blk A c ws hv hw)
 ·obtain⟨cc,m,hc,ho⟩:=iv.w7 hb1 (Dp 7 Q AC)
  exact So 202 7 (fun y=>by kernel_rfl) (fun _ _=>by kernel_rfl) h hi fr hl A (Y ws) c ws hv _ (fun τ y h fr hv=>Ael h hi fr ok L hL QE iv.led cc m hc ho A c ws hv hw)
 ·exact So 203 8 (fun y=>by kernel_rfl) (fun _ _=>by kernel_rfl) h hi fr hl A (Y ws) c ws hv _ (fun τ y h fr hv=>AeL h hi fr ok L hL QE iv.led hrc A c ws hv hw)
 ·exact So 204 9 (fun y=>by kernel_rfl) (fun _ _=>by kernel_rfl) h hi fr hl A (Y ws) c ws hv _ (fun τ y h fr hv=>AeI h hi fr ok L hL QE iv.led hrc A c ws)
 ·exact So 205 10 (fun y=>by kernel_rfl) (fun _ _=>by kernel_rfl) h hi fr hl A (Y ws) c ws hv _ (fun τ y h fr hv=>Aed h hi fr A c ws)
 ·exact So 206 11 (fun y=>by kernel_rfl) (fun _ _=>by kernel_rfl) h hi fr hl A (Y ws) c ws hv _ (fun τ y h fr hv=>Aee h hi fr A c ws hv)
end
section
variable {τ:Nat→Nat} {w:V} {i b W nb mb:Nat} {x:BR} {bits:List Bool} {a:Bb}
def Vp(τ:Nat->Nat)(w:V)(i b W nb mb:Nat)(bits:List Bool)(x:BR)(r:Bb × List Lt × Int)(e:Ending)(w':V):Prop:=
 ∃τ' x' v',e=AN (Be #[v',U O r.2.2])/\Frm τ τ' w w' i/\BU τ' w'/\Bx τ' w' i b x' W nb mb bits r.1/\Ju τ' w' v' r.2.1/\Fix x x'
def Vp.stay(h:Bx τ w i b x W nb mb bits a)(fr:BU τ w){w':V}(hb:Ag w w w'){r:Bb × List Lt × Int}{AM:Int}(hr:Aj (r=(a,[],AM))):Vp τ w i b W nb mb bits x r (AN (Be #[R Z 0 0,U O AM])) w':=by
 rw[hr.out];exact⟨τ,x,_,Q,Frm.of hb,fr.on hb.size,h.on hb,.inl ⟨rfl,rfl⟩,Fix.refl x⟩
def uA{P:Program}{ops:Array Oper}{S:V->Prop}{o:Oper}{a:Act}(hw:Region.wanted o (yielded ops a.tmps)=true)(ty:TypeId)(x:Operand)(ho:o.op=.load ty x)
  (g off:Nat) (hx:a.eval x=AI (I ⟨g,off,Z⟩)) (cs:Array An) (d:TypeDesc) (hc:∀w,S w->∀(j:Nat) (v:An),cs[j]?=I v->E w ⟨g,off+j,Z⟩=I v)
  (hu:P.underlying ty=I d) (hd:(match d with | .struct _ | .array _ _=>true | _=>false)=true) (hi:(P.info? ty).map (·.size)=I cs.size):YieldsIf P ops S o (Ba cs) a:=
 .inl ⟨hw,fun w hS=>by
  unfold execOp;simp only[ho,hx,Instr.loadAt,Instr.sureAddr,Sem.run_bind,Sem.run_pure,Result.andThen_ok,WQ w g off ty cs d (hc w hS) hu hd hi]⟩
def Aiy(h:Bx τ w i b x W nb mb bits a)(hi:i≠0)(fr:BU τ w)(ok:Gi x.s W)(iv:BO (x.z W bits) a)(l:Lt)(A:Option AS)(c:Nat)(hv:Imm 1 BD τ w (R A (Y l.ws) c) l.ws)(lw0:Y l.ws<=1000000):
  AL AE 46 #[AI (I ⟨b,0,Z⟩),(l.at A c).val] w fun e w'=>Vp τ w i b W nb mb bits x ((x.z W bits).Gj a l) e w':=by
 have cV:=Qk b x w h.row
 have lIn:(l.at A c).In w:=by
  obtain⟨A',c',he,h1,h2,h3,ha,_⟩:=hv;cases he;exact⟨ha,h1,h2,h3⟩
 have q1:=AB (Ae w w) (N (l.at A c).cs 39);have Nq:=Dq.new w (l.at A c);have isz:=UE (l.at A c);have Aiz:Rf (W:Int)=true:=by rcases h.pool.at_.wd with e | e | e <;> rw[e] <;> rfl
 obtain⟨AW,hR⟩:=Az ((x.z W bits).Gj a l);rw[hR];have HR:=F hR;clear hR;have H8:E w ⟨b,39,Z⟩=I (U O a.ph):=by rw[<-h.num.ph];exact h.row.c 39
 obtain⟨w1,BJ⟩:=Az (Ao w (N (l.at A c).cs 39));obtain⟨p,hp⟩:=Az (w.heap.size);have cV1:=Qk b x w1 (qrb BJ (h.row.on q1));have Nz:E w1 ⟨b,39,Z⟩=I (U O a.ph):=qrb BJ (AK q1 H8);unfold DE.val;by_cases h4:a.ph=4
 ·have hr:Aj (AW=(a,[],13)):=F (by rw[<-HR.out];unfold AV.Gj;rw[Bd h4])
  have g1:(a.ph == 4)=true:=by simp[h4]
  rw[BJ]at q1;clear h4;go_in;go_upto_region 1 with fail;clear BJ hp;go_wp2_with(go_at_call 70;refine mqv (cV1) ?_);go_ret2;exact Vp.stay h fr q1 hr
 have g1:(a.ph == 4)=false:=by simp[h4]
 have RM:=q1;have XL:=Nq;rw[BJ]at RM XL;rw[hp]at XL;have hpw:↑w<=p:=Nat.le_of_eq hp;have S1:=(Ae w1 w1).drew;have h1:=h.on q1;rw[BJ]at h1;have Dc:=fr.on RM.size;have Pm:E w1 ⟨b,31,Z⟩=I (U O W):=by rw[<-ok.wd];exact h1.row.c 31
 have cF:=qbw w1 fun y hy=>zR (l.at A c) (W:Int) y Aiz (lIn.on (AH RM hy)) (by show Y l.ws<=_;omega)
 have L31:=qbc Pm;have uB:=qbw w1 fun w' hw'=>(XL.on hw').all
 obtain⟨AY,hF⟩:=Az (VH (W:Int) (l.at A c));have hFz:Aj ((x.z W bits).Wh l=AY):=F hF;rw[hF]at cF;clear hF;go_in;go_upto_region 1 with fail;clear BJ hp;go_upto_region 5 with(go_at_call 70;refine mqv (cV1) ?_)
 refine qrh w1 S1 fun hHeld=>?_
 refine G3 (i:=0) (v:= Ba (l.at A c).cs) Q AG AG AG (fun _ _ _ h=>h) (MQ Q 39 _ (by rfl) p 0 (by rfl) (l.at A c).cs _ (fun w' hS j v hv=>uB w' hS j v hv) underlying39 Q isz) hHeld ?_;refine zp ?_;refine tQ4 1 ?_;refine tQ 5 ?_;refine url 6 (fun KU Bc=>?_);go_simp;refine gqz (cF _ S1) fun w2 XJ=>?_;have hb2:=AH S1 XJ;refine Bc.out _ _ hb2 (fun _=>?_);refine zp ?_;cases AY with
 | false=>
  have hr:Aj (AW=(a,[],2)):=F (by rw[<-HR.out];unfold AV.Gj;rw[AU h4,Bd (.inl hFz.out)]);refine tQ2 7 ?_;refine oQ4 9 ?_;refine oQ4 13 ?_;refine tQ2 17 ?_;refine Ce ?_;go_wp2;go_ret2;exact Vp.stay h fr (AH RM hb2) hr
 | true=>
 have BI:Pk W l:=sq (z:=x.z W bits) hFz.out
 have hhd:H5 (l.at A c)=true:=by
  have e:=hFz.out;unfold AV.Wh VH at e;simp only[Bool.and_eq_true]at e;exact e.1
 obtain⟨n,hn⟩:=DV BI.num.1;have hn5:n<=65535:=by have:=BI.num;omega
 have L2:=qbw w1 fun w' hw'=>(show E w' ⟨p,2,Z⟩=I (U O n)by rw[<-hn];exact(XL.on hw').c 2)
 have L35:=qbc (show E w1 ⟨b,35,Z⟩=I (U O x.side)from h1.row.c 35);obtain⟨AF,hV⟩:∃AF:Int,(n:Int)%2=AF:=⟨_,Q⟩
 have uT:Int.tmod (n:Int) 2=AF:=by rw[aJ J,hV]
 have HV:=F hV;obtain⟨sd,Gk⟩:=Az ((AF == x.side));have Hsd:=F Gk;have Hn:=F hn;have KE:=F BI;have Hhd:=F hhd;clear hn BI hhd hV;cases sd with
 | true=>
  have hr:Aj (AW=(a,[],2)):=F (by rw[<-HR.out];unfold AV.Gj;rw[AU h4,Bd (.inr (show l.num%2=x.side by rw[Hn.out,HV.out];simpa using Hsd.out))]);refine tQ4 7 ?_;refine tQ4 11 ?_;refine tQ4 15 ?_;refine Ce ?_;go_wp2;go_ret2;exact Vp.stay h fr (AH RM hb2) hr
 | false=>
 have hgo:Aj (¬((x.z W bits).Wh l=false\/l.num%2=(x.z W bits).side)):=F (by
  rintro(e | e)
  ·rw[hFz.out]at e;cases e
  ·have e2:l.num%2=x.side:=e
   rw[Hn.out,HV.out]at e2;have:=Hsd.out;rw[YP]at this;exact this e2)
 refine tQ4 7 ?_;refine tQ4 11 ?_;refine tQ4 15 ?_;refine Ce ?_;clear L2 L35 Gk uT L31 cF hHeld Pm S1 uB;have h2:=h1.on hb2;have Ej:=Dc.on hb2.size;have Fy:=XL.on hb2;have b2:=AH RM hb2;have S2:=(Ae w2 w2).drew;obtain⟨T,hT⟩:=Az (a.took.any (bK · l));have HT:=F hT;have q45:E w2 ⟨b,45,Z⟩=I x.k.took:=h2.row.c 45;go_upto_region 7 with fail;go_cut [37] (fun v37 wx=>v37=Av T/\Ag w2 w2 wx)
 case first=>
  rcases h2.li.took with⟨t1,t2⟩ | ⟨pt,lt,t1,t2,A',c',tL,tIn,tlt,tt,tA⟩
  ·have t1':a.took=Z:=t1
   rw[t1']at hT;have hT':T=false:=hT.symm;subst hT';rw[show x.k.took=AI Z from t2]at q45;have L45:=qbc q45;clear hT t1 t2 t1';refine qrh w2 S2 fun hHeld=>?_
   refine tQ4 0 ?_;refine tQ2 4 ?_;refine tQ 6 ?_;refine oQ4 7 ?_;refine oQ4 11 ?_;refine oQ 15 ?_;refine tQ2 16 ?_;refine Ce ?_;go_wp2;go_meet;exact⟨rfl,S2⟩
  ·have t1':a.took=I lt:=t1
   rw[t1']at hT;rw[show x.k.took=AI (I ⟨pt,0,Z⟩)from t2]at q45;have L45:=qbc q45;have lws:=(iv.took lt t1').len;have cS:=qbw w2 fun y hy=>AhG (lt.at A' c') (l.at A c) y (tIn.on hy) (lIn.on (AH b2 hy)) (by show Y lt.ws<=_;omega) lw0
   have eS:dz (lt.at A' c') (l.at A c)=T:=hT.symm▸(by show dz (lt.at A' c') (l.at A c)=bK lt l;rfl);rw[eS]at cS;have AiA:=UE (lt.at A' c');clear eS hT t1 t2 t1' lws;refine qrh w2 S2 fun hHeld=>?_
   refine tQ4 0 ?_;refine tQ4 4 ?_;refine tQ4 8 ?_;refine tQ 12 ?_;refine G3 (i:=13) (v:= Ba (lt.at A' c').cs) Q AG AG AG (fun _ _ _ h=>h) (uA (by rfl) 39 _ (by rfl) pt 0 (by rfl) (lt.at A' c').cs _ (fun w' hS j v hv=>(tL.on hS).all j v hv) underlying39 Q AiA) hHeld ?_;refine zp ?_;refine G3 (i:=14) (v:= Ba (l.at A c).cs) Q AG AG AG (fun _ _ _ h=>h) (uA (by rfl) 39 _ (by rfl) p 0 (by rfl) (l.at A c).cs _ (fun w' hS j v hv=>(Fy.on hS).all j v hv) underlying39 Q isz) hHeld ?_;refine zp ?_;refine url 15 (fun KU Bc=>?_);go_simp;refine gqz (cS _ S2) fun w3 I0=>?_;have hb3:=AH S2 I0;refine Bc.out _ _ (hb3) (fun _=>?_);refine zp ?_;refine tQ2 16 ?_;refine Ce ?_;go_wp2;go_meet;exact⟨rfl,hb3⟩
 obtain⟨AiB,hb3⟩:=hcut;subst AiB;obtain⟨w3,rfl⟩:=qgn wc;have h3:=h2.on hb3;have Gz:=Ej.on hb3.size;have EH:=Fy.on hb3;have b3:=AH b2 hb3;clear q45 S2;have y1:E w3 ⟨p,1,Z⟩=I (U O l.kind):=EH.c 1;cases T with
 | true=>
  have cA:=AbO h3 Gz l.kind (fun l hl=>(iv.sent l hl).len);have hr:Aj (AW=(a,if agB l.kind=true then a.sent.toList else[],0)):=F (by rw[<-HR.out];unfold AV.Gj;rw[AU h4,AU (hgo.out),Bd HT.out]);go_wp2_with fail;refine cA.mono ?_;rintro e w4⟨v',rfl,hb4,ho⟩;go_wp2;go_ret2;rw[hr.out];exact⟨τ,x,v',Q,Frm.of (AH b3 hb4),Gz.on hb4.size,h3.on hb4,ho,Fix.refl x⟩
 | false=>
 obtain⟨C,hC⟩:=Az (a.wait.contains l.kind);have HC:=F hC;obtain⟨Aw,cw,hwv,lw,mw,nw,arw,tw⟩:=h3.li.wait;have S3:=(Ae w3 w3).drew;have L39:=qbc (show E w3 ⟨b,39,Z⟩=I (U O a.ph)by rw[<-h.num.ph];exact h3.row.c 39);have L38:=qbc (show E w3 ⟨b,38,Z⟩=I (U O a.last)by rw[<-h.num.last];exact h3.row.c 38);have L43:=qbc (show E w3 ⟨b,43,Z⟩=I (R Aw (Y a.wait) cw)by rw[<-hwv];exact h3.row.c 43);have L0:=qbc (show E w3 ⟨p,0,Z⟩=I (U O l.ses)from EH.c 0);have L1:=qbc y1;have Rx:Y a.wait<=9223372036854775807:=by have h1:=mw;unfold maxLen at h1;omega
 have cC:=qbw w3 fun y hy=>Aix Aw cw a.wait l.kind y (arw.on hy) Rx
 rw[hC]at cC;obtain⟨B9,hB9⟩:∃B9:Bool,decide (a.ph≠1\/l.ses≠a.last\/(l.kind≠11/\l.kind∉a.wait))=B9:=⟨_,Q⟩
 have HB9:=F hB9;clear hC hwv arw tw;clear hB9;go_upto_region 9 with fail;go_cut [59] (fun v59 wx=>v59=Av B9/\Ag w3 w3 wx)
 case first=>
  by_cases Gy:a.ph=1
  case neg=>
   have gp:(a.ph != 1)=true:=qsu Gy;have hB:Aj (B9=true):=F (by rw[<-HB9.out];exact Er (.inl Gy));clear Gy;refine qrh w3 S3 fun hHeld=>?_
   refine tQ4 0 ?_;refine tQ2 4 ?_;refine tQ 6 ?_;refine oQ4 7 ?_;refine oQ4 11 ?_;refine tQ2 15 ?_;refine oQ4 17 ?_;refine oQ4 21 ?_;refine oQ4 25 ?_;refine oQ2 29 ?_;refine tQ2 31 ?_;refine Ce ?_;go_wp2;go_meet;exact⟨by rw[hB.out],S3⟩
  have gp:(a.ph != 1)=false:=qsu Gy;by_cases hs:l.ses=a.last
  case neg=>
   have gs:(l.ses != a.last)=true:=qsu hs;have hB:Aj (B9=true):=F (by rw[<-HB9.out];exact Er (.inr (.inl hs)));clear Gy hs;refine qrh w3 S3 fun hHeld=>?_
   refine tQ4 0 ?_;refine tQ4 4 ?_;refine tQ4 8 ?_;refine tQ4 12 ?_;refine tQ 16 ?_;refine oQ4 17 ?_;refine oQ4 21 ?_;refine oQ4 25 ?_;refine oQ2 29 ?_;refine tQ2 31 ?_;refine Ce ?_;go_wp2;go_meet;exact⟨by rw[hB.out],S3⟩
  have gs:(l.ses != a.last)=false:=qsu hs;by_cases hk:l.kind=11
  case pos=>
   have gk:(l.kind != 11)=false:=qsu hk;have hB:Aj (B9=false):=F (by rw[<-HB9.out];exact Ds (by rintro(e | e | e);exact e Gy;exact e hs;exact e.1 hk));clear Gy hs hk;refine qrh w3 S3 fun hHeld=>?_
   refine tQ4 0 ?_;refine tQ4 4 ?_;refine tQ4 8 ?_;refine tQ4 12 ?_;refine tQ4 16 ?_;refine tQ 20 ?_;refine oQ4 21 ?_;refine oQ4 25 ?_;refine oQ 29 ?_;refine tQ2 30 ?_;refine tQ 32 ?_;refine Ce ?_;go_wp2;go_meet;exact⟨by rw[hB.out],S3⟩
  have gk:(l.kind != 11)=true:=qsu hk
  have hB:Aj (B9 = !C):=F (by
   rw[<-HB9.out,<-HC.out]
   have e:a.wait.contains l.kind=decide (l.kind∈a.wait):=by
    cases h:a.wait.contains l.kind with
    | true=>exact(Er (dG.1 h)).symm
    | false=>exact(Ds (fun e=>by rw[dG.2 e]at h;cases h)).symm
   rw[e];simp[Gy,hs,hk])
  clear Gy hs hk;refine qrh w3 S3 fun hHeld=>?_
  refine tQ4 0 ?_;refine tQ4 4 ?_;refine tQ4 8 ?_;refine tQ4 12 ?_;refine tQ4 16 ?_;refine tQ4 20 ?_;refine tQ4 24 ?_;refine url 28 (fun KU Bc=>?_);go_simp;refine(cC _ S3).mono ?_;rintro e w4⟨rfl,rfl⟩;cases C with
  | true=>
   refine Bc.out _ _ (S3) (fun _=>?_);refine zp ?_;refine tQ4 29 ?_;refine Ce ?_;go_wp2;go_meet;exact⟨by rw[hB.out];rfl,S3⟩
  | false=>
   refine Bc.out _ _ (S3) (fun _=>?_);refine zp ?_;refine tQ4 29 ?_;refine Ce ?_;go_wp2;go_meet;exact⟨by rw[hB.out];rfl,S3⟩
 obtain⟨AiC,hb4⟩:=hcut;subst AiC;obtain⟨w4,rfl⟩:=qgn wc;clear L39 L38 L43 L0 L1 cC S3 y1;have b4:=AH b3 hb4;have jy:Aj (¬(a.took.any (bK · l))=true):=F (by rw[HT.out];decide);cases B9 with
 | true=>
  have hr:Aj (AW=(a,[],11)):=F (by rw[<-HR.out];unfold AV.Gj;rw[AU h4,AU hgo.out,AU jy.out,Bd (Ib HB9.out)]);go_wp2;go_ret2;exact Vp.stay h fr b4 hr
 | false=>
 have hst:=Xc HB9.out
 have hb1:a.ph=1:=by
  refine Xg fun e=>hst (.inl e)
 have hwt:l.kind=11\/l.kind∈a.wait:=by
  refine Xg fun e=>hst (.inr (.inr ⟨fun e2=>e (.inl e2),fun e2=>e (.inr e2)⟩))
 have Fv:=F hst;have Hb1:=F hb1;have Hwt:=F hwt;clear hst hb1 hwt h1 h2;have h4':=h3.on hb4;have JB:=Gz.on hb4.size;have GV:=EH.on hb4;have y36:E w4 ⟨b,36,Z⟩=I (AI (I ⟨x.pool,0,Z⟩)):=h4'.row.c 36;have pl4:=h4'.pool.at_;have Qj:=h4'.off hi;obtain⟨AM,hE⟩:=Az (IJ W bits a.used l.num l.bits l.tag);have HE:=F hE;have cSp:=qbw w4 fun y hy=>mV (l.at A c) y (lIn.on (AH b4 hy)) Hhd.out KE.out.ws
 have hpb:↑w<=p:=hpw;go_upto_region 11 with fail;go_cut [6] (fun v6 wx=>v6=U O AM/\Dq wx p (l.at A c)/\((AM≠0/\Ag w4 w4 wx)\/(AM=0/\CG wx x.pool nb mb W bits (l.num.toNat::a.used)/\AT (fun k=>k=mb) w4 wx)))
 case first=>
  have S4:=(Ae w4 w4).drew;have Pn:mb<↑w:=h.pool.at_.us.lt;have hmp:p≠mb:=J;have y2:E w4 ⟨p,2,Z⟩=I (U O l.num):=GV.c 2;have y4:E w4 ⟨p,4,Z⟩=I (U AA l.tag):=GV.c 4;refine Fz (S:=fun w'=>E w' ⟨b,36,Z⟩=I (AI (I ⟨x.pool,0,Z⟩))/\E w' ⟨p,2,Z⟩=I (U O l.num)/\E w' ⟨p,4,Z⟩=I (U AA l.tag)/\Dq w' p (l.at A c)) AG ⟨y36,y2,y4,GV⟩ (fun hHeld=>?_);refine tQ4 0 ?_;refine tQ2 4 ?_;refine tQ 6 ?_;refine G3 (i:=7) (v:= Ba (l.at A c).cs) Q AG AG AG (fun _ _ _ h=>h) (MQ Q 39 _ (by rfl) p 0 (by rfl) (l.at A c).cs _ (fun w' hS j v hv=>hS.2.2.2.all j v hv) underlying39 Q isz) hHeld ?_;refine zp ?_;refine tQ2 9 ?_;refine url 8 (fun KU Bc=>?_);go_simp;refine(cSp _ S4).mono ?_;rintro e w5⟨v5,rfl,NC,AiD⟩;have Bh:=AH S4 AiD;obtain⟨A5,c5,rfl,l5,m5,n5,ar5⟩:=NC.form Dk;refine Bc.out _ _ ⟨AK Bh y36,AK Bh y2,AK Bh y4,GV.on Bh⟩ (fun _=>?_);refine zp ?_;have cO:=Aaw x.pool nb mb W bits a.used l.num A5 c5 (Ga (l.at A c)) l.tag w5 (pl4.on Bh) ar5 l5 m5;rw[show IJ W bits a.used l.num (Ga (l.at A c)) l.tag=AM from HE.out]at cO;refine url 11 (fun KU Bc=>?_);go_simp;refine gqz cO fun w6 hO=>?_
  have S6:E w6 ⟨b,36,Z⟩=I (AI (I ⟨x.pool,0,Z⟩))/\E w6 ⟨p,2,Z⟩=I (U O l.num)/\E w6 ⟨p,4,Z⟩=I (U AA l.tag)/\Dq w6 p (l.at A c):=by
   rcases hO with⟨_,hb⟩ | ⟨_,_,hg⟩
   ·have BV:=AH Bh hb
    exact⟨AK BV y36,AK BV y2,AK BV y4,GV.on BV⟩
   ·refine⟨hg.cell (AK Bh y36) ?_,hg.cell (AK Bh y2) ?_,hg.cell (AK Bh y4) ?_,?_⟩
    ·simpa using h.mbb.symm
    ·simpa using hmp
    ·simpa using hmp
    ·have h5:=GV.on Bh
     exact(hg.block p (Bm.1 h5).1 (qsu hmp)).trans h5
  have R6:(AM≠0/\Ag w4 w4 w6)\/(AM=0/\CG w6 x.pool nb mb W bits (l.num.toNat::a.used)/\AT (fun k=>k=mb) w4 w6):=by
   rcases hO with⟨he,hb⟩ | ⟨he,hp,hg⟩
   ·exact .inl ⟨he,AH Bh hb⟩
   ·exact .inr ⟨he,hp,(AT.of Bh).trans (AT.grown hg (fun g hg=>by cases hg;exact .inl Q))⟩
  refine Bc.out _ _ S6 (fun _=>?_);refine zp ?_;refine tQ 12 ?_;refine Ce ?_;go_wp2;go_meet;exact⟨rfl,S6.2.2.2,R6⟩
 obtain⟨hv6,JO,hO⟩:=hcut;subst hv6;obtain⟨w6,rfl⟩:=qgn wc;rcases hO with⟨e0,BV⟩ | ⟨e0,pl6,o46⟩
 ·have g0:(AM != 0)=true:=qsu e0
  have hr:Aj (AW=(a,[],AM)):=F (by
   rw[<-HR.out];unfold AV.Gj;rw[AU h4,AU hgo.out,AU jy.out,AU Fv.out,show IJ (x.z W bits).W (x.z W bits).bits a.used l.num l.bits l.tag=AM from HE.out,Bd e0])
  clear e0;go_wp2;go_ret2;exact Vp.stay h fr (AH b4 BV) hr
 subst e0
 have hr:Aj (AW=(((x.z W bits).Td l.kind {a with used:=l.num.toNat::a.used,took:=I l,waited:=0} l.ws).1,((x.z W bits).Td l.kind {a with used:=l.num.toNat::a.used,took:=I l,waited:=0} l.ws).2,0)):=F (by
  rw[<-HR.out];unfold AV.Gj;rw[AU h4,AU hgo.out,AU jy.out,AU Fv.out,show IJ (x.z W bits).W (x.z W bits).bits a.used l.num l.bits l.tag=0 from HE.out,AU AO])
 have Pn:mb<↑w:=h.pool.at_.us.lt;have hbl:b<↑w:=(Bm.1 h.row).1;have o06:AT (fun k=>k=b\/k=mb) w w6:=(AT.of b4).trans (o46.mono (fun k _ e=> .inr e));have k06:=h.kp hi o06;obtain⟨A',c',he,Ll,hl2,hl3,har,htg⟩:=hv;cases he;have Jq:=o06.arr har (fun y hy=>k06.np (htg y hy).2);have cK:=WV A c l.ws w6 Jq hl3 Ll J;have z3:E w6 ⟨p,3,Z⟩=I (R A (Y l.ws) c):=JO.c 3;have XH:Cu w6 b x:=(o46.block b (Ck hbl b4.size) (fun e=>h.mbb e.symm)).trans (h.row.on b4);clear y36 cSp Qj pl4 h3 h4' XL Fy EH GV;go_upto_region 14 with fail;go_wp2_with fail;refine cK.mono ?_;rintro e w7⟨v7,rfl,OY,Cl⟩;obtain⟨A7,c7,rfl,l7,m7,n7,ND⟩:=OY.form DY;have At7:=JO.on Cl;have zz3:E w7 ⟨p,3,Z⟩=I (R A (Y l.ws) c):=At7.c 3;have zf3:=At7.fr 3;have At8:Dq (Ai w7 ⟨p,3,Z⟩ (R A7 (Y l.ws) c7)) p (l.at A7 c7):=At7.set 3 _ Q;have hb0:w.heap.size<=w7.heap.size:=Br (Br b4.size o46.size) Cl.size;have hp7:p<↑w7:=(Bm.1 At7).1;have tp0:τ p=0:=fr p hpw;have uC:=XH.on Cl;have KD:Cu (Ai w7 ⟨p,3,Z⟩ (R A7 (Y l.ws) c7)) b x:=(Jo w7 ⟨p,3,Z⟩ b _ qsm).trans uC
 have ow8:=OY.keep (Fo w7 p 3 (R A7 (Y l.ws) c7)) (by
  cases e:(Value.slice A7 (Y l.ws) c7).ownBlock with
  | none=>exact .inl Q
  | some g=>exact .inr (by have:=(Cp OY g e).1;have:=(Bm.1 JO).1;simp;omega))
 have o68:AT (fun k=>k=p) w6 (Ai w7 ⟨p,3,Z⟩ (R A7 (Y l.ws) c7)):=(AT.of Cl).trans (AT.set Q);go_upto_region 15 with fail;obtain⟨w8,RA⟩:=Az (Ai w7 ⟨p,3,Z⟩ (R A7 (Y l.ws) c7));rw[RA]at At8 KD ow8 o68 ⊢;clear RA zz3 zf3 At7 uC z3 cK Jq;have y45:=KD.c 45;have z45:=KD.fr 45;have My:Cu (Ai w8 ⟨b,45,Z⟩ (AI (I ⟨p,0,Z⟩))) b {x with k:={x.k with took:= AI (I ⟨p,0,Z⟩)}}:=KD.set 45 _ Q;have y46:=KD.c 46;have z46:=KD.fr 46;have Fr:Cu (Ai (Ai w8 ⟨b,45,Z⟩ (AI (I ⟨p,0,Z⟩))) ⟨b,46,Z⟩ (U O 0)) b {x with k:={x.k with took:= AI (I ⟨p,0,Z⟩),waited:=0}}:=My.set 46 _ Q;have Zj:AT (fun k=>k=b) w8 (Ai (Ai w8 ⟨b,45,Z⟩ (AI (I ⟨p,0,Z⟩))) ⟨b,46,Z⟩ (U O 0)):=(AT.set (S:=fun k=>k=b) Q).trans (AT.set (S:=fun k=>k=b) Q);go_upto_region 16 with fail;obtain⟨Bs,RC⟩:=Az (Ai (Ai w8 ⟨b,45,Z⟩ (AI (I ⟨p,0,Z⟩))) ⟨b,46,Z⟩ (U O 0));rw[RC]at Fr Zj ⊢;have AiE:p≠b:=J;have Zk:Dq Bs p (l.at A7 c7):=Zj.row At8 AiE;have jz:AT (fun k=>k=p\/k=b) w6 Bs:=(o68.mono (fun k _ e=> .inl e)).trans (Zj.mono (fun k _ e=> .inr e));have dH:AT (fun k=>k=b\/k=mb) w Bs:=(AT.trans (o06.mono (T:=fun k=>(k=b\/k=mb)\/w.heap.size<=k) (fun k _ e=> .inl e)) (jz.mono (fun k _ e=>by rcases e with e | e;exact .inr J;exact .inl (.inl e)))).mono (fun k hk e=>by rcases e with e | e;exact e;omega);have To:=h.kp hi dH
 have uD:CG Bs x.pool nb mb W bits (l.num.toNat::a.used):=by
  have UM:=h.off hi;obtain⟨A0,cc0,g1,g2,g3,g4,g5,g6⟩:=h.pool.at_.c2;have hpl:x.pool<↑w:=Ch w _ h.pool.at_.c0;have hnl:nb<↑w:=Ch w _ h.pool.at_.d0;refine pl6.Ik jz (by rintro(e | e);omega;exact UM.p e) (by rintro(e | e);omega;exact UM.n e) (by rintro(e | e);omega;exact UM.m e) (fun A2 c2 hc2 y hy e=>?_);have hc6:=o06.cell g1 (k06.np h.pool.tp);rw[hc6]at hc2;cases hc2;have:=(g6 y hy).2;rcases e with e | e
  ·omega
  ·exact UM.a _ _ g1 y hy e
 have l10:=(ow8.lift (BM _))
 have Th:=Zj.own ow8 (fun k hk e=>by have:=(Cp ow8 k hk).1;have:=(Bm.1 JO).1;omega);have AiF:w.heap.size<=w6.heap.size:=o06.size;have Pt:=Th.imm DY (fun k hk=>fr k (Br AiF hk));obtain⟨A9,c9,N7,g1,g2,g3,g4,g5⟩:=Pt;cases N7;have uE:SU τ Bs p l:=⟨A7,c7,Zk,⟨g4,g1,g2,g3⟩,(Bm.1 Zk).1,tp0,g5⟩
 have Pt:Imm 1 BD τ Bs (R A7 (Y l.ws) c7) l.ws:=⟨A7,c7,Q,g1,g2,g3,g4,g5⟩
 have li:=h.li
 have h10:Bx τ Bs i b {x with k:={x.k with took:= AI (I ⟨p,0,Z⟩),waited:=0}} W nb mb bits {a with used:=l.num.toNat::a.used,took:=I l,waited:=0}:=
  h.change hi dH Fr Q Q Q ⟨h.num.last,h.num.ph,h.num.rs,rfl,h.num.sh,h.num.n,h.num.t,h.num.has⟩ ⟨li.pulses.keep To,li.clicks.keep To,li.wait.keep To,li.sent.keep To,.inr ⟨p,l,rfl,rfl,uE⟩,li.ledger.keep To,li.kept.keep To,li.slots.keep To,li.decoys.keep To,li.block.keep To⟩ Q Q uD Q
 have NZ:=fr.on dH.size;have ht:=ok.n.tries
 have uF:BO (x.z W bits) {a with used:=l.num.toNat::a.used,took:=I l,waited:=0}:=
  {iv with took:=fun l' e=>(by
    have e2:l=l':=qsu e;exact e2▸KE.out),wt:=(by decide:(0:Int)<=0/\(0:Int)<=101),wb:=fun _=>(show(0:Int)<=x.s.tries by omega)}
 have cA:=Aiv h10 hi NZ ok uF Hb1.out l.kind KE.out.kind Hwt.out A7 c7 l.ws Pt KE.out.len KE.out.ws;have zk:E Bs ⟨p,1,Z⟩=I (U O l.kind):=Zk.c 1;have zw:E Bs ⟨p,3,Z⟩=I (R A7 (Y l.ws) c7):=Zk.c 3;have f010:=h.frm dH;clear RC y45 z45 y46 z46 h10 uD li uE Pt Zk At8 KD My Fr ow8 Th OY l10 To k06 o06 jz o68 Zj o46 pl6 uF g4 g5;go_wp2_with fail;refine cA.mono ?_;rintro e FW⟨τ',x',v',rfl,f,fr',hs,ho,fx⟩;go_wp2;go_ret2;rw[hr.out];exact⟨τ',x',v',Q,f010.trans f,fr',hs,ho,⟨fx.s,fx.side,fx.pool⟩⟩
end
theorem Bt.AiG(q:Bt)(D:Int)(a:Bb):(q.put D a).way=q.way:=by grind [Bt.put]
theorem AiH{τ:Nat->Nat}{w:V}{M:Dg}{v:Bj}{q:Bt}(h:CO τ w M v q)(fr:BU τ w)(hv:Gm v){D:Int}(hD:D=0\/D=1)(iv:BO (v.z D) (q.at D))(hq:Y q.way<=64)(l:Lt)(lw:Y l.ws<=1000000){A:Option AS}{c:Nat}(im:Imm 1 BD τ w (R A (Y l.ws) c) l.ws):
  ∃b,E w ⟨M.b,37+D.toNat,Z⟩=I (AI (I ⟨b,0,Z⟩))/\∀w1,Ag w w w1->
   AL AE 46 #[AI (I ⟨b,0,Z⟩),(l.at A c).val] w1 fun e w2=>∃vl,e=AN (Be #[vl,U O ((v.z D).Gj (q.at D) l).2.2])/\(∀(B:Nat) (o:Obj),τ B=0->w.heap[B]?=I o->w2.heap[B]?=I o)/\(∀(j:Nat) (u:An),E w ⟨M.b,j,Z⟩=I u->E w2 ⟨M.b,j,Z⟩=I u)/\
    ∀w3,Ag w2 w2 w3->AL AE 65 #[AI (I ⟨M.b,0,Z⟩),U O (1-D),vl] w3 fun e w4=>e=AN (Be #[])/\Dh τ w M v {q.put D ((v.z D).Gj (q.at D) l).1 with way:=I2 (1-D) q.way ((v.z D).Gj (q.at D) l).2.1} w4:=by
 obtain⟨i,b,x,nb,mb,s⟩:=h.side hD;refine⟨b,s.cell,fun w1 b1=>?_⟩;have ez:x.s=(v.z D).s:=congrArg AV.s s.z;refine(Aiy (s.t.on b1) s.i0 (fr.on b1.size) (qrf ez ((hv.z D).s)) (by rw[s.z];exact iv) l A c (im.keep (Kp.of b1)) lw).mono ?_;rintro e w2⟨τ',x',v',rfl,f2,Ej,st,O2,fx⟩;rw[s.z]at st O2;have f3:=(Frm.of (τ:=τ) (i:=i) b1).trans f2;obtain⟨M',pa,px⟩:=s.up _ _ _ _ f3 fx st;refine⟨v',by rw[s.z],fun B o hB ho=>f3.out.row ho (fun e=>s.i0 (e.symm.trans hB)),fun j u hj=>f3.out.cell hj (fun e=>s.ik (e.symm.trans h.tb)),fun w3 b3=>?_⟩;have pa3:=pa.on b3;have e1:=Bt.AiG q D ((v.z D).Gj (q.at D) l).1;have c1:=jf pa3 (Ej.on b3.size) (1-D) v' _ (Ju.keep O2 (Kp.of b3)) (by grind);rw[px.b,e1]at c1;refine gqz c1 fun w4 pe=>?_;exact⟨Q,Dh.of (f3.t s.iT) px (Dh.of (EN.of b3) (GO.refl _) pe)⟩
end Go.Proofs.YtjpidgffdkjjeaaGreat
