/- Contracts and plain laws. No condition. -/
import Derived.Test.YtjpidgffdkjjeaaGreatCA
import Derived.Test.YtjpidgffdkjjeaaGreatC21
set_option linter.all false
set_option maxHeartbeats 16000000
namespace Go.Proofs.YtjpidgffdkjjeaaGreat
open Go.Proofs.Tryz
open Go.Proofs.Tryz renaming prog->AE
open List renaming length->Y
open Go.World renaming cell?->E,setCell->Ai,alloc->Ao,frozen?->Bo
open Go.Value renaming int->U,slice->R,pointer->AI,agg->Ba,tuple->Be,nilFunc->Bl,bool->Av
open Go.IntKind renaming i64->O,u64->AA,u32->BF,u8->Cd
open Option renaming none->Z,some->I
open Go.Ending renaming returned->AN
open Go.Obj renaming cells->N
open Go renaming World->V,Value->An,Calls->AL,Addr->AS
open Go.RowKit renaming Below->Ag,Hid->Aj
set_option maxRecDepth 100000
open Go.RowKit
def take_next{α:Type}{l m:List α}{k:Nat}(hl:k<Y l)(hm:k<Y m)(h:l.take k=m.take k)(hx:l[k]=m[k]):l.take (k+1)=m.take (k+1):=by
 rw[Wu hl,Wu hm,h,hx]
def X9(A B:Option AS)(n c:Nat)(l m:List Bool)(w:V)(hA:Arr 1 C4 w w A l)(hB:Arr 1 C4 w w B m)(hl:Y l<=4611686018427387904)(hm:Y m<=4611686018427387904):
  AL AE 38 #[R A (Y l) n,R B (Y m) c] w fun e w'=>e=AN (Av (decide (l=m)))/\Ag w w w':=by
 have hEq:Aj (∀b,decide (l=m)=b↔decide (l=m)=b):=F (fun _=>Iff.rfl);obtain⟨D,hD⟩:=Az (decide (l=m));have HD:=F hD;clear hEq;rw[hD];clear hD;go_in;by_cases hlen:Y l=Y m
 ·rw[<-hlen]
  have Uw:=F hlen;have Nh:∀k,k<Y l->k<Y m:=fun k h=>by omega
  have Hm2:=F Nh;clear hlen hm Nh;go_wp2_with fail;go_loopw [5] (fun i wr=>∃k:Nat,k<=Y l/\i=U O k/\Aj (l.take k=m.take k)/\Ag w w wr) (fun i _=>Y l-(intOf i).toNat);exact⟨0,J,rfl,F AO,Ae _ _⟩
  obtain⟨k,hk,rfl,ht,hb⟩:=hrel;by_cases hlt:k<Y l
  ·obtain⟨b1,o1,x,rfl,_,hx,c1⟩:=hA.bool hlt hb
   obtain⟨b2,o2,y,rfl,_,hy,c2⟩:=hB.bool (Hm2.out k hlt) hb
   have hno:Aj (x≠y->D=false):=F (fun h=>by
    rw[<-HD.out,decide_eq_false_iff_not];rintro rfl;exact h (Option.some.inj (hx.out.symm.trans hy)))
   have hst:Aj (x=y->l.take (k+1)=m.take (k+1)):=F (fun h=>take_next hlt (Hm2.out k hlt) ht (by
    obtain⟨_,h1⟩:=EF.1 hx;obtain⟨_,h2⟩:=EF.1 hy;rw[h1,h2,h]))
   cases x <;> cases y
   ·go_wp2_with fail
    go_region;go_wp2_with fail;go_roundw;exact⟨k+1,J,qgm,F (by first | exact hst.out rfl | exact hst.out trivial | exact hst.out),hb.drew⟩;simp[intOf];omega
   ·go_wp2_with fail
    go_region;go_wp2;go_ret;exact⟨JJ (hno.out AC).symm,hb.drew⟩
   ·go_wp2_with fail
    go_region;go_wp2;go_ret;exact⟨JJ (hno.out AC).symm,hb.drew⟩
   ·go_wp2_with fail
    go_region;go_wp2_with fail;go_roundw;exact⟨k+1,J,qgm,F (by first | exact hst.out rfl | exact hst.out trivial | exact hst.out),hb.drew⟩;simp[intOf];omega
  ·have e1:Aj (D=true):=F (by
    have h1:l.take k=l:=EG J;have h2:m.take k=m:=EG (by have:=Uw.out;omega);rw[<-HD.out,decide_eq_true_iff,<-h1,ht.out,h2])
   go_wp2;go_ret;exact⟨JJ e1.out.symm,hb⟩
 ·have e1:Aj (D=false):=F (by
   rw[<-HD.out,decide_eq_false_iff_not];rintro rfl;exact hlen Q)
  have g1:((Y l:Int) != (Y m:Int))=true:=by simpa using(by omega:¬((Y l:Int)=(Y m:Int)))
  clear hlen;go_wp2;go_ret;exact⟨JJ e1.out.symm,Ae _ _⟩
open Go.Maps
def AjY(A B:Option AS)(n m:Nat)(l:List C8)(w:V)(hA:Arr 2 C8.enc w w A l)(hB:Arr 2 C8.enc w w B l)(hl:Y l<=4611686018427387904):
  AL AE 39 #[R A (Y l) n,R B (Y l) m] w fun e w'=>e=AN (Av true)/\Ag w w w':=by
 go_in;go_wp2;go_loopw [5] (fun i wr=>∃k:Nat,k<=Y l/\i=U O k/\Ag w w wr) (fun i _=>Y l-(intOf i).toNat);exact⟨0,BM _,rfl,Ae _ _⟩
 obtain⟨k,hk,rfl,hb⟩:=hrel;by_cases hlt:k<Y l
 ·obtain⟨b,off,qs,qb,rfl,BN,hq,c0,c1⟩:=hA.itm hlt hb
  obtain⟨b',ZT,qs',qb',rfl,il,OX,JW,c1'⟩:=hB.itm hlt hb;obtain⟨rfl,rfl⟩:qs=qs'/\qb=qb':=by have:=hq.out.symm.trans OX;simpa using this
  have d0:=Di c0;have d1:=Di c1;have d0':=Di JW;have d1':=Di c1';go_wp2;refine Jf AG AG ?_
  repeat(go_big_quiet_step (fail))
  refine GP ?_;rintro w1⟨⟨_,hb1⟩,rfl⟩;go_wp2;go_roundw;exact⟨k+1,J,qgm,AH hb hb1⟩;simp[intOf];omega
 ·go_wp2
  go_ret;exact⟨Q,hb⟩
def C6(τ:Nat->Nat)(w:V)(rv:List EZ)(l:List Rc):Prop:=Y rv=Y l/\∀(k:Nat) (r:EZ) (q:Rc),rv[k]?=I r->l[k]?=I q->DS τ w r q
def C6.keep{τ τ':Nat->Nat}{w w':V}{rv:List EZ}{l:List Rc}{S:Nat->Prop}(h:C6 τ w rv l)(hf:Kp τ τ' w w' S):C6 τ' w' rv l:=⟨h.1,fun k r q hr hq=>(h.2 k r q hr hq).keep hf⟩
def Few6(l:List Rc):Prop:=∀q∈l,Y q.block<=100000/\Y q.ledger<=100000/\Y q.key<=100000
def AjZ{τ τ':Nat->Nat}(A B:Option AS)(n m:Nat)(rv sv:List EZ)(l:List Rc)(w:V)(hA:Arr 6 EZ.enc w w A rv)(hB:Arr 6 EZ.enc w w B sv)(hr:C6 τ w rv l)(hs:C6 τ' w sv l)(few:Few6 l)(hl:Y l<=1000000):
  AL AE 35 #[R A (Y rv) n,R B (Y sv) m] w fun e w'=>e=AN (Av true)/\Ag w w w':=by
 obtain⟨r1,r2⟩:=hr;obtain⟨s1,s2⟩:=hs;have R1:=F r1;have S1:=F s1;rw[r1,s1];clear r1 s1;go_in;go_wp2_with fail;go_loopw [5] (fun i wr=>∃k:Nat,k<=Y l/\i=U O k/\Ag w w wr) (fun i _=>Y l-(intOf i).toNat);exact⟨0,BM _,rfl,Ae _ _⟩
 obtain⟨k,hk,rfl,hb⟩:=hrel;obtain⟨w1,rfl⟩:=qgn wr;by_cases hlt:k<Y l
 ·obtain⟨⟨rs,rb,rn,AcO,rl,AcJ⟩,er⟩:∃r,rv[k]?=I r:=⟨_,CH (by have:=R1.out;omega)⟩
  obtain⟨⟨ss,sb,sn,st,sl,Ae0⟩,es⟩:∃r,sv[k]?=I r:=⟨_,CH (by have:=S1.out;omega)⟩
  obtain⟨⟨qs,qb,qn,Aaj,Aaa,qk⟩,qh⟩:∃q,l[k]?=I q:=⟨_,CH hlt⟩
  obtain⟨f1,f2,f3⟩:=few _ (DI qh);obtain⟨a1,a2,a3,⟨B1,x1,ab,-,-,-,gb,-⟩,⟨L1,y1,al,-,-,-,gl,-⟩,⟨K1,z1,gV,-,-,-,gk,-⟩⟩:=r2 k _ _ er qh;obtain⟨b1,b2,b3,⟨B2,x2,bb,-,-,-,hb',-⟩,⟨L2,y2,bl,-,-,-,hl',-⟩,⟨K2,z2,bk,-,-,-,hk',-⟩⟩:=s2 k _ _ es qh;simp only at a1 a2 a3 ab al gV b1 b2 b3 bb bl bk f1 f2 f3;subst a1 a2 a3 ab al gV b1 b2 b3 bb bl bk;obtain⟨u,Qg,rfl,hu,zv⟩:=hA (fun e=>by rw[e]at er;cases er);obtain⟨v,QX,rfl,hv,cv⟩:=hB (fun e=>by rw[e]at es;cases es);have c0:=qbw w1 fun w' h=>(AK (AH hb h) (zv k _ er 0 _ Q):E w' ⟨u,Qg+k*6,Z⟩=_)
  have c1:=qbw w1 fun w' h=>AK (AH hb h) (zv k _ er 1 _ Q)
  have c2:=qbw w1 fun w' h=>AK (AH hb h) (zv k _ er 2 _ Q)
  have c3:=qbw w1 fun w' h=>AK (AH hb h) (zv k _ er 3 _ Q)
  have c4:=qbw w1 fun w' h=>AK (AH hb h) (zv k _ er 4 _ Q)
  have c5:=qbw w1 fun w' h=>AK (AH hb h) (zv k _ er 5 _ Q)
  have d0:=qbw w1 fun w' h=>(AK (AH hb h) (cv k _ es 0 _ Q):E w' ⟨v,QX+k*6,Z⟩=_)
  have d1:=qbw w1 fun w' h=>AK (AH hb h) (cv k _ es 1 _ Q)
  have d2:=qbw w1 fun w' h=>AK (AH hb h) (cv k _ es 2 _ Q)
  have d3:=qbw w1 fun w' h=>AK (AH hb h) (cv k _ es 3 _ Q)
  have d4:=qbw w1 fun w' h=>AK (AH hb h) (cv k _ es 4 _ Q)
  have d5:=qbw w1 fun w' h=>AK (AH hb h) (cv k _ es 5 _ Q)
  have cB:=qbw w1 fun w' h=>X9 B1 B2 x1 x2 qb qb w' (gb.on (AH hb h)) (hb'.on (AH hb h)) J J
  have cK:=qbw w1 fun w' h=>X9 K1 K2 z1 z2 qk qk w' (gk.on (AH hb h)) (hk'.on (AH hb h)) J J
  have cL:=qbw w1 fun w' h=>AjY L1 L2 y1 y2 Aaa w' (gl.on (AH hb h)) (hl'.on (AH hb h)) J
  have Vq:=F cB;have Rm:=F cK;have CL:=F cL;have hbo:=hb;have Hl:=F hl;clear cB cK cL r2 s2 er es qh f1 f2 f3 gb gl gk hb' hl' hk' zv cv few hb hl;go_upto_region 6 with fail;simp only[List.append];refine qrh w1 ((Ae w1 w1).drew) fun hHeld=>?_
  obtain⟨wd,hwd⟩:=Az (w1.drew);rw[hwd]at hHeld ⊢;clear hwd;refine tQ4 0 ?_;refine tQ4 4 ?_;refine tQ4 8 ?_;refine tQ4 12 ?_;refine tQ4 16 ?_;refine tQ4 20 ?_;refine tQ4 24 ?_;refine tQ4 28 ?_;refine tQ4 32 ?_;refine tQ4 36 ?_;refine tQ4 40 ?_;refine tQ4 44 ?_;refine url 48 (fun KU Bc=>?_);go_simp;refine gqz (Vq.out wd hHeld) fun w2 hb2=>?_;rw[Er Q];have q2:=AH hHeld hb2;refine Bc.out _ _ q2 (fun _=>?_);refine tQ4 49 ?_;refine tQ4 53 ?_;refine tQ4 57 ?_;refine tQ 61 ?_;refine url 62 (fun KU Bc=>?_);go_simp;refine gqz (Rm.out w2 q2) fun w3 hb3=>?_;rw[Er Q];have q3:=AH q2 hb3;refine Bc.out _ _ q3 (fun _=>?_);refine tQ4 63 ?_;refine tQ4 67 ?_;refine tQ4 71 ?_;refine tQ 75 ?_;refine url 76 (fun KU Bc=>?_);go_simp;refine gqz (CL.out w3 q3) fun w4 hb4=>?_;have q4:=AH q3 hb4;refine Bc.out _ _ (q4) (fun _=>?_);refine zp ?_;refine tQ2 77 ?_;refine Ce ?_;have h9:=Hl.out;go_wp2_with fail;go_roundw;exact⟨k+1,J,qgm,AH hbo q4⟩;simp[intOf];omega
 ·go_wp2_with fail
  go_ret;exact⟨Q,hb⟩
def AhH:(prog.info? 326).map (fun i=>(i.zero,i.size,i.bytes))=I (I (Ba #[U O 0,U O 0]),2,16):=AG
def Imm.take{α:Type}{sz:Nat}{enc:α->List An}{τ:Nat->Nat}{w:V}{A:Option AS}{c:Nat}{l:List α}(h:Imm sz enc τ w (R A (Y l) c) l){n:Nat}(hn:n<=Y l):Imm sz enc τ w (R A n c) (l.take n):=by
 obtain⟨A',c',he,h1,h2,h3,ha,hb⟩:=h;cases he;refine⟨A,c,by rw[DC,Oo hn],by rw[DC];omega,h2,h3,fun hl=>?_,hb⟩;obtain⟨g,off,e,hg,hc⟩:=ha (fun e=>hl (by rw[e];simp))
 exact⟨g,off,e,hg,fun i x hx=>hc i x (by
  rw[List.getElem?_take]at hx;split at hx
  ·exact hx
  ·cases hx)⟩
section
variable {τ:Nat→Nat} {w:V} {i b W nb mb:Nat} {x:BR} {bits:List Bool} {a:Bb}
def AhI(h:Bx τ w i b x W nb mb bits a)(hi:i≠0)(fr:BU τ w)(ok:Gi x.s W)(iv:BO (x.z W bits) a)(hb1:a.ph=1)(hdec:a.decoys=[])
  (A:Option AS) (c:Nat) (ws:List Int) (hv:Imm 1 BD τ w (R A (Y ws) c) ws) (lw:Y ws<=4096) (hw:ws.all okW=true):
  AL AE 197 #[AI (I ⟨b,0,Z⟩),R A (Y ws) c] w fun e w'=>QD τ w i b W nb mb bits x ((x.z W bits).TS a ws) e w':=by
 have FZ:=ok.n;obtain⟨A0,c0,MO,lk,mk,nk,hA,tA⟩:=hv;cases MO;obtain⟨P,hP⟩:=Az ((x.z W bits).TS a ws);rw[hP];have HP:=F hP;have Hw:=F hw;clear hP hw;go_in;go_upto_region 3 with fail;go_loopw [5,18] (fun ov iv wr=>∃k:Nat,k<=Y ws/\iv=U O k/\Own wr w 326 2 CK.enc ov ((ws.take k).map KS)/\Ag w w wr) (fun _ iv _=>Y ws-(intOf iv).toNat);exact⟨0,J,rfl,Own.nil,Ae _ _⟩
 obtain⟨k,hk,rfl,oj,Co⟩:=hrel;obtain⟨w8,rfl⟩:=qgn wr;by_cases hlt:k<Y ws
 ·obtain⟨bk,off,q,rfl,BN,hq,d0⟩:=hA.int hlt Co
  have hqo:=EA.1 Hw.out q (DI hq.out);obtain⟨n,rfl⟩:=Wi hqo;have hn5:n<=65535:=by unfold okW AR at hqo;have:=Ib hqo;omega
  have hst:Aj ((ws.take (k+1)).map KS=(ws.take k).map KS++ [⟨(n:Int) / 2,(n:Int)%2⟩]):=F (by rw[GU,hq.out];simp[KS]);have Cm:(((ws.take k).map KS).length+1)*16<=140737488355328:=by rw[Dz,DC];omega
  have IH:=Co.size;obtain⟨G0,hU⟩:∃G0:Int,(n:Int) / 2=G0:=⟨_,Q⟩
  obtain⟨AF,hV⟩:∃G0:Int,(n:Int)%2=G0:=⟨_,Q⟩
  rw[hU,hV]at hst;have u0:wrap64 G0=G0:=Lg _ J;have u1:wrap64 AF=AF:=Lg _ J;generalize(ws.take k).map KS=M at*;go_wp2_with(at_builtin;refine Ef underlying322 AhH M ⟨G0,AF⟩ oj (CK.one _) Cm IH ?_;intro v9 w9 CD BC);exact⟨⟨k+1,J,qgm,qrf hst.out CD,Co.trans BC⟩,qio⟩
 ·obtain rfl:k=Y ws:=J
  rw[Ia]at oj;obtain⟨A5,c5,rfl,l5,m5,n5,ar5⟩:=oj.form CK.BY;have h8:=h.on Co;have Ki:=fr.on Co.size;obtain⟨Au,cp,QK,lp,mp,np,arp,tp⟩:=h8.li.pulses;have OT:E w8 ⟨b,41,Z⟩=I (R Au (Y a.pulses) cp):=qrb QK (h8.row.c 41);have Jr:E w8 ⟨b,20,Z⟩=I (U O x.s.head):=h8.row.c 20;have hpl:=Va iv.pls;have cM:=qbw w8 fun y hy=>Adn Au cp a.pulses A5 c5 (ws.map KS) x.s.head y (arp.on hy) (ar5.on hy) J (by rw[Dz];exact lw)
  obtain⟨E1,Lk⟩:=Az (KO a.pulses (ws.map KS) x.s.head);obtain⟨K,hK⟩:=Az (KP a.pulses (ws.map KS) x.s.head);simp only[Lk,hK,List.length_map]at cM;have HE1:=F Lk;have HK:=F hK;have L41:=qbc OT;have L20:=qbc Jr;have S0:=(Ae w8 w8).drew;clear Lk hK arp ar5 QK tp OT Jr oj;go_upto_region 7 with fail;refine qrh w8 S0 fun hHeld=>?_
  refine tQ4 0 ?_;refine tQ4 4 ?_;refine tQ2 8 ?_;refine tQ 10 ?_;refine url 11 (fun KU Bc=>?_);go_simp;refine(cM _ S0).mono ?_;rintro e w9⟨v9,rfl,CD,Vb⟩;obtain⟨A9,c9,rfl,l9,m9,n9,Nx⟩:=CD.form DY;have BC:=AH S0 Vb;refine Bc.out _ _ (BC) (fun _=>?_);refine zp ?_;refine tQ4 12 ?_;refine tQ 16 ?_;refine Ce ?_;have im9:=CD.imm DY (fun k hk=>Ki k (Br S0.size hk));clear cM L41 L20 hHeld CD S0;have h9:=h8.on BC;have Ek:=Ki.on BC.size;have b9:=AH Co BC;clear h8;by_cases e1:E1=0
  case neg=>
   have g0:(E1 == 0)=false:=qsu e1;have hno:Aj (P=Z):=F (by rw[<-HP.out];unfold AV.TS;rw[Bd (show KO a.pulses (ws.map KS) (x.z W bits).s.head≠0 from HE1.out.symm▸e1)]);go_wp2_with(go_at_call 220;refine(IT _).mono ?_;rintro e Bs ⟨⟨u,v,rfl⟩,CP⟩);exact⟨Q,.inl ⟨hno.out,⟨_,_,rfl⟩,AH b9 CP⟩⟩
  subst e1;obtain⟨SG,hSG⟩:=Az (LC a.pulses K 2);obtain⟨E2,Gs⟩:=Az (MI a.pulses K 2);have HSG:=F hSG;have hKl:Y K<=4096:=by rw[<-HK.out];have:=qO a.pulses (ws.map KS) x.s.head;rw[Dz]at this;omega
  have HKl:=F hKl;have HSs:Aj (SG.Sublist K):=F (by rw[<-hSG];exact Ad5 _ _ _);obtain⟨Aq,cq,hqv,lq,mq,nq,arq,tq⟩:=h9.li.pulses;have OT:E w9 ⟨b,41,Z⟩=I (R Aq (Y a.pulses) cq):=qrb hqv (h9.row.c 41);have cC:=Adx Aq cq a.pulses A9 c9 K 2 w9 arq Nx J hKl;rw[hSG,Gs]at cC;clear hSG Gs hqv arq;go_upto_region 9 with(go_at_call 220;refine(FM _).mono ?_;rintro e w2 ⟨rfl,rfl⟩)
  go_wp2_with fail;refine cC.mono ?_;rintro e Bs⟨v10,rfl,Th,CP⟩;have Pt:=Th.imm DY (fun k hk=>Ek k hk);obtain⟨DM,c10,rfl,l10,m10,n10,VT⟩:=Th.form DY;have h10:=h9.on CP;have NZ:=Ek.on CP.size;have ug:=im9.keep (Kp.of CP);have Jj:=AH b9 CP;obtain⟨AP,hN⟩:=DV (show 0<=x.s.block by have:=FZ.block;omega);have Me:1<=AP/\AP<=512:=by have:=FZ.block;omega
  have y22:E Bs ⟨b,22,Z⟩=I (U O AP):=qrb hN (h10.row.c 22);have HN:=F hN;clear hN cC Th im9 h9 OT
  have EQ:Aj (P=if(Y SG:Int)<x.s.block then I ((x.z W bits).stop a 14)else I ((x.z W bits).send {a with kept:=K,slots:=SG.take x.s.block.toNat,decoys:=K.filter (NX (x.z W bits) a),wait:=[4]} 3 (SG.take x.s.block.toNat++ (K.filter (NX (x.z W bits) a)).map (Wg a)))):=F (by
   rw[<-HP.out];unfold AV.TS;rw[show(x.z W bits).s=x.s from rfl,AU (show¬KO a.pulses (ws.map KS) x.s.head≠0 by rw[HE1.out];simp)];simp only;rw[HK.out,HSG.out])
  have KA:1<=a.last/\a.last<=1000:=⟨iv.busy hb1,iv.last.2⟩
  go_upto_region 10 with fail;by_cases hs:Y SG<AP
  ·have g1:decide ((Y SG:Int)<(AP:Int))=true:=Er J
   have Kj:Aj (P=I ((x.z W bits).stop a 14)):=F (by rw[EQ.out,Bd (by rw[HN.out];omega)]);have cS:=SY h10 hi NZ 14 AC KA;clear EQ;go_wp2_with fail;refine cS.mono ?_;rintro e FW⟨x',v',rfl,hf,hs2,hO,fx⟩;go_wp2;go_ret;exact .inr ⟨_,Kj.out,DA.fin fr (Frm.of Jj) (Fix.refl x) hf hs2 hO fx⟩
  have g1:decide ((Y SG:Int)<(AP:Int))=false:=Ds J
  have Kj:Aj (P=I ((x.z W bits).send {a with kept:=K,slots:=SG.take AP,decoys:=K.filter (NX (x.z W bits) a),wait:=[4]} 3 (SG.take AP++ (K.filter (NX (x.z W bits) a)).map (Wg a)))):=F (by
   rw[EQ.out,AU (by rw[HN.out];omega),HN.out];simp only[Int.toNat_natCast])
  have hNs:AP<=Y SG:=J;have hNc:AP<=c10:=J;have imS:=Pt.take hNs;clear EQ hs;go_upto_region 12 with fail;have y22:E Bs ⟨b,22,Z⟩=I (U O AP):=y22;have S0:E Bs.drew ⟨b,22,Z⟩=I (U O AP):=y22;have h11:=h10.on (Ae Bs Bs).drew;have k49:E Bs ⟨b,49,Z⟩=I x.k.kept:=h10.row.c 49;have f49:=h11.row.fr 49;have DO:=h11.cell hi 49 (R A9 (Y K) c9) (x':={x with k:={x.k with kept:= R A9 (Y K) c9}}) (a':={a with kept:=K}) Q Q Q Q ⟨h11.num.last,h11.num.ph,h11.num.rs,h11.num.wt,h11.num.sh,h11.num.n,h11.num.t,h11.num.has⟩ ⟨h11.li.pulses,h11.li.clicks,h11.li.wait,h11.li.sent,h11.li.took,h11.li.ledger,ug,h11.li.slots,h11.li.decoys,h11.li.block⟩ Q Q Q Q;have f12:=h11.JA 49 (R A9 (Y K) c9);have uh:=(imS.keep (Kp.of (Ae Bs Bs).drew)).keep (f12.kp hi);have k50:E (Bs.setCell ⟨b,49,Z⟩ (R A9 (Y K) c9)) ⟨b,50,Z⟩=I x.k.slots:=DO.row.c 50;have f50:Bo (Bs.setCell ⟨b,49,Z⟩ (R A9 (Y K) c9)) ⟨b,50,Z⟩=false:=DO.row.fr 50;have h13:=DO.cell hi 50 (R DM AP c10) (x':={x with k:={x.k with kept:= R A9 (Y K) c9,slots:= R DM AP c10}}) (a':={a with kept:=K,slots:=SG.take AP}) Q Q Q Q ⟨DO.num.last,DO.num.ph,DO.num.rs,DO.num.wt,DO.num.sh,DO.num.n,DO.num.t,DO.num.has⟩ ⟨DO.li.pulses,DO.li.clicks,DO.li.wait,DO.li.sent,DO.li.took,DO.li.ledger,DO.li.kept,uh,DO.li.decoys,DO.li.block⟩ Q Q Q Q;have f13:=DO.JA 50 (R DM AP c10);refine Fz (S:=fun w'=>E w' ⟨b,22,Z⟩=I (U O AP)) AG S0 (fun hHeld=>?_);refine tQ4 0 ?_;refine tQ4 4 ?_;refine tQ4 8 ?_;refine tQ 12 ?_;refine url 13 (fun KU Bc=>?_);go_simp;refine Bc.out _ _ (qrb HN.out (DO.row.c 22)) (fun _=>?_);refine zp ?_;refine tQ2 14 ?_;refine tQ 16 ?_;refine url 17 (fun KU Bc=>?_);go_simp;refine Bc.out _ _ (qrb HN.out (h13.row.c 22)) (fun _=>?_);refine zp ?_;refine Ce ?_;obtain⟨DB,Wp⟩:=Az (((Bs.setCell ⟨b,49,Z⟩ (R A9 (Y K) c9)).setCell ⟨b,50,Z⟩ (R DM AP c10)).drew);have I6:Bx τ DB i b {x with k:={x.k with kept:= R A9 (Y K) c9,slots:= R DM AP c10}} W nb mb bits {a with kept:=K,slots:=SG.take AP}:=qrb Wp h13;have f013:Frm τ τ w DB i:=by rw[<-Wp];exact(((Frm.of Jj).trans (Frm.of (Ae Bs Bs).drew)).trans f12).trans f13
  rw[Wp];have Zg:=fr.on f013.out.size;clear h10 h11 DO h13 k49 f49 k50 f50 Wp imS uh f12 f13 S0 y22 ug Pt Nx VT hHeld g1 Jj b9 CP BC Vb Co;obtain⟨SN,hSN⟩:=Az (SG.take AP);have jp:Y SN=AP:=by rw[<-hSN,DC];omega
  have HSN:=F hSN;rw[hSN]at I6 Kj;clear hSN;obtain⟨As,cs,he,ls,ms,ns,SL,ts⟩:=I6.li.slots
  have he2:DM=As/\c10=cs:=by
   have:=he;simp only[Value.slice.injEq]at this;exact⟨this.1,this.2.2⟩
  obtain⟨rfl,rfl⟩:=he2;have y50:E DB ⟨b,50,Z⟩=I (R DM AP c10):=I6.row.c 50;have cK:=WV DM c10 SN DB SL ns ls J;rw[jp]at cK;have ui:=F jp;clear he SL jp;go_upto_region 13 with fail;go_wp2_with fail;refine cK.mono ?_;rintro e Mr⟨v14,rfl,bS,O1⟩;obtain⟨A14,c14,dA,l14,m14,n14,rY⟩:=bS.form DY;rw[ui.out]at dA;subst dA;clear cK y50;obtain⟨dB,hdB⟩:=Az (NX (x.z W bits) a);obtain⟨wD,hwD⟩:=Az (Wg a);have HdB:=F hdB;have HwD:=F hwD;rw[hdB,hwD]at Kj;clear hdB hwD;have hnil:x.k.decoys=R Z 0 0:=I6.li.decoys.2 hdec;have R14:Cu Mr b {x with k:={x.k with kept:= R A9 (Y K) c9,slots:= R DM AP c10,decoys:= R Z 0 0}}:=qrb hnil (I6.row.on O1);have HR:Aj (Cz K 0 (Y a.pulses-1)=0):=F (qrb HK.out (re FZ.head.1 HE1.out));obtain⟨A9',c9',N7,l9',m9',n9',Nx,t9⟩:=I6.li.kept;cases N7;obtain⟨Aw,cp,QK,lp,mp,np,arp,tp⟩:=I6.li.pulses;have tb:=I6.tb;have QK:x.k.pulses=R Aw (Y a.pulses) cp:=QK;go_upto_region 15 with fail
  go_loopw [12,93] (fun ov iv wr=>∃(j:Nat) (dv:An),j<=Y K/\iv=U O j/\Own wr DB 3 1 BD ov (SN++ ((K.take j).filter dB).map wD)/\Own wr DB 3 1 BD dv ((K.take j).filter dB)/\Ap dv ov/\Aj ((K.take j).filter dB=[]->dv=R Z 0 0)/\
   Cu wr b {x with k:={x.k with kept:= R A9 (Y K) c9,slots:= R DM AP c10,decoys:=dv}}/\AT (fun k=>k=b) DB wr) (fun _ iv _=>Y K-(intOf iv).toNat)
  case atStart=>exact⟨0,R Z 0 0,J,rfl,by simpa using bS,by simpa using Own.nil,.inl rfl,F (fun _=>rfl),R14,AT.of O1⟩
  case round=>
   obtain⟨j,dv,hj,rfl,oj,dj,ap,hnl,Rj,Oj⟩:=hrel;obtain⟨Mt,rfl⟩:=qgn wr;by_cases Qp:j<Y K
   ·have a9:=Oj.arr Nx (fun y hy e=>hi (tb.symm.trans (qrb e ((t9 y hy).2))))
    have apl:=Oj.arr arp (fun y hy e=>hi (tb.symm.trans (qrb e ((tp y hy).2))));obtain⟨bq,ofq,q,rfl,hbq,hq,d0⟩:=a9.int Qp (Ae _ _);have Fu:=YY HR.out (DI hq.out);obtain⟨n,rfl⟩:=DV Fu.1;have hn:n<Y a.pulses:=J;obtain⟨b2,of2,pb,BK,pc,Cf,ps,rfl,hb2,hp,e0,e1,e2,e3,e4⟩:=apl.pls hn (Ae _ _);have OT:E Mt ⟨b,41,Z⟩=I (R (I ⟨b2,of2,Z⟩) (Y a.pulses) cp):=qrb QK (Rj.c 41);have y1:E Mt ⟨b,1,Z⟩=I (U O x.s.o.k):=Rj.c 1;have y51:E Mt ⟨b,51,Z⟩=I dv:=Rj.c 51;have DG:Jw a.pulses (n:Int)=pc:=by unfold Jw;simp[hp.out]
    have hdec:Aj (dB (n:Int)=((x.s.o.k == 1)&&(pc != 2))):=F (by rw[<-HdB.out];unfold NX;rw[DG];rfl);have hwd:Aj (wD (n:Int)=2*(n:Int)+EM (pc == 1)):=F (by rw[<-HwD.out];unfold Wg;rw[DG]);have htk:Aj ((K.take (j+1)).filter dB=(K.take j).filter dB++ (if dB (n:Int)=true then[(n:Int)]else[])):=F (by rw[GU,hq.out];simp[List.filter_cons]);by_cases hc2:(x.s.o.k == 1)=true/\(pc != 2)=true
    case neg=>
     have Sp:Aj ((K.take (j+1)).filter dB=(K.take j).filter dB):=F (by
      rw[htk.out,hdec.out,AU (by rw[Bool.and_eq_true];exact hc2),List.append_nil])
     cases g3:(pc != 2)with
     | false=>
      clear hc2;go_wp2_with fail;exact⟨⟨j+1,dv,J,qgm,qrf Sp.out oj,qrf Sp.out dj,ap,F (qrf Sp.out hnl.out),Rj,Oj⟩,qio⟩
     | true=>
      have g4:(x.s.o.k == 1)=false:=by
       cases e:(x.s.o.k == 1)with
       | false=>rfl
       | true=>exact absurd ⟨e,g3⟩ hc2
      clear hc2;go_wp2_with fail;exact⟨⟨j+1,dv,J,qgm,qrf Sp.out oj,qrf Sp.out dj,ap,F (qrf Sp.out hnl.out),Rj,Oj⟩,qio⟩
    obtain⟨g4,g3⟩:=hc2;go_upto_region 19 with fail;have hd1:dB (n:Int)=true:=by rw[hdec.out,g4,g3];rfl
    have Sp:Aj ((K.take (j+1)).filter dB=(K.take j).filter dB++ [(n:Int)]):=F (by rw[htk.out,Bd hd1]);have Cw:((K.take j).filter dB).length<=4096:=Br (dq _ _) (by rw[DC];have:=HKl.out;omega);obtain⟨i0,hi0,iz0,iz1,iz2⟩:=IA Gr;have Hi:=F hi0;have EJ:=F iz0;have Ep:=F iz1;have Eh:=F iz2;have Rx:Aj ((SN++ ((K.take j).filter dB).map wD).length<=8192):=F (by rw[KZ,Dz,ui.out];have:=Me;omega);have Cm:(((K.take j).filter dB).length+1)*8<=140737488355328:=J;have AhJ:=Oj.size;have jq:b<↑DB:=(Bm.1 I6.row).1;have AhK:b<↑Mt:=(Bm.1 Rj).1;have nD:∀g,dv.ownBlock=I g->DB.heap.size<=g:=fun g hg=>(Cp dj g hg).1
    have nW:∀g,u12.ownBlock=I g->DB.heap.size<=g:=fun g hg=>(Cp oj g hg).1
    obtain⟨D,hD⟩:=Az ((K.take j).filter dB);rw[hD]at dj Cm Cw Rx Sp;have HD:=F hD;rw[hD]at oj;obtain⟨Wd2,hW2⟩:=Az (SN++ D.map wD);rw[hW2]at oj Rx;have HW2:=F hW2;clear hd1 hD hW2 hi0 iz0 iz1 iz2 y1 a9 apl d0 e0 e1 e2 e3 e4 OT Fu DG;go_upto_region 20 with(at_builtin;refine WY Q _ _ 37 Q DB 3 i0 _ 1 8 underlying37 Hi.out EJ.out Ep.out Eh.out Q AC _ D (n:Int) #[U O n] 3 Q dj Q Q Q (On _) Cm AC AhJ AO ?_;intro v16 w16 XI Vm jr;(have R16:Cu w16 b {x with k:={x.k with kept:= R (I ⟨bq,ofq,Z⟩) (Y K) c9,slots:= R DM AP c10,decoys:=dv}}:=(Vm.block b AhK (fun e=>by have:=nD b e.symm;omega)).trans Rj);obtain⟨A16,c16,rfl,-,-,-,-⟩:=XI.form DY;have AhL:=R16.c 51;have f51:=R16.fr 51)
    have el:(D++ [(n:Int)]).length=Y D+1:=AO;rw[el]at XI jr;have o16:=Ys oj ap.symm Vm;have p16:=ai oj ap.symm jr;obtain⟨v16,js⟩:=Az (Value.slice A16 (Y D+1) c16);rw[js]at XI p16;have R17:Cu (w16.setCell ⟨b,51,Z⟩ v16) b {x with k:={x.k with kept:= R (I ⟨bq,ofq,Z⟩) (Y K) c9,slots:= R DM AP c10,decoys:=v16}}:=R16.set 51 _ Q;have gs:=Fo w16 b 51 v16;have nV:∀g,v16.ownBlock=I g->DB.heap.size<=g:=fun g hg=>(Cp XI g hg).1
    have neb:∀{v:An},(∀g,v.ownBlock=I g->DB.heap.size<=g)->v.ownBlock=Z\/v.ownBlock≠I b:=fun{v} hv=>by
     cases e:v.ownBlock with
     | none=>exact .inl Q
     | some g=>exact .inr (by have:=hv g e;simp;omega)
    have d17:=XI.keep gs (neb nV);have o17:=o16.keep gs (neb nW);have O17:AT (fun k=>k=b) DB (w16.setCell ⟨b,51,Z⟩ v16):=AT.trans ⟨Vm.os.trans Oj.os,Vm.tape.trans Oj.tape,Vm.output.trans Oj.output,Br Oj.size Vm.size,fun k hk EU=>(Vm.block k (Ck hk Oj.size) (fun e=>by have:=nD k e.symm;omega)).trans (Oj.block k hk EU)⟩ (AT.set Q);rw[js];obtain⟨QL,Ub⟩:=Az (w16.setCell ⟨b,51,Z⟩ v16);rw[Ub]at R17 d17 o17 O17;rw[Ub];have AhM:=O17.size;have AhN:b<↑QL:=(Bm.1 R17).1;have cB:=fun y=>bI (pc == 1) y
    obtain⟨G0,hU⟩:=Az (EM (pc == 1));have hU1:0<=G0/\G0<=1:=by rw[<-hU];cases(pc == 1) <;> decide
    rw[hU]at hwd;simp only[hU]at cB;have hn4:n<=4096:=J;have hlw:(Y Wd2+1)*8<=140737488355328:=by have:=Rx.out;omega
    clear hU Ub js o16 XI jr Vm R16 AhL f51 el gs oj dj Oj Rj nD nV y51 hnl ap;go_wp2_with(first | (go_at_call 224;refine(cB _).mono ?_;rintro e w2 ⟨rfl,rfl⟩) | (at_builtin;refine WY Q _ _ 37 Q DB 3 i0 _ 1 8 underlying37 Hi.out EJ.out Ep.out Eh.out Q AC _ Wd2 (2*(n:Int)+G0) #[U O (2*(n:Int)+G0)] 3 Q o17 Q Q Q (On _) hlw AC AhM AO ?_;intro v18 w18 AhO Wq AhP));have R18:Cu w18 b {x with k:={x.k with kept:= R (I ⟨bq,ofq,Z⟩) (Y K) c9,slots:= R DM AP c10,decoys:=v16}}:=(Wq.block b AhN (fun e=>by have:=nW b e.symm;omega)).trans R17;have d18:=Ys d17 p16.symm Wq;have p18:=ai d17 p16.symm AhP;have O18:AT (fun k=>k=b) DB w18:=⟨Wq.os.trans O17.os,Wq.tape.trans O17.tape,Wq.output.trans O17.output,Br O17.size Wq.size,fun k hk EU=>(Wq.block k (Ck hk O17.size) (fun e=>by have:=nW k e.symm;omega)).trans (O17.block k hk EU)⟩
    exact⟨⟨j+1,v16,J,qgm,by rw[Sp.out,SQ,<-List.append_assoc,HW2.out,List.map_cons,List.map_nil,hwd.out];exact AhO,qrf Sp.out d18,p18,F (by rw[Sp.out];intro e;simp at e),R18,O18⟩,qio⟩
   ·obtain rfl:j=Y K:=J
    rw[Ia]at oj dj hnl;have Sq:Kp τ τ DB Mt (fun k=>k=b):=⟨Oj,fun _ _=>rfl,fun k e=>by rw[e,tb];exact hi⟩
    have l13:=I6.li
    have h15:Bx τ Mt i b {x with k:={x.k with kept:= R A9 (Y K) c9,slots:= R DM AP c10,decoys:=dv}} W nb mb bits {a with kept:=K,slots:=SN,decoys:=K.filter dB}:=
     I6.change hi (Oj.mono (fun k _ e=> .inl e)) Rj Q Q Q ⟨I6.num.last,I6.num.ph,I6.num.rs,I6.num.wt,I6.num.sh,I6.num.n,I6.num.t,I6.num.has⟩ ⟨l13.pulses.keep Sq,l13.clicks.keep Sq,l13.wait.keep Sq,l13.sent.keep Sq,l13.took.keep Sq,l13.ledger.keep Sq,l13.kept.keep Sq,l13.slots.keep Sq,⟨dj.imm DY (fun k hk=>Zg k hk),hnl.out⟩,l13.block.keep Sq⟩ Q Q (I6.pool.keep Sq I6.mbb).at_ Q
    have f015:=f013.trans (Frm.Ik (i:=i) Oj (fun k _ e=>by rw[e];exact tb));have iI:=fr.on f015.out.size
    have hlen:Aj ((SN++ (K.filter dB).map wD).length<=4096):=F (by
     rw[KZ,Dz,<-HSN.out,DC];have hc:=rg (iy HE1.out).2.2 (c:=2) AC HR.out;rw[HSG.out]at hc
     have h3:=iK (fun s=>decide (Jw a.pulses s=2)) dB (fun s e=>by
      have e2:Jw a.pulses s=2:=qsu e;rw[<-HdB.out];unfold NX;rw[e2];simp) K
     rw[<-hc]at h3;have:=HKl.out;omega)
    have hall:Aj ((SN++ (K.filter dB).map wD).all okW=true):=F (Vd fun y hy=>by
     rcases OV.1 hy with hy | hy
     ·have:=bV hpl HR.out (HSs.out.subset (Ui (qrf HSN.out hy)))
      omega
     ·obtain⟨q,hq,rfl⟩:=Ld.1 hy
      have h3:=bV hpl HR.out (List.mem_filter.1 hq).1;have h4:=si (Jw a.pulses q == 1);rw[<-HwD.out];unfold Wg;omega)
    have im:=oj.imm DY (fun k hk=>Zg k hk);obtain⟨A16,c16,rfl,-,-,-,-⟩:=oj.form DY;obtain⟨Sf,Sg,GM,f17⟩:=h15.wait hi iI #[U O 4] 3 [4] Q AC;simp only[List.length_cons,List.length_nil,Nat.zero_add]at GM f17;have f017:=f015.trans f17;have TZ:=fr.on f017.out.size;have Z6:=im.keep (f17.kp hi);generalize SN++ (K.filter dB).map wD=M at*;have cS:=Qx GM hi TZ 3 _ M Z6 (Qy KA AC (TY GM) hlen.out) hall.out;clear I6 h15 GM im Z6 oj dj l13 Sq Oj Rj ap hnl;go_wp2_with fail;refine cS.mono ?_;rintro e w18⟨x',v',rfl,hf,hs,hO,fx⟩;go_wp2;go_ret;exact .inr ⟨_,Kj.out,DA.send fr f017 (x1:={x with k:={x.k with kept:= R A9 (Y K) c9,slots:= R DM AP c10,decoys:=dv,wait:= R (I ⟨Mt,0,Z⟩) 1 1}}) ⟨rfl,rfl,rfl⟩ hf hs hO fx⟩
end
end Go.Proofs.YtjpidgffdkjjeaaGreat
