/- Contracts and plain laws. No condition. -/
import Derived.Test.YtjpidgffdkjjeaaGreatCA
import Derived.Test.YtjpidgffdkjjeaaGreatC21
set_option linter.all false
set_option maxHeartbeats 16000000
namespace Go.Proofs.YtjpidgffdkjjeaaGreat
open Go.Proofs.Tryz
open Go.Proofs.Tryz renaming prog->AE
open List renaming length->Y
open Go.World renaming cell?->E,setCell->Ai,alloc->Ao,frozen?->Bo
open Go.Value renaming int->U,slice->R,pointer->AI,agg->Ba,tuple->Be,nilFunc->Bl,bool->Av
open Go.IntKind renaming i64->O,u64->AA,u32->BF,u8->Cd
open Option renaming none->Z,some->I
open Go.Ending renaming returned->AN
open Go.Obj renaming cells->N
open Go renaming World->V,Value->An,Calls->AL,Addr->AS
open Go.RowKit renaming Below->Ag,Hid->Aj
set_option maxRecDepth 100000
open Go.RowKit Go.Maps
section
variable{A AY all:List Bool}{dec kept shown:List Int}{k:Nat}{v:Bool}
theorem uk{s:Int}:∀{l:List Int},l.Pairwise (· < ·)->s∈l->l.countP (fun y=>decide (y<s))=l.idxOf s
 | [],_,h=>by cases h
 | x::l,h,hs=>by
  rw[UG]at h;by_cases e:x=s
  ·subst e
   have h0:l.countP (fun y=>decide (y<x))=0:=by
    rw[List.countP_eq_zero];intro y hy;have:=h.1 y hy;simp;omega
   simp[List.countP_cons,h0]
  ·have hs2:s∈l:=by
    rcases List.mem_cons.1 hs with h1 | h1
    ·exact absurd h1.symm e
    ·exact h1
   have h1:=h.1 s hs2;rw[List.countP_cons,uk h.2 hs2,List.idxOf_cons];have e2:(x == s)=false:=qsu e;simp[e2,h1]
def Oi(AY A:List Bool)(k:Nat):List Bool:=AY.take k++ A.drop k
theorem AhV(h:Y AY=Y A)(hk:k<=Y A):(Oi AY A k).length=Y A:=by
 grind [Oi]
theorem AhW(h:Y AY=Y A)(hv:AY[k]?=I v):(Oi AY A k).set k v=Oi AY A (k+1):=by
 have hk:=(EF.1 hv).1;unfold Oi;have e:(AY.take k).length=k:=by grind
 rw[List.set_append_right _ _ J,e,Lc,GU,hv];cases hA:A.drop k with
 | nil=>
  grind
 | cons z l=>
  have h2:A.drop (k+1)=l:=by rw[<-List.drop_drop,hA];rfl
  grind
def AhX(hF:AY[k]?=I v)(hA:A[k]?=I v):Oi AY A k=Oi AY A (k+1):=by
 have hk:=(EF.1 hA)
 unfold Oi;rw[GU,hF,PI hk.1,hk.2];simp
def AhY(AY A:List Bool):Oi AY A 0=A:=by simp[Oi]
theorem AhZ(h:Y AY=Y A):Oi AY A (Y A)=AY:=by
 grind [Oi]
theorem Ah0(h:Y kept=Y all):(Xr kept dec shown all).length=Y all:=by
 grind [Xr]
theorem Ah1{q:Int}(hq:kept[k]?=I q)(hv:all[k]?=I v):(Xr kept dec shown all)[k]?=I (if dec.contains q=true then shown.getD (dec.idxOf q) 0 == 1 else v):=by
 grind [Xr]
def Ah2(s:Int)(w:V):AL AE 271 #[R Z 0 0,U O s] w fun e w'=>e=AN (Be #[U O 0,Av false])/\Ag w w w':=by
 go_in;go_upto_region 3 with fail;go_loopw [7,8] (fun p q wr=>p=U O 0/\q=U O 0/\Ag w w wr) (fun _ _ _=>0);exact⟨rfl,rfl,Ae _ _⟩
 obtain⟨rfl,rfl,hb⟩:=hrel;go_wp2;go_ret2;exact⟨Q,hb⟩
theorem Ah3(A:Option AS)(c:Nat)(l:List Int)(s:Int)(w:V)(hA:Arr 1 BD w w A l)(hn:l=[]->Value.slice A (Y l) c=R Z 0 0)(hs:l.Pairwise (· < ·))(hl:Y l<=4096):
  AL AE 271 #[R A (Y l) c,U O s] w fun e w'=>∃k:Nat,e=AN (Be #[U O k,Av (l.contains s)])/\(l.contains s=true->k=l.idxOf s)/\Ag w w w':=by
 by_cases hz:l=[]
 ·subst hz
  rw[hn Q];refine(Ah2 s w).mono ?_
  grind
 ·obtain⟨g,off,rfl,hg,hc⟩:=hA hz
  refine(slices_BinarySearch_int g off (Y l) c l s w (Bg _) J (fun j hj=>?_) (by rw[Ia];exact hs.imp (fun h=>Int.le_of_lt h))).mono ?_
  ·have h1:=hc j l[j] (CH hj) 0 (U O l[j]) Q
   grind
  ·rintro e w'⟨rfl,q,rfl⟩
   rw[Ia];exact⟨_,Q,fun e=>uk hs (by grind),⟨Q,Q,Q,Bg _,fun _ _=>rfl⟩⟩
def Zh{P:Program}{W:V}{ops:Array Oper}{o:Oper}{a:Act}{K:Act->V->Prop}{Bn:Exit->Act->V->Prop}{AM:Prop}(hgd:o.guard=Z)(ty:TypeId)(x y:Operand)(ho:o.op=.store ty x y)
  (g:Nat) (cells:Array An) (hx:a.eval x=AI (I ⟨g,0,Z⟩)) (hy:a.eval y=Ba cells) (t:TypeId) (old:Array An) (hg:W.heap[g]?=I (N old t (0,0))) (hi:(P.info? ty).map (·.size)=I cells.size) (hold:old.size=cells.size) (h1:cells.all (·.oneCell')=true)
  (h:K (a.put o.dst undef) (W.setRow g cells)):if Region.wanted o (yielded ops a.tmps)=true then Oper.wp P o a W K Bn else AM:=by
 rw[Bd (by simp[Region.wanted,hgd])];exact wp_store_row ty x y ho g cells hx hy t old hg hi hold h1 h
def Gn.cs(g:Gn):Array An:=#[U O g.a0,U O g.h0,U O g.x0,U O g.a1,U O g.h1,U O g.x1,U O g.a2,U O g.h2,U O g.x2]
def Ah4:∀{l:List Int},Y l=9->Xq l=Ba (YX l).cs
 | [_,_,_,_,_,_,_,_,_],_=>rfl
def Ah5(p:List AQ)(s:List Int)(b:List Bool)(f:Int):(GL p s b f).length=9:=by
 unfold GL;split
 ·rw[qZ,qX]
 ·rfl
def Ah6(x:BR)(j:Nat)(v:An)(hv:x.s.o.cs[j]?=I v):x.cs[1+j]?=I v:=by
 rcases j with _ | _ | _ | _ | _ | _ | _ | _ | _ | _ | _ | _ | _ | _ | _ | _ | _ | _ | j
 all_goals first | exact hv | (exact absurd ((Bm.1 hv).1) (by show¬j+18<18;omega))
section
variable {τ:Nat→Nat} {w:V} {i b W nb mb:Nat} {x:BR} {bits:List Bool} {a:Bb}
def Ah7(h:Bx τ w i b x W nb mb bits a)(ok:Gi x.s W)(iv:BO (x.z W bits) a)(B:Option AS)(cB:Nat)(sh:List Int)(hB:Arr 1 BD w w B sh)(hsl:Y sh=Y a.decoys)(n:Nat):
  AL AE 230 #[AI (I ⟨b,0,Z⟩),R B (Y sh) cB,U O n] w fun e w'=>e=AN (Be #[U O ((x.z W bits).LF a sh n).1,U O ((x.z W bits).LF a sh n).2])/\Ag w w w':=by
 obtain⟨Ap,cp,QK,lp,mp,np,arp,tp⟩:=h.li.pulses;obtain⟨Ak,ck,hkv,lk,mk,nk,ark,tk⟩:=h.li.kept;obtain⟨Ad,cd,Lj,ld,md,nd,ard,td⟩:=h.li.decoys.1;have hdn:=h.li.decoys.2;have x41:w.cell? ⟨b,41,Z⟩=I (R Ap (Y a.pulses) cp):=qrb QK (h.row.c 41);have x49:w.cell? ⟨b,49,Z⟩=I (R Ak (Y a.kept) ck):=qrb hkv (h.row.c 49);have x51:w.cell? ⟨b,51,Z⟩=I (R Ad (Y a.decoys) cd):=qrb Lj (h.row.c 51);have Nr:w.cell? ⟨b,20,Z⟩=I (U O x.s.head):=h.row.c 20;rw[Lj]at hdn;have hpl:=Va iv.pls
 have LR:Y a.kept<=4096:=by
  have:=iz (bF iv.kpt) (fun y hy=>YY iv.kpt hy);omega
 have hsE:=ri iv.pls iv.kpt;have IR:(KQ a.pulses a.kept).length=Y a.kept:=by unfold KQ;rw[Bd hsE,Dz]
 have cS:=qbw w fun y hy=>qR Ap cp a.pulses Ak ck a.kept y (arp.on hy) (ark.on hy) J LR
 rw[hsE]at cS;have Gk:a.decoys.Pairwise (· < ·):=by rw[iv.dec];exact(bF iv.kpt).sublist List.filter_sublist
 obtain⟨AW,hR⟩:=Az ((x.z W bits).LF a sh n);rw[hR];have HR:=F hR;obtain⟨L0,hL0⟩:=Az (KQ a.pulses a.kept);rw[hL0]at IR;simp only[hL0]at cS;obtain⟨AY,hF⟩:=Az (Xr a.kept a.decoys sh L0);have hFl:Y AY=Y L0:=qrb hF (Ah0 IR.symm);have HL0:=F hL0;have HF:=F hF;have Hsd:=F Gk;have Hdn:=F hdn;have Hsl:=F hsl;have HLl:=F IR;have HFl:=F hFl;have L41:=qbc x41;have L49:=qbc x49;have S0:=(Ae w w).drew;clear hR hL0 hF Gk hdn hsl IR hFl hsE QK hkv Lj;go_in;go_upto_region 1 with fail;refine qrh w S0 fun hHeld=>?_
 refine tQ4 0 ?_;refine tQ4 4 ?_;refine tQ2 8 ?_;refine url 10 (fun KU Bc=>?_);go_simp;refine(cS _ S0).mono ?_;rintro e w2⟨v2,rfl,GZ,XJ⟩;have hb2:=AH S0 XJ;have GZ:=Own.lift GZ S0.size
 have hv2:v2=R Z 0 0\/∃g c2,v2=R (I ⟨g,0,Z⟩) (Y L0) c2:=by
  rcases GZ.2 with⟨h1,_⟩ | ⟨g,cap,cur,h1,_⟩
  ·exact .inl h1
  ·exact .inr ⟨g,cap,h1⟩
 obtain⟨A2,c2,rfl,l2,m2,n2,Nv⟩:=GZ.form Dk;refine Bc.out _ _ (hb2) (fun _=>?_);refine zp ?_;refine tQ4 11 ?_;refine tQ 15 ?_;refine Ce ?_;clear cS L41 L49 hHeld;have y49:=AK hb2 x49;go_upto_region 3 with fail;go_loopw [36] (fun iv wr=>∃k:Nat,k<=Y a.kept/\iv=U O k/\Own wr w 4 1 C4 (R A2 (Y L0) c2) (Oi AY L0 k)/\Ag w w wr) (fun iv _=>Y a.kept-(intOf iv).toNat);exact⟨0,J,rfl,qrf AhY GZ,hb2⟩
 obtain⟨k,hk,rfl,oj,Co⟩:=hrel;obtain⟨w8,rfl⟩:=qgn wr;by_cases hlt:k<Y a.kept
 ·obtain⟨bk,off,q,rfl,BN,hq,d0⟩:=ark.int hlt Co
  have hkL:k<Y L0:=qrf HLl.out hlt
  obtain⟨g,rfl⟩:∃g,A2=I ⟨g,0,Z⟩:=by
   rcases hv2 with e | ⟨g,c3,e⟩
   ·simp only[Value.slice.injEq]at e
    omega
   ·simp only[Value.slice.injEq]at e
    exact⟨g,e.1⟩
  have hA:=CH hkL;obtain⟨b0,hb0⟩:=Az (L0[k]);rw[hb0]at hA;have hFk:=Ah1 (dec:=a.decoys) (shown:=sh) hq.out hA;rw[HF.out]at hFk;have cB:=Ah3 Ad cd a.decoys q w8 (ard.on Co) Hdn.out Hsd.out (by have:=dq (NX (x.z W bits) a) a.kept;rw[<-iv.dec]at this;omega);have y51:=AK Co x51;obtain⟨cn,hcn⟩:=Az (a.decoys.contains q);rw[hcn]at cB hFk;have Hcn:=F hcn;have hA':=F hA;have HFk:=F hFk;clear hcn hA hFk hb0;go_upto_region 5 with fail;go_wp2_with fail;refine cB.mono ?_;rintro e w9⟨k2,rfl,hk2,BC⟩;have ju:=AH Co BC;have oj9:=Own.below oj BC;clear cB y51;cases cn with
  | false=>
   go_wp2_with fail;exact⟨⟨k+1,J,qgm,by rw[<-AhX (by rw[HFk.out];rfl) hA'.out];exact oj9,ju⟩,qio⟩
  | true=>
   have HK2:=F (hk2 Q);clear hk2;have Ah8:k2<Y sh:=by rw[HK2.out,Hsl.out];exact List.idxOf_lt_length_iff.2 (qsu Hcn.out)
   obtain⟨bs,os,sv,rfl,FR,hsv,e0⟩:=hB.int Ah8 ju
   have My:∃cur,w9.heap[g]?=I (N cur 4 (0,0)):=by
    rcases oj9.2 with⟨h1,_⟩ | ⟨g',cap,cur,h1,_,h3,_⟩
    ·simp at h1
    ·simp only[Value.slice.injEq,Option.some.injEq,Addr.mk.injEq]at h1
     exact⟨cur,by rw[h1.1.1];exact h3⟩
   obtain⟨cur,My⟩:=My;obtain⟨A9,c9,N7,_,_,_,Nx⟩:=oj9.form Dk;have Pn:=AhV HFl.out (EO hkL);rw[Pn]at N7;cases N7;obtain⟨bg,og,bv,he,hbg,FU,g0⟩:=Nx.bool (k:=k) (qrf Pn hkL) (Ae _ _);cases he;have fg:=CJ w9 g k _ _ My;rw[EE]at g0
   have hv9:Aj (AY[k]?=I (sv == 1)):=F (by
    rw[HFk.out,Bd Q,<-HK2.out,YE,hsv.out]
    rfl)
   have sw:Own (w9.setCell ⟨g,k,Z⟩ (Av (sv == 1))) w 4 1 C4 (R (I ⟨g,0,Z⟩) (Y L0) c2) (Oi AY L0 (k+1)):=by
    rw[<-AhW HFl.out hv9.out];exact Own.Ft (f:=Value.bool) oj9 Pn k (sv == 1)
   have bw:Ag w w (w9.setCell ⟨g,k,Z⟩ (Av (sv == 1))):=ju.setCell (show w.heap.size<=g from(Cp oj9 g Q).1) _;clear Nx My Pn oj9 oj;go_wp2_with fail;exact⟨⟨k+1,J,qgm,sw,bw⟩,qio⟩
 ·obtain rfl:k=Y a.kept:=J
  have oj2:Own w8 w 4 1 C4 (R A2 (Y L0) c2) AY:=by
   have e:=AhZ HFl.out;rw[HLl.out]at e;rw[<-e];exact oj
  obtain⟨A9,c9,N7,l9,m9,n9,Nx⟩:=oj2.form Dk;have hFL:=HFl.out.trans HLl.out
  have Ah9:A2=A9/\c2=c9:=by
   simp only[Value.slice.injEq]at N7;exact⟨N7.1,N7.2.2⟩
  obtain⟨rfl,rfl⟩:=Ah9;have cG:=qbw w8 fun y hy=>Ad2 Ap cp a.pulses Ak ck a.kept A2 c2 AY x.s.head y (arp.on (AH Co hy)) (ark.on (AH Co hy)) (Nx.on hy) J LR J
  rw[hFL]at cG;have HLk:=HLl;obtain⟨G,hG⟩:=Az (GL a.pulses a.kept AY x.s.head);obtain⟨AM,hE⟩:=Az (Gw a.pulses a.kept AY x.s.head);have hG9:Xq G=Ba (YX G).cs:=Ah4 (by rw[<-hG];exact Ah5 _ _ _ _);simp only[hG,hE,hG9]at cG;obtain⟨gv,hgv⟩:=Az (YX G);rw[hgv]at cG;have Hgv:=F hgv;have HG:=F hG;have HE:=F hE;have L41:=qbc (AK Co x41);have L49:=qbc (AK Co x49);have L20:=qbc (AK Co Nr);have S8:=(Ae w8 w8).drew;rw[HLk.out];clear hG hE N7 hFL oj oj2 hG9 hgv;go_upto_region 9 with fail;go_cut [14,15] (fun v14 v15 wx=>∃gb,v14=AI (I ⟨gb,0,Z⟩)/\v15=U O AM/\wx.heap[gb]?=I (N gv.cs 375 (0,0))/\Ag w8 w8 wx)
  case first=>
   refine qrh w8 S8 fun hHeld=>?_
   refine tQ4 0 ?_;refine tQ4 4 ?_;refine tQ4 8 ?_;refine tQ4 12 ?_;refine I8 [16,20] ?_;refine Dj Q (fun KU Bc=>?_) (Dj Q (fun KV hKV=>?_) GQ)
   ·go_simp
    refine gqz (cG _ S8) fun Bs QF=>?_;have CP:=AH S8 QF;refine Bc.out _ _ CP (fun _=>?_);refine zp ?_;refine tQ2 17 ?_;refine tQ 19 ?_;refine url 20 (fun KU Bc=>?_);go_simp;refine Bc.out _ _ (AB CP _) (fun _=>?_);refine zp ?_;refine url 21 (fun KU Bc=>?_);refine Zh Q 375 _ _ Q Bs gv.cs AG AG 375 _ (CB Bs _) (qiz 375 9) Q AG ?_;rw[World.setRow_alloc_new];refine Bc.out _ _ (AB CP _) (fun _=>?_);refine zp ?_;refine tQ 22 ?_;refine Ce ?_;go_wp2;go_meet;exact⟨_,rfl,rfl,CB Bs _,AB CP _⟩
   ·go_simp
    have OA:Ag w8 w8 (w8.alloc (N #[U O 0,U O 0,U O 0,U O 0,U O 0,U O 0,U O 0,U O 0,U O 0] 375)).drew:=(AB (Ae _ _) _).drew;refine hKV.out _ _ OA (fun _=>?_);refine zp ?_;refine url 16 (fun KU Bc=>?_);go_simp;refine gqz (cG _ OA) fun Bs QF=>?_;have CP:=AH OA QF;have Fr:=(QF.block w8 AO).trans (CB w8 (N #[U O 0,U O 0,U O 0,U O 0,U O 0,U O 0,U O 0,U O 0,U O 0] 375));have hbS:Ag w8 w8 (Bs.setRow w8 gv.cs):=CP.trans ((AT.grown (S:=fun k=>w8.heap.size<=k) (Fw Bs w8 _) (fun g hg=>by cases hg;exact .inl (Bg _))).below CP.size (fun k hk=>hk));refine Bc.out _ _ CP (fun _=>?_);refine zp ?_;refine tQ2 17 ?_;refine tQ 19 ?_;refine url 21 (fun KU Bc=>?_);refine Zh Q 375 _ _ Q w8 gv.cs AG AG 375 _ Fr (qiz 375 9) Q AG ?_;refine Bc.out _ _ hbS (fun _=>?_);refine zp ?_;refine tQ 22 ?_;refine Ce ?_;go_wp2;go_meet;exact⟨_,rfl,rfl,GS _ _ _ _ _ (0,0) Fr,hbS⟩
  obtain⟨gb,dA,Aia,um,DT⟩:=hcut;subst dA Aia;have Jj:=AH Co DT;by_cases e0:AM=0
  case neg=>
   have g0:(AM != 0)=true:=qsu e0
   have Ot:Aj (AW=(0,AM)):=F (by
    rw[<-HR.out];unfold AV.LF;simp only;rw[HL0.out,HF.out,show(x.z W bits).s=x.s from rfl,HE.out,Bd e0])
   clear e0;go_wp2;go_ret2;have e:=Ot.out;subst e;exact⟨Q,Jj⟩
  subst e0;have Aib:=h.row.on Jj;obtain⟨q1,CT⟩:=Az (Pf x.s.o gv (n:Int));obtain⟨q2,Et⟩:=Az (RQ x.s.o gv (n:Int));have cN:=fun y=>AhU x.s.o gv n y
  simp only[CT,Et]at cN
  have Ot:Aj (AW=((q1:Int),q2)):=F (by
   rw[<-HR.out];unfold AV.LF;simp only;rw[HL0.out,HF.out,show(x.z W bits).s=x.s from rfl,HE.out,AU AO,HG.out,Hgv.out,CT,Et])
  clear CT Et;go_upto_region 12 with fail;refine qrh wc (Ae _ _).drew fun hHeld=>?_
  refine tQ4 0 ?_;refine G3 (i:=4) (v:= Ba x.s.o.cs) Q AG AG AG (fun _ _ _ h=>h) (MQ Q 54 _ (by rfl) b 1 (by rfl) x.s.o.cs _ (fun w' hS j v hv=>((Aib.on hS).c (1+j)).trans (Ah6 x j v hv)) underlying54 Q (qiz 54 18)) hHeld ?_;refine zp ?_;refine G3 (i:=5) (v:= Ba gv.cs) Q AG AG AG (fun _ _ _ h=>h) (MQ Q 375 _ (by rfl) gb 0 (by rfl) gv.cs _ (fun w' hS j v hv=>by rw[EE];exact(AX w' gb j _ _ _ ((hS.block gb (Bm.1 um).1).trans um)).trans hv) underlying375 Q (qiz 375 9)) hHeld ?_;refine zp ?_;refine tQ 6 ?_;refine url 7 (fun KU Bc=>?_);go_simp;refine gqz (cN _) fun FW dE=>?_;have GH:=AH (Ae wc wc).drew dE;refine Bc.out _ _ (GH) (fun _=>?_);refine zp ?_;refine tQ4 8 ?_;refine Ce ?_;go_wp2;go_ret2;have e:=Ot.out;subst e;exact⟨Q,AH Jj GH⟩
end
end
def PE(n:Int):Bool:=decide (n<=1)
def uo(x:Int)(w:V):AL AE 228 #[U O x] w fun e w'=>e=AN (Av (!PE x))/\w=w':=by
 by_cases hx:x<=1
 ·have d:decide (1<x)=false:=Ds J
  have e:(!PE x)=false:=by unfold PE;rw[Er hx];rfl
  rw[e];clear hx e;go_in;go_wp2;go_ret;exact⟨Q,Q⟩
 ·have d:decide (1<x)=true:=Er J
  have e:(!PE x)=true:=by unfold PE;rw[Ds hx];rfl
  rw[e];clear hx e;go_in;go_wp2;go_ret;exact⟨Q,Q⟩
def Aic(A:Option AS)(c:Nat)(l:List Int)(w:V)(hA:Arr 1 BD w w A l)(hl:Y l<=4611686018427387904):
  AL AE 174 #[R A (Y l) c,.func (.func 228) #[] #[]] w fun e w'=>∃r:Int,e=AN (U O r)/\decide (r>=0) = !l.all PE/\w=w':=by
 go_in;go_wp2_with fail;go_loopw [8] (fun i wr=>∃k:Nat,k<=Y l/\i=U O k/\Aj ((l.take k).all PE=true)/\w=wr) (fun i _=>Y l-(intOf i).toNat);exact⟨0,J,rfl,F rfl,rfl⟩
 obtain⟨k,hk,rfl,hall,rfl⟩:=hrel;by_cases hlt:k<Y l
 ·obtain⟨b,off,rfl,BN,hc⟩:=hA.get hlt (Ae _ _)
  have c0:=hc 0 _ Q;simp only[Nat.mul_one,Nat.add_zero]at c0;have ht:Aj ((l.take (k+1)).all PE=((l.take k).all PE&&PE l[k])):=F (by rw[Wu hlt,Su];simp)
  have hno:Aj (PE l[k]=false->l.all PE=false):=F (fun h=>by
   rw[<-XU k l,Su,PI hlt,List.all_cons,h];simp)
  generalize l[k]=x at*;cases hx:PE x
  ·go_wp2_with(go_at_call 228;refine mqv (uo _ _) ?_;rw[hx])
   go_ret;exact⟨_,Q,by rw[hno.out hx];simp,Q⟩
  ·go_wp2_with(go_at_call 228;refine mqv (uo _ _) ?_;rw[hx])
   go_roundw;exact⟨k+1,J,qgm,F (by rw[ht.out,hall.out,hx];rfl),trivial⟩;simp[intOf];omega
 ·have e1:Aj (l.take k=l):=F (EG J)
  go_wp2;go_ret;exact⟨_,Q,by rw[<-e1.out,hall.out];rfl,Q⟩
def Aid(A:Option AS)(c:Nat)(l:List Int)(w:V)(hA:Arr 1 BD w w A l)(hl:Y l<=4611686018427387904):
  AL AE 123 #[R A (Y l) c,.func (.func 228) #[] #[]] w fun e w'=>e=AN (Av (!l.all PE))/\w=w':=by
 have cI:=Aic A c l w hA hl;go_in;go_wp2_with fail;refine cI.mono ?_;rintro e w2⟨r,rfl,hr,rfl⟩;go_wp2;go_ret;exact⟨Q,Q⟩
def Aie{s k:Nat}{n:Int}:(NM s n k).length<=k:=by
 unfold NM;split
 ·rename_i h0
  have:=VV h0;rw[X5 J];simp
 ·simp
theorem jv:∀(k:Nat) (l:List Bool) (ws:List Int),(l.take k).zip ws=(l.zip ws).take k
 | 0,l,ws=>by simp
 | k+1,[],ws=>by simp
 | k+1,x::l,[]=>by simp
 | k+1,x::l,y::ws=>by simp[jv k l ws]
theorem Aif{l:List Bool}{ws:List Int}{k:Nat}{v:Bool}{q:Int}(hv:l[k]?=I v)(hq:ws[k]?=I q):V6 (l.take (k+1)) ws=V6 (l.take k) ws+(if(EM v != q)=true then 1 else 0):=by
 have hk:=(EF.1 hv).1
 have e:(l.take (k+1)).zip ws=(l.take k).zip ws++ [(v,q)]:=by
  rw[jv,jv,GU,(List.getElem?_zip_eq_some (z:=(v,q))).2 ⟨hv,hq⟩]
  rfl
 unfold V6;rw[e,List.filter_append,KZ,List.filter_cons];simp only[List.filter_nil];split <;> simp_all
def BA.cs(f:BA):Array An:=#[R f.A (Y f.l) f.c,R f.C (Y f.m) f.d]
def Aig(x:BR)(j:Nat)(v:An)(hv:x.s.lim.cs[j]?=I v):x.cs[26+j]?=I v:=by
 rcases j with _ | _ | j
 all_goals first | exact hv | (exact absurd ((Bm.1 hv).1) (by show¬j+2<2;omega))
def Aih(x:BR)(j:Nat)(v:An)(hv:x.s.eps.cs[j]?=I v):x.cs[24+j]?=I v:=by
 rcases j with _ | _ | j
 all_goals first | exact hv | (exact absurd ((Bm.1 hv).1) (by show¬j+2<2;omega))
def uq(a:Bb)(s:Int)(W:Nat)(bits:List Bool)(k:Int)(ws:List Int):(a.send s W bits k ws).1.n=a.n:=by unfold Bb.send;split <;> rfl
def ur(a:Bb)(s:Int)(W:Nat)(bits:List Bool)(k:Int)(ws:List Int):(a.send s W bits k ws).1.t=a.t:=by unfold Bb.send;split <;> rfl
def Zi(e0 e1 e2 e3 e4:Int):Array An:=#[U O e0,U O e1,U O e2,U O e3,U O e4]
def Aii(t s n:Int)(f:BA):∃e0 e1 e2 e3:Int,VC t s n f=Ba (Zi e0 e1 e2 e3 (V7 t s n f)):=by
 unfold VC V7;split
 ·exact⟨t,s,n,IE t s n f,Q⟩
 ·exact⟨0,0,0,0,Q⟩
section
variable {τ:Nat→Nat} {w:V} {i b W nb mb:Nat} {x:BR} {bits:List Bool} {a:Bb}
def Aij(h:Bx τ w i b x W nb mb bits a)(hi:i≠0)(fr:BU τ w)(ok:Gi x.s W)(iv:BO (x.z W bits) a)(hb1:a.ph=1)(hsl:(Y a.slots:Int)=x.s.block)
  (A:Option AS) (c:Nat) (ws:List Int) (hv:Imm 1 BD τ w (R A (Y ws) c) ws) (lw:Y ws<=4096) (hw:ws.all okW=true):
  AL AE 199 #[AI (I ⟨b,0,Z⟩),R A (Y ws) c] w fun e w'=>QD τ w i b W nb mb bits x ((x.z W bits).QB a ws) e w':=by
 have FZ:=ok.n;obtain⟨A0,c0,MO,lk,mk,nk,hA,tA⟩:=hv;cases MO;obtain⟨M,hM⟩:=DV (show 0<=x.s.sample by have:=FZ.sample;omega);obtain⟨AP,hN⟩:=DV (show 0<=x.s.block by have:=FZ.block;omega);have Me:M<AP/\AP<=512:=by have:=FZ.block;have:=FZ.sample;omega
 obtain⟨Ad,cd,Lj,ld,md,nd,ard,td⟩:=h.li.decoys.1;have x23:E w ⟨b,23,Z⟩=I (U O M):=qrb hM (h.row.c 23);have x51:E w ⟨b,51,Z⟩=I (R Ad (Y a.decoys) cd):=qrb Lj (h.row.c 51)
 have hdl:Y a.decoys<=4096:=by
  have h1:=iz ((bF iv.kpt)) (fun y hy=>YY iv.kpt hy);have h2:=dq (NX (x.z W bits) a) a.kept;rw[<-iv.dec]at h2;have:=Va iv.pls;omega
 have L23:=qbc x23;have L51:=qbc x51;have S0:=(Ae w w).drew;have HM:=F hM;have HN:=F hN;obtain⟨Bn,hQ⟩:∃Bn:Nat,M+Y a.decoys=Bn:=⟨_,Q⟩
 have uW:IntKind.i64.wrap ((M:Int)+(Y a.decoys:Int))=(Bn:Int):=dC (by rw[Lg _ J];omega);by_cases Ll:Y ws=M+Y a.decoys
 case neg=>
  have hno:Aj ((x.z W bits).QB a ws=Z):=F (by
   unfold AV.QB;rw[Bd (show¬((Y ws:Int)=(x.z W bits).s.sample+Y a.decoys/\_)by rw[show(x.z W bits).s=x.s from rfl,hM];rintro⟨e,_⟩;omega)])
  have g1:((Y ws:Int) == (Bn:Int))=false:=by simp;omega
  clear Ll hQ hM hN;go_in;go_upto_region 1 with fail;refine qrh w S0 fun hHeld=>?_
  refine tQ4 0 ?_;refine tQ4 4 ?_;refine tQ4 8 ?_;refine tQ2 12 ?_;refine tQ 14 ?_;refine url 15 (fun KU Bc=>?_);go_simp;refine(IT _).mono ?_;rintro e w2⟨⟨u,v,rfl⟩,hb2⟩;exact⟨Q,.inl ⟨hno.out,⟨_,_,rfl⟩,S0.trans hb2⟩⟩
 have Hl1:=F Ll;have g1:((Y ws:Int) == (Bn:Int))=true:=by simp;omega
 clear hQ;have hMw:M<=Y ws:=J;have cC:=qbw w fun y hy=>Aid A c ws y (hA.on hy) J
 cases hall:ws.all PE with
 | false=>
  have hno:Aj ((x.z W bits).QB a ws=Z):=F (by
   unfold AV.QB;rw[Bd (fun hh=>by have e:ws.all PE=true:=hh.2;rw[hall]at e;cases e)])
  rw[hall]at cC;clear Ll hM hN hall;go_in;go_upto_region 1 with fail;refine qrh w S0 fun hHeld=>?_
  refine tQ4 0 ?_;refine tQ4 4 ?_;refine tQ4 8 ?_;refine tQ2 12 ?_;refine tQ 14 ?_;refine url 15 (fun KU Bc=>?_);go_simp;refine(FM _).mono ?_;rintro e w2⟨rfl,rfl⟩;refine Bc.out _ _ S0 (fun _=>?_);refine zp ?_;refine Ce ?_;have cC0:=cC _ S0;clear cC;go_wp2_with(first | (go_at_call 123;refine cC0.mono ?_;rintro e w2 ⟨rfl,rfl⟩) | (go_at_call 220;refine(IT _).mono ?_;rintro e w2 ⟨⟨u,v,rfl⟩,hb2⟩));exact⟨Q,.inl ⟨hno.out,⟨_,_,rfl⟩,S0.trans hb2⟩⟩
 | true=>
 have Ea:=F hall;rw[hall]at cC;obtain⟨P,hP⟩:=Az ((x.z W bits).QB a ws);rw[hP];have HP:=F hP;clear Ll hM hN hall hP;go_in;go_upto_region 1 with fail;refine qrh w S0 fun hHeld=>?_
 refine tQ4 0 ?_;refine tQ4 4 ?_;refine tQ4 8 ?_;refine tQ2 12 ?_;refine tQ 14 ?_;refine url 15 (fun KU Bc=>?_);go_simp;refine(FM _).mono ?_;rintro e w2⟨rfl,rfl⟩;refine Bc.out _ _ S0 (fun _=>?_);refine zp ?_;refine Ce ?_;have cC0:=cC _ S0;obtain⟨w1,BJ⟩:=Az (w.drew);have h1:=h.on S0;rw[BJ]at S0 cC0 h1 ⊢;clear cC BJ L23 L51 g1 hHeld;have Dc:=fr.on S0.size;obtain⟨Ap,cp,QK,lp,mp,np,arp,tp⟩:=h1.li.pulses;obtain⟨As,cs,hsv,ls,ms,ns,SL,ts⟩:=h1.li.slots;have OT:E w1 ⟨b,41,Z⟩=I (R Ap (Y a.pulses) cp):=qrb QK (h1.row.c 41);have y50:E w1 ⟨b,50,Z⟩=I (R As (Y a.slots) cs):=qrb hsv (h1.row.c 50);have hpl:=Va iv.pls;have hsN:Y a.slots=AP:=by have:=HN.out;omega
 have hsE:RW a.pulses a.slots=0:=ri iv.pls iv.slt;have IR:(KQ a.pulses a.slots).length=AP:=by unfold KQ;rw[Bd hsE,Dz];exact hsN
 have cS:=qbw w1 fun y hy=>qR Ap cp a.pulses As cs a.slots y (arp.on hy) (SL.on hy) J J
 rw[hsE]at cS;obtain⟨L0,hL0⟩:=Az (KQ a.pulses a.slots);rw[hL0]at IR;simp only[hL0]at cS;have HL0:=F hL0;have HLl:=F IR;have L41:=qbc OT;have L50:=qbc y50;have S1:=(Ae w1 w1).drew;have HsN:=F hsN;clear hL0 IR hsE QK hsv OT y50 hsN;go_upto_region 3 with(first | (go_at_call 123;refine cC0.mono ?_;rintro e w2 ⟨rfl,rfl⟩) | (go_at_call 220;refine(FM _).mono ?_;rintro e w2 ⟨rfl,rfl⟩))
 refine qrh w1 S1 fun hHeld=>?_
 refine tQ4 0 ?_;refine tQ4 4 ?_;refine tQ2 8 ?_;refine url 10 (fun KU Bc=>?_);go_simp;refine(cS _ S1).mono ?_;rintro e w2⟨v2,rfl,GZ,XJ⟩;have hb2:=AH S1 XJ;obtain⟨A2,c2,rfl,l2,m2,n2,Nv⟩:=GZ.form Dk;refine Bc.out _ _ (hb2) (fun _=>?_);refine zp ?_;refine tQ4 11 ?_;refine tQ 15 ?_;refine Ce ?_;clear cS L41 L50 hHeld cC0 XJ;obtain⟨L,hL⟩:=DV (show 0<=a.last by have:=iv.last;omega);have h2:=h1.on hb2;have Ej:=Dc.on hb2.size;have cD:=rM h2 ok L hL (by have:=iv.last;omega) A2 c2 L0 Nv (qrf HLl.out HN.out.symm);obtain⟨R1,Qg⟩:=Az (DN L0 ((x.z W bits).NW a));obtain⟨R2,FV⟩:=Az (DN L0 ((x.z W bits).MN a))
 have rU:Y R1<=M:=by
  rw[<-Qg];unfold DN AV.NW;rw[Dz,show(x.z W bits).s=x.s from rfl,HM.out];exact Aie
 have jw:Aj (Y R2<=512):=F (by
  rw[<-FV];unfold DN AV.MN;rw[Dz];exact bO)
 rw[Qg,FV]at cD;have HR1:=F Qg;have PM:=F FV;have HL:=F hL;clear Qg FV hL;go_upto_region 4 with fail;go_wp2_with fail;refine cD.mono ?_;rintro e w3⟨v3,v4,rfl,Fm,JC,hb3⟩;have LH:=JC.imm Dk (fun k hk=>Ej k hk);obtain⟨A3,c3,rfl,l3,m3,n3,Mq⟩:=Fm.form Dk;obtain⟨A4,c4,rfl,l4,m4,n4,Qn⟩:=JC.form Dk;have h3:=h2.on hb3;have Gz:=Ej.on hb3.size;have b3:=AH S0 (AH hb2 hb3);have Ff:=hA.on b3;clear cD Fm JC h1 h2 hb2 hb3 Nv GZ;go_upto_region 7 with fail;go_loopw [9,58] (fun sv iv wr=>∃k:Nat,k<=Y R1/\iv=U O k/\(∃q:Nat,q<=k/\sv=U O q/\Aj (V6 (R1.take k) ws=q))/\Ag w3 w3 wr) (fun _ iv _=>Y R1-(intOf iv).toNat);exact⟨0,J,rfl,⟨0,J,rfl,F rfl⟩,Ae _ _⟩
 obtain⟨k,hk,rfl,⟨q,Ku,rfl,NE⟩,Co⟩:=hrel;obtain⟨w8,rfl⟩:=qgn wr;by_cases hlt:k<Y R1
 ·obtain⟨bq,ofq,t,rfl,hbq,hq,d0⟩:=Mq.bool hlt Co
  have hkw:k<Y ws:=J;obtain⟨bw,ofw,v,rfl,hbw,hqw,e0⟩:=Ff.int hkw Co;have hst:=F (Aif hq.out hqw.out);have cB:=fun y=>bI t y
  obtain⟨G0,hU⟩:=Az (EM t);rw[hU]at hst;simp only[hU]at cB;clear hU;have S8:=(Ae w8 w8).drew;have Lv:=qbc e0;go_upto_region 9 with fail;refine qrh w8 S8 fun hHeld=>?_
  refine tQ 0 ?_;refine tQ4 2 ?_;refine url 1 (fun KU Bc=>?_);go_simp;refine(cB _).mono ?_;rintro e w9⟨rfl,rfl⟩;refine Bc.out _ _ (S8) (fun _=>?_);refine zp ?_;refine tQ 6 ?_;refine Ce ?_;cases hne:(G0 != v)with
  | true=>
   have hs2:Aj (V6 (R1.take (k+1)) ws=q+1):=F (by rw[hst.out,hne,Bd Q,NE.out]);go_wp2_with fail;exact⟨⟨k+1,J,qgm,⟨q+1,J,congrArg (Value.int .i64) J,hs2⟩,AH Co S8⟩,qio⟩
  | false=>
   have hs2:Aj (V6 (R1.take (k+1)) ws=q):=F (by rw[hst.out,hne,AU AO,Sz,NE.out]);go_wp2_with fail;exact⟨⟨k+1,J,qgm,⟨q,J,Q,hs2⟩,AH Co S8⟩,qio⟩
 ·obtain rfl:k=Y R1:=J
  rw[Ia]at NE;have h8:=h3.on Co;have Ki:=Gz.on Co.size;have y23:E w8 ⟨b,23,Z⟩=I (U O M):=qrb HM.out (h8.row.c 23);have cJ:=qbw w8 fun y hy=>xW (M:Int) (q:Int) x.s.lim y (h8.lim.1.on hy)
  obtain⟨E1,Lk⟩:=Az (Rb (M:Int) (q:Int) x.s.lim);simp only[Lk]at cJ;have HE1:=F Lk;have L23:=qbc y23;have S8:=(Ae w8 w8).drew;have KD:=h8.row;clear Lk y23;go_upto_region 12 with fail;refine qrh w8 S8 fun hHeld=>?_
  refine tQ4 0 ?_;refine tQ4 4 ?_;refine tQ2 8 ?_;refine G3 (i:=10) (v:= Ba x.s.lim.cs) Q AG AG AG (fun _ _ _ h=>h) (MQ Q 58 _ (by rfl) b 26 (by rfl) x.s.lim.cs _ (fun w' hS j v hv=>((KD.on hS).c (26+j)).trans (Aig x j v hv)) underlying58 Q (qiz 58 2)) hHeld ?_;refine zp ?_;refine url 11 (fun KU Bc=>?_);go_simp;refine gqz (cJ _ S8) fun w9 Vb=>?_;have BC:=AH S8 Vb;refine Bc.out _ _ (BC) (fun _=>?_);refine zp ?_;refine tQ 12 ?_;refine Ce ?_;have h9:=h8.on BC;have Ek:=Ki.on BC.size;have b9:=AH b3 (AH Co BC);have im9:=LH.keep (Kp.of (AH Co BC));have KA:1<=a.last/\a.last<=1000:=⟨iv.busy hb1,iv.last.2⟩
  obtain⟨T,hT⟩:=Az (V7 (AP:Int) (M:Int) (q:Int) x.s.eps);have HT:=F hT
  have EQ:Aj (P=if E1≠0 then I ((x.z W bits).stop a 18)else if x.s.o.k=1 then
    (if((x.z W bits).LF {a with t:=T,n:=Y R2,block:=R2} (ws.drop M) (Y R2)).2≠0 then I ((x.z W bits).stop {a with t:=T,n:=Y R2,block:=R2} 9)else I ((x.z W bits).send {a with t:=T,n:=((x.z W bits).LF {a with t:=T,n:=Y R2,block:=R2} (ws.drop M) (Y R2)).1,block:=R2,wait:=[6,8]} 5 [((x.z W bits).LF {a with t:=T,n:=Y R2,block:=R2} (ws.drop M) (Y R2)).1,T]))
    else I ((x.z W bits).send {a with t:=T,n:=Y R2,block:=R2,wait:=[6,8]} 5 [(Y R2:Int),T])):=F (by
   rw[<-HP.out];unfold AV.QB;rw[show(x.z W bits).s=x.s from rfl,HM.out,HN.out,AU (show¬¬((Y ws:Int)=(M:Int)+Y a.decoys/\ws.all (fun n=>decide (n<=1))=true)by rw[Xk];exact⟨by have:=Hl1.out;omega,Ea.out⟩)];simp only;rw[HL0.out,HR1.out,PM.out,NE.out,HE1.out,hT]
   rfl)
  clear cJ L23 hHeld Vb hT h8 LH;by_cases e1:E1=0
  case neg=>
   have g0:(E1 != 0)=true:=qsu e1;have Kj:Aj (P=I ((x.z W bits).stop a 18)):=F (by rw[EQ.out,Bd e1]);have cS:=SY h9 hi Ek 18 AC KA;clear EQ e1;go_wp2_with fail;refine cS.mono ?_;rintro e FW⟨x',v',rfl,hf,hs2,hO,fx⟩;go_wp2;go_ret;exact .inr ⟨_,Kj.out,DA.fin fr (Frm.of b9) (Fix.refl x) hf hs2 hO fx⟩
  subst e1;obtain⟨e0,e1,e2,e3,hrt⟩:=Aii (AP:Int) (M:Int) (q:Int) x.s.eps;rw[HT.out]at hrt;have cR:=qbw w9 fun y hy=>xK (AP:Int) (M:Int) (q:Int) x.s.eps y (h9.eps.1.on hy)
  rw[hrt]at cR;obtain⟨E2,Gs⟩:=Az (Ic (AP:Int) (M:Int) (q:Int) x.s.eps);simp only[Gs]at cR;clear Gs hrt;have My:=h9.row;have L23:=qbc (show E w9 ⟨b,23,Z⟩=I (U O M)by rw[<-HM.out];exact h9.row.c 23);have L22:=qbc (show E w9 ⟨b,22,Z⟩=I (U O AP)by rw[<-HN.out];exact h9.row.c 22);have S9:=(Ae w9 w9).drew;have isz:=(qiz 175 5)
  go_upto_region 14 with fail;go_cut [12,13] (fun v12 v13 wx=>∃gb,v12=AI (I ⟨gb,0,Z⟩)/\v13=U O E2/\wx.heap[gb]?=I (N (Zi e0 e1 e2 e3 T) 175 (0,0))/\w9.heap.size<=gb/\Ag w9 w9 wx)
  case first=>
   refine qrh w9 S9 fun hHeld=>?_
   refine tQ4 0 ?_;refine tQ4 4 ?_;refine tQ4 8 ?_;refine tQ2 12 ?_;refine tQ 14 ?_;refine G3 (i:=15) (v:= Ba x.s.eps.cs) Q AG AG AG (fun _ _ _ h=>h) (MQ Q 58 _ (by rfl) b 24 (by rfl) x.s.eps.cs _ (fun w' hS j v hv=>((My.on hS).c (24+j)).trans (Aih x j v hv)) underlying58 Q (qiz 58 2)) hHeld ?_;refine zp ?_;refine I8 [16,20] ?_;refine Dj Q (fun KU Bc=>?_) (Dj Q (fun KV hKV=>?_) GQ)
   ·go_simp
    refine gqz (cR _ S9) fun Bs QF=>?_;have CP:=AH S9 QF;refine Bc.out _ _ CP (fun _=>?_);refine zp ?_;refine tQ2 17 ?_;refine tQ 19 ?_;refine url 20 (fun KU Bc=>?_);go_simp;refine Bc.out _ _ (AB CP _) (fun _=>?_);refine zp ?_;refine url 21 (fun KU Bc=>?_);refine Zh Q 175 _ _ Q Bs (Zi e0 e1 e2 e3 T) AG AG 175 _ (CB Bs _) isz Q AG ?_;rw[World.setRow_alloc_new];refine Bc.out _ _ (AB CP _) (fun _=>?_);refine zp ?_;refine tQ 22 ?_;refine Ce ?_;go_wp2;go_meet;exact⟨_,rfl,rfl,CB Bs _,CP.size,AB CP _⟩
   ·go_simp
    have OA:Ag w9 w9 (Ao w9 (N #[U O 0,U O 0,U O 0,U O 0,U O 0] 175)).drew:=(AB (Ae _ _) _).drew;refine hKV.out _ _ OA (fun _=>?_);refine zp ?_;refine url 16 (fun KU Bc=>?_);go_simp;refine gqz (cR _ OA) fun Bs QF=>?_;have CP:=AH OA QF;have Fr:=(QF.block w9 AO).trans (CB w9 (N #[U O 0,U O 0,U O 0,U O 0,U O 0] 175));have hbS:Ag w9 w9 (Bs.setRow w9 (Zi e0 e1 e2 e3 T)):=CP.trans ((AT.grown (S:=fun k=>w9.heap.size<=k) (Fw Bs w9 _) (fun g hg=>by cases hg;exact .inl (Bg _))).below CP.size (fun k hk=>hk));refine Bc.out _ _ CP (fun _=>?_);refine zp ?_;refine tQ2 17 ?_;refine tQ 19 ?_;refine url 21 (fun KU Bc=>?_);refine Zh Q 175 _ _ Q w9 (Zi e0 e1 e2 e3 T) AG AG 175 _ Fr isz Q AG ?_;refine Bc.out _ _ hbS (fun _=>?_);refine zp ?_;refine tQ 22 ?_;refine Ce ?_;go_wp2;go_meet;exact⟨_,rfl,rfl,GS _ _ _ _ _ (0,0) Fr,Bg _,hbS⟩
  obtain⟨gb,Aik,Ail,ut,hgb,DT⟩:=hcut;subst Aik Ail;have h10:=h9.on DT;have NZ:=Ek.on DT.size;have Jj:=AH b9 DT;have Pt:=im9.keep (Kp.of DT);clear cR L22 L23 S9 isz My h9 im9;have hbl:b<gb:=Ck (Ck (Bm.1 h.row).1 (Br b9.size (Bg _))) hgb;have cT:E wc ⟨gb,4,Z⟩=I (U O T):=AX wc gb 4 _ _ _ ut;have y54:=h10.row.c 54;have z54:=h10.row.fr 54;have y53:=h10.row.c 53;have z53:=h10.row.fr 53;have KW:=h10.row.c 52;have z52:=h10.row.fr 52;have h11:=h10.rH hi T;have DO:=h11.iC hi (Y R2:Int);have f12:=(h10.JA 54 (U O T)).trans (h11.JA 53 (U O (Y R2)));have uu:=Pt.keep (f12.kp hi);have h13:=DO.setBlock hi (R A4 (Y R2) c4) R2 uu;have f13:=(Frm.of Jj).trans (f12.trans (DO.JA 52 (R A4 (Y R2) c4)));have dF:=(hA.on Jj)
  go_upto_region 16 with fail;obtain⟨DB,Wp⟩:=Az (Ai (Ai (Ai wc ⟨b,54,Z⟩ (U O T)) ⟨b,53,Z⟩ (U O (Y R2))) ⟨b,52,Z⟩ (R A4 (Y R2) c4));rw[Wp]at h13 f13 ⊢;have Zg:=fr.on f13.out.size;have dF:Arr 1 BD DB DB A ws:=f13.out.arr hA (fun y hy e=>hi (e.symm.trans (tA y hy).2));have y1:E DB ⟨b,1,Z⟩=I (U O x.s.o.k):=h13.row.c 1;clear y54 z54 y53 z53 KW z52 h10 h11 DO f12 uu Pt Wp ut cT hbl hgb NZ Jj b9 Co DT BC Mq Qn;by_cases hk:x.s.o.k=1
  case neg=>
   have g1:(x.s.o.k == 1)=false:=qsu hk;have Kj:Aj (P=I ((x.z W bits).send {a with t:=T,n:=Y R2,block:=R2,wait:=[6,8]} 5 [(Y R2:Int),T])):=F (by rw[EQ.out,AU AO,AU hk]);clear EQ hk;obtain⟨Sf,Sg,GM,f17⟩:=h13.wait hi Zg #[U O 6,U O 8] 3 [6,8] Q AC;simp only[List.length_cons,List.length_nil,Nat.zero_add]at GM f17;go_upto_region 22 with fail;obtain⟨QL,Ub⟩:=Az ((DB.alloc (N #[U O 6,U O 8] 3)).setCell ⟨b,43,Z⟩ (R (I ⟨DB,0,Z⟩) 2 2));rw[Ub]at GM f17 ⊢;have f017:=f13.trans f17;have TZ:=fr.on f017.out.size;have Pp:E QL ⟨b,53,Z⟩=I (U O (Y R2)):=GM.row.c 53;have Pq:E QL ⟨b,54,Z⟩=I (U O T):=GM.row.c 54;have OG:=(AB (Ae QL QL) (N #[U O (Y R2),U O T] 3)).drew;have im:=(Imm.lit TZ #[U O (Y R2),U O T] 3 [(Y R2:Int),T] Q AO).keep (Kp.of (Ae _ _).drew);simp only[List.length_cons,List.length_nil,Nat.zero_add]at im;have h18:=GM.on OG
   have cS:=Qx h18 hi (TZ.on OG.size) 5 _ [(Y R2:Int),T] im (Qy KA AC (TY h18) (Fg Q)) (Vd fun y hy=>by
    have t1:=iM (AP:Int) (M:Int) (q:Int) x.s.eps;rw[HT.out]at t1;have t2:=jw.out;simp only[List.mem_cons,List.not_mem_nil,or_false]at hy;rcases hy with rfl | rfl <;> omega)
   clear Ub GM im h18 Sf Sg;refine Fz (S:=fun w'=>E w' ⟨b,53,Z⟩=I (U O (Y R2))/\E w' ⟨b,54,Z⟩=I (U O T)) AG ⟨Pp,Pq⟩ (fun hHeld=>?_);refine tQ4 0 ?_;refine tQ4 4 ?_;refine tQ2 8 ?_;refine tQ 10 ?_;refine url 11 (fun KU Bc=>?_);go_simp;refine Bc.out _ _ ⟨AK OG Pp,AK OG Pq⟩ (fun _=>?_);refine zp ?_;refine url 12 (fun KU Bc=>?_);go_simp;refine cS.mono ?_;rintro e w19⟨x',v',rfl,hf,hs,hO,fx⟩
   have e53:E w19 ⟨b,53,Z⟩=I (U O (Y R2)):=by
    have e:=hs.row.c 53;rw[show x'.cs[53]?=I (U O x'.k.n)from rfl,hs.num.n,uq]at e;exact e
   have e54:E w19 ⟨b,54,Z⟩=I (U O T):=by
    have e:=hs.row.c 54;rw[show x'.cs[54]?=I (U O x'.k.t)from rfl,hs.num.t,ur]at e;exact e
   refine Bc.out _ _ ⟨e53,e54⟩ (fun _=>?_);refine zp ?_;refine tQ 13 ?_;refine Ce ?_;go_wp2;go_ret;exact .inr ⟨_,Kj.out,DA.send fr (f017.trans (Frm.of OG)) (x1:={x with k:={x.k with t:=T,n:=(Y R2:Int),block:= R A4 (Y R2) c4,wait:= R (I ⟨DB,0,Z⟩) 2 2}}) ⟨rfl,rfl,rfl⟩ hf hs hO fx⟩
  have g1:(x.s.o.k == 1)=true:=qsu hk;obtain⟨n1,GC⟩:=Az (((x.z W bits).LF {a with t:=T,n:=Y R2,block:=R2} (ws.drop M) (Y R2)).1);obtain⟨e9,N7⟩:=Az (((x.z W bits).LF {a with t:=T,n:=Y R2,block:=R2} (ws.drop M) (Y R2)).2);have Kj:Aj (P=if e9≠0 then I ((x.z W bits).stop {a with t:=T,n:=Y R2,block:=R2} 9)else I ((x.z W bits).send {a with t:=T,n:=n1,block:=R2,wait:=[6,8]} 5 [n1,T])):=F (by rw[EQ.out,AU AO,Bd hk,GC,N7]);have hnr:Aj (0<=n1/\n1<=512):=F (by have:=sk (x.z W bits) {a with t:=T,n:=Y R2,block:=R2} (ws.drop M) (Y R2);rw[GC]at this;have:=jw.out;omega);have iv1:BO (x.z W bits) {a with t:=T,n:=(Y R2:Int),block:=R2}:={iv with blk:=jw.out}
  have uv:(ws.drop M).length=Y a.decoys:=by rw[SI];have:=Hl1.out;omega
  have cS1:=fun(B:Option AS) (cB:Nat) (y:V) (hy:Ag DB DB y) (hB:Arr 1 BD y y B (ws.drop M))=>Ah7 (h13.on hy) ok iv1 B cB (ws.drop M) hB uv (Y R2)
  have z13:∀B cB y,Ag DB DB y->Arr 1 BD y y B (ws.drop M)->AL AE 230 #[AI (I ⟨b,0,Z⟩),R B (Y ws-M) cB,U O (Y R2)] y fun e w'=>e=AN (Be #[U O n1,U O e9])/\Ag y y w':=fun B cB y hy hB=>by
   have:=cS1 B cB y hy hB;rw[SI]at this;rw[<-GC,<-N7];exact this
  have y23:E DB ⟨b,23,Z⟩=I (U O M):=qrb HM.out (h13.row.c 23);clear cS1 EQ GC N7 uv iv1;go_upto_region 17 with fail;go_cut [14,15] (fun v14 v15 wx=>v14=U O n1/\v15=U O e9/\Ag DB DB wx)
  case first=>
   by_cases hc:c=M
   ·have hz:Y ws=M:=J
    have hz0:Y ws-M=0:=J;have hd:ws.drop M=[]:=X6 J;have cz:=z13 A 0 DB (Ae _ _) (qrf hd Arr.nil);rw[hz0]at cz;go_wp2_with fail;refine gqz cz fun Mr O1=>?_;clear hz hz0 hd hc;go_wp2;go_meet;exact⟨rfl,rfl,O1⟩
   ·by_cases hw0:ws=[]
    ·have hM0:M=0:=by rw[hw0]at hMw;simpa using hMw
     have hd:ws.drop M=[]:=by rw[hw0];simp
     have cz:∀B cB,AL AE 230 #[AI (I ⟨b,0,Z⟩),R B 0 cB,U O (Y R2)] DB fun e w'=>e=AN (Be #[U O n1,U O e9])/\Ag DB DB w':=fun B cB=>by
      have:=z13 B cB DB (Ae _ _) (qrf hd Arr.nil);rw[show Y ws-M=0 by rw[hw0];simp]at this;exact this
     subst hw0;subst hM0;clear hd z13;have nk':A≠Z:=fun e=>hc (nk e)
     obtain⟨aa,rfl⟩:∃aa,A=I aa:=by
      cases A with
      | none=>exact absurd Q nk'
      | some aa=>exact⟨aa,Q⟩
     clear nk';go_wp2_with fail;refine gqz (cz _ _) fun Mr O1=>?_;go_wp2;go_meet;exact⟨rfl,rfl,O1⟩
    ·obtain⟨bk,off,rfl,Ez,DG⟩:=dF hw0
     have OS:Arr 1 BD DB DB (I ⟨bk,off+M,Z⟩) (ws.drop M):=by
      have:=dF.part M (Y ws-M);rw[JK,EG AO]at this;exact this
     have cz:=z13 (I ⟨bk,off+M,Z⟩) (c-M) DB (Ae _ _) OS;clear hw0 DG OS z13;go_wp2_with fail;refine gqz cz fun Mr O1=>?_;go_wp2;go_meet;exact⟨rfl,rfl,O1⟩
  obtain⟨Oa,h15,O1⟩:=hcut;subst Oa h15;have Oa:=h13.on O1;have f14:=f13.trans (Frm.of O1);have Xu:=Zg.on O1.size;obtain⟨Mr,rfl⟩:=qgn wc;clear z13 h13 f13 dF y23 y1;by_cases e0:e9=0
  case neg=>
   have g0:(e9 != 0)=true:=qsu e0;have EQ3:Aj (P=I ((x.z W bits).stop {a with t:=T,n:=Y R2,block:=R2} 9)):=F (by rw[Kj.out,Bd e0]);have cS:=SY Oa hi Xu 9 AC KA;clear Kj e0;go_wp2_with fail;refine cS.mono ?_;rintro e FW⟨x',v',rfl,hf,hs2,hO,fx⟩;go_wp2;go_ret;exact .inr ⟨_,EQ3.out,DA.stop fr f14 (x1:={x with k:={x.k with t:=T,n:=(Y R2:Int),block:= R A4 (Y R2) c4}}) ⟨rfl,rfl,rfl⟩ hf hs2 hO fx⟩
  subst e0;have EQ3:Aj (P=I ((x.z W bits).send {a with t:=T,n:=n1,block:=R2,wait:=[6,8]} 5 [n1,T])):=F (by rw[Kj.out,AU AO]);have y53:=Oa.row.c 53;have z53:=Oa.row.fr 53;have h20:=Oa.iC hi n1;have f20:=f14.trans (Oa.JA 53 (U O n1));clear Kj;go_upto_region 21 with fail;obtain⟨w20,uw⟩:=Az (Mr.setCell ⟨b,53,Z⟩ (U O n1));rw[uw]at h20 f20 ⊢;have Aim:=fr.on f20.out.size;clear uw Oa f14 y53 z53;obtain⟨Sf,Sg,GM,f17⟩:=h20.wait hi Aim #[U O 6,U O 8] 3 [6,8] Q AC;simp only[List.length_cons,List.length_nil,Nat.zero_add]at GM f17;go_upto_region 22 with fail;obtain⟨QL,Ub⟩:=Az ((w20.alloc (N #[U O 6,U O 8] 3)).setCell ⟨b,43,Z⟩ (R (I ⟨w20,0,Z⟩) 2 2));rw[Ub]at GM f17 ⊢;have f017:=f20.trans f17;have TZ:=fr.on f017.out.size;have Pp:E QL ⟨b,53,Z⟩=I (U O n1):=GM.row.c 53;have Pq:E QL ⟨b,54,Z⟩=I (U O T):=GM.row.c 54;have OG:=(AB (Ae QL QL) (N #[U O n1,U O T] 3)).drew;have im:=(Imm.lit TZ #[U O n1,U O T] 3 [n1,T] Q AO).keep (Kp.of (Ae _ _).drew);simp only[List.length_cons,List.length_nil,Nat.zero_add]at im;have h18:=GM.on OG
  have cS:=Qx h18 hi (TZ.on OG.size) 5 _ [n1,T] im (Qy KA AC (TY h18) (Fg Q)) (Vd fun y hy=>by
   have t1:=iM (AP:Int) (M:Int) (q:Int) x.s.eps;rw[HT.out]at t1;have t2:=hnr.out;simp only[List.mem_cons,List.not_mem_nil,or_false]at hy;rcases hy with rfl | rfl <;> omega)
  clear Ub GM im h18 Sf Sg;refine Fz (S:=fun w'=>E w' ⟨b,53,Z⟩=I (U O n1)/\E w' ⟨b,54,Z⟩=I (U O T)) AG ⟨Pp,Pq⟩ (fun hHeld=>?_);refine tQ4 0 ?_;refine tQ4 4 ?_;refine tQ2 8 ?_;refine tQ 10 ?_;refine url 11 (fun KU Bc=>?_);go_simp;refine Bc.out _ _ ⟨AK OG Pp,AK OG Pq⟩ (fun _=>?_);refine zp ?_;refine url 12 (fun KU Bc=>?_);go_simp;refine cS.mono ?_;rintro e w19⟨x',v',rfl,hf,hs,hO,fx⟩
  have e53:E w19 ⟨b,53,Z⟩=I (U O n1):=by
   have e:=hs.row.c 53;rw[show x'.cs[53]?=I (U O x'.k.n)from rfl,hs.num.n,uq]at e;exact e
  have e54:E w19 ⟨b,54,Z⟩=I (U O T):=by
   have e:=hs.row.c 54;rw[show x'.cs[54]?=I (U O x'.k.t)from rfl,hs.num.t,ur]at e;exact e
  refine Bc.out _ _ ⟨e53,e54⟩ (fun _=>?_);refine zp ?_;refine tQ 13 ?_;refine Ce ?_;go_wp2;go_ret;exact .inr ⟨_,EQ3.out,DA.send fr (f017.trans (Frm.of OG)) (x1:={x with k:={x.k with t:=T,n:=n1,block:= R A4 (Y R2) c4,wait:= R (I ⟨w20,0,Z⟩) 2 2}}) ⟨rfl,rfl,rfl⟩ hf hs hO fx⟩
end
end Go.Proofs.YtjpidgffdkjjeaaGreat
