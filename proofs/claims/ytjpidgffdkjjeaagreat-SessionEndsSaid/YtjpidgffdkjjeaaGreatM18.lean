/- Contracts and plain laws. No condition. -/
import Derived.Test.YtjpidgffdkjjeaaGreatMA
import Derived.Test.YtjpidgffdkjjeaaGreatM15
import Derived.Test.YtjpidgffdkjjeaaGreatM16
set_option linter.all false
set_option maxHeartbeats 16000000
namespace Go.Proofs.YtjpidgffdkjjeaaGreat
open Go.Proofs.Tryz
open Go.Proofs.Tryz renaming prog->AE
open List renaming length->Y
open Go.World renaming cell?->E,setCell->Ai,alloc->Ao,frozen?->Bo
open Go.Value renaming int->U,slice->R,pointer->AI,agg->Ba,tuple->Be,nilFunc->Bl,bool->Av
open Go.IntKind renaming i64->O,u64->AA,u32->BF,u8->Cd
open Option renaming none->Z,some->I
open Go.Ending renaming returned->AN
open Go.Obj renaming cells->N
open Go renaming World->V,Value->An,Calls->AL,Addr->AS
open Go.RowKit renaming Below->Ag,Hid->Aj
open Go.RowKit
set_option maxRecDepth 100000
def Agy{l:List C5}{k:Nat}{r:C5}(h:l[k]?=I r):Iw (l.drop k)=if r.k=3 then r.a*(1-2*r.b)else Iw (l.drop (k+1)):=by
 obtain⟨hk,rfl⟩:=EF.1 h;rw[PI hk,Iw]
def Agz(A:Option AS)(c:Nat)(l:List C5)(w:V)(hA:Arr 5 C5.enc w w A l)(hr:LZ l=0)(hr2:l.all DU=true)(hr3:Y l<=32):
  AL AE 171 #[R A (Y l) c] w fun e w'=>e=AN (Be #[U O (Iw l),U O 0])/\Ag w w w':=by
 have cR:=ZV A c l w hA J;rw[hr]at cR;have Hr2:=F hr2;clear hr hr2;go_enter func171,ntmps171;go_wp2_with fail;refine cR.mono ?_;rintro e w1⟨rfl,hb1⟩;clear cR;go_wp2_with fail;go_loopw [14] (fun i wr=>∃k:Nat,k<=Y l/\i=U O k/\Aj (Iw l=Iw (l.drop k))/\Ag w w wr) (fun i _=>Y l+1-(intOf i).toNat)
 case atStart=>exact⟨0,BM _,rfl,F AO,hb1⟩
 case round=>
  obtain⟨k,hk,rfl,inv,hb⟩:=hrel;obtain⟨wi,rfl⟩:=qgn wr;rcases D4 k (Y l)with hlt | D8
  ·obtain⟨b,off,x,rfl,BN,hx,c0,c1,c2,c3,c4⟩:=hA.rul hlt hb
   have hst:=F (Agy hx);have NR:=EA.1 Hr2 _ (DI hx);have q7:=AB hb (N x 196);by_cases h3:x.k=3
   ·have hab:(x.b=0\/x.b=1)/\x.b<=x.a/\x.a<=16:=by
     unfold DU at NR;rw[AU J,Bd h3]at NR;simp only[Bool.and_eq_true,Us,Bool.or_eq_true,beq_iff_eq,decide_eq_true_eq]at NR;exact⟨NR.1.1.2,NR.1.2,NR.2⟩
    have hv:Aj (Iw l=x.a*(1-2*x.b)):=F (by rw[inv.out,hst.out,Bd h3]);obtain⟨xk,xf,xt,xa,xb⟩:=x;simp only at h3 hab hv c0 c1 c2 c3 c4 q7;subst h3;obtain⟨MT,AjT,AjU⟩:=hab;clear hst inv hx NR;rcases MT with rfl | rfl
    ·go_wp2_with fail
     go_ret2;exact⟨by rw[hv.out];simp,q7⟩
    ·go_wp2_with fail
     go_ret2;have e9:xa*(1-2*1)=-xa:=J;exact⟨by rw[hv.out,e9];rfl,q7⟩
   ·have hn:Aj (Iw l=Iw (l.drop (k+1))):=F (by rw[inv.out,hst.out,AU h3])
    have e3:(x.k == 3)=false:=qsu h3;clear hst inv hx NR;go_wp2_with fail;exact⟨⟨k+1,J,qgm,hn,q7⟩,qio⟩
  ·have hn:Aj (Iw l=0):=F (by rw[inv.out,WB D8];rfl)
   go_wp2_with fail;go_ret2;exact⟨by rw[hn.out];rfl,hb⟩
structure MV(W:V)(By s0 s1 s2:Nat)(o:Bw):Prop where
 op:CC W By o
 sd:W.heap[By+1]?=I (N #[U AA s0,U AA s1,U AA s2] 203 (0,0))
 r:W.heap[By+1+1]?=I (N #[R Z 0 0,R Z 0 0,R Z 0 0,U O 0] 84 (0,0))
section
variable {W W':V} {By s0 s1 s2:Nat} {o:Bw}
theorem MV.grown(h:MV W By s0 s1 s2 o){row:Option Nat}(hg:W.grownBy W' row)(hr:∀k,row=I k->By+1+1<k):MV W' By s0 s1 s2 o:=by
 have k:∀{j:Nat} {v:Obj},W.heap[j]?=I v->j<=By+1+1->W'.heap[j]?=I v:=fun hj hb=>(hg.block _ (Bm.1 hj).1 (fun e=>by grind)).trans hj
 exact⟨k h.op J,k h.sd J,k h.r (Bg _)⟩
def MV.on(h:MV W By s0 s1 s2 o)(hb:Ag W W W'):MV W' By s0 s1 s2 o:=h.grown (Db hb) AO
def MV.c0(h:MV W By s0 s1 s2 o):E W ⟨By+1,0,Z⟩=I (U AA s0):=AX _ _ _ _ _ _ h.sd
def MV.c1(h:MV W By s0 s1 s2 o):E W ⟨By+1,1,Z⟩=I (U AA s1):=AX _ _ _ _ _ _ h.sd
def MV.c2(h:MV W By s0 s1 s2 o):E W ⟨By+1,2,Z⟩=I (U AA s2):=AX _ _ _ _ _ _ h.sd
theorem MV.new(w:V)(s0 s1 s2:Nat)(o:Bw):MV (Ao (Ao (Ao w (N o.cs 54)) (N #[U AA s0,U AA s1,U AA s2] 203)) (N #[R Z 0 0,R Z 0 0,R Z 0 0,U O 0] 84)) w s0 s1 s2 o:=by
 refine⟨?_,?_,?_⟩
 ·exact(Vg _ _ qsm).trans (Uq w _ _)
 ·exact(Vg _ _ AO).trans (Ur w _ _)
 ·have e:(Ao (Ao w (N o.cs 54)) (N #[U AA s0,U AA s1,U AA s2] 203)).heap.size=w.heap.size+1+1:=AO
  rw[<-e];exact CB _ _
end
def Tk{α:Type}{w w':V}{B e sz:Nat}{enc:α->List An}{v:An}{l:List α}(o:Go.Proofs.YtjpidgffdkjjeaaGreat.Own w B e sz enc v l){X:Nat}{cs:Array An}{T:TypeId}{fr:Nat × Nat}(hX:w.heap[X]?=I (N cs T fr))(hT:T≠e)(hg:w.grownBy w' (I X)):Go.Proofs.YtjpidgffdkjjeaaGreat.Own w' B e sz enc v l:=by
 refine o.keep hg ?_;rcases o.2 with⟨rfl,_⟩ | ⟨g,cap,cur,rfl,_,hgb,_⟩
 ·exact .inl Q
 ·have:=KX hgb hX (fun e=>hT e.symm)
  exact .inr (by simp[Value.ownBlock];omega)
def GA(W:V)(AY:Nat)(a b c d:An):Prop:=W.heap[AY]?=I (N #[a,b,c,d] 84 (0,0))
section
variable {W W':V} {AY:Nat} {a b c d:An}
def GA.on(h:GA W AY a b c d)(hb:Ag W W W'):GA W' AY a b c d:=(hb.block _ (Bm.1 h).1).trans h
def GA.c0(h:GA W AY a b c d):E W ⟨AY,0,Z⟩=I a:=AX _ _ _ _ _ _ h
def GA.c1(h:GA W AY a b c d):E W ⟨AY,1,Z⟩=I b:=AX _ _ _ _ _ _ h
def GA.c2(h:GA W AY a b c d):E W ⟨AY,2,Z⟩=I c:=AX _ _ _ _ _ _ h
def GA.c3(h:GA W AY a b c d):E W ⟨AY,3,Z⟩=I d:=AX _ _ _ _ _ _ h
theorem GA.fr(h:GA W AY a b c d)(j:Nat):Bo W ⟨AY,j,Z⟩=false:=CJ _ _ _ _ _ h
def GA.Ft(h:GA W AY a b c d)(v:An):GA (Ai W ⟨AY,1,Z⟩ v) AY a v c d:=CM _ _ 1 _ _ v h
def GA.AgA(h:GA W AY a b c d)(v:An):GA (Ai W ⟨AY,2,Z⟩ v) AY a b v d:=CM _ _ 2 _ _ v h
def GA.AgB(h:GA W AY a b c d)(v:An):GA (Ai W ⟨AY,3,Z⟩ v) AY a b c v:=CM _ _ 3 _ _ v h
end
def AgC(o:Bw)(A:Option AS)(cA:Nat)(l:List C5)(n s0 s1 s2:Nat)(w:V)(ho:Jh o=true)(hA:Arr 5 C5.enc w w A l)(hr:LZ l=0)(hr2:l.all DU=true)(hr3:Y l<=32)(hn:n<=4096):
  AL AE 121 #[o.val,R A (Y l) cA,U O n,Ba #[U AA s0,U AA s1,U AA s2]] w fun e w'=>∃v1 v2 v3,e=AN (Be #[Ba #[v1,v2,v3,U O (Iw l)],U O 0])/\
   Own w' w 154 5 AQ.enc v1 (Fb o s0 n).1/\Own w' w 162 2 Bf.enc v2 (Eu o.eta o.dark (CQ l (Fb o s0 n).1 s1 n).1 (Iw l) s2 n).1/\Own w' w 165 4 CA.enc v3 (CQ l (Fb o s0 n).1 s1 n).2.2/\Ag w w w':=by
 have S0:=MV.new w s0 s1 s2 o;have hb0:=AB (AB (AB (Ae w w) (N o.cs 54)) (N #[U AA s0,U AA s1,U AA s2] 203)) (N #[R Z 0 0,R Z 0 0,R Z 0 0,U O 0] 84);have e0:FG o=0:=by unfold FG;rw[Bd ho]
 have hval:o.val=Ba o.cs:=Q;unfold Bw.val Bw.cs at*;have Ho:=F ho;have hel:=Z9 o s0 n;have heo:=iP o s0 n;have hpe:=Lb.2 ⟨J,heo⟩;obtain⟨PL,hPL⟩:=Az ((Fb o s0 n).1);have DG:=ce l PL s1 n (by rw[<-hPL];omega);have Qe:=iR l hr2 PL (qrb hPL heo) s1 n;have Qs:=sH hr2;simp only[AR,decide_eq_true_eq]at Qs;rw[hPL]at hel hpe ⊢;have Hel:=F hel;have Hpe:=F hpe;have Hcl:=F DG;have Hco:=F Qe;have Hr:=F hr;have Hr2:=F hr2;have HPL:=F hPL;clear hel hpe heo DG Qe hr hr2 hPL ho;go_enter func121,ntmps121;go_upto_region 1 with fail;obtain⟨W0,hW0⟩:=Az (Ao (Ao (Ao w (N o 54)) (N #[U AA s0,U AA s1,U AA s2] 203)) (N #[R Z 0 0,R Z 0 0,R Z 0 0,U O 0] 84));rw[hW0]at S0 hb0 ⊢;clear hW0;have Ci:=F S0.op;have cC:=Yf o W0;rw[e0]at cC;unfold Bw.val Bw.cs at cC;go_wp2_with(refine qlr 54 Ci underlying54 ?_);refine cC.mono ?_;rintro e w1⟨rfl,hb1⟩;have S1:=S0.on hb1;have q1:=AH hb0 hb1;clear cC Ci S0 hb0 hb1 e0;go_wp2_with fail;have cR:=ZV A cA l w1 (hA.on q1) J;rw[Hr.out]at cR;refine cR.mono ?_;rintro e w2⟨rfl,hb2⟩;have S2:=S1.on hb2;have q2:=AH q1 hb2;clear cR S1 q1 hb2;have Fy:=F S2.op;have y0:=S2.c0;go_wp2_with(refine qlr 54 Fy underlying54 ?_);have cE:=Af9 o n s0 w2 Ho hn;rw[HPL.out]at cE;unfold Bw.val Bw.cs at cE;refine cE.mono ?_;rintro e w3⟨v1,rfl,Dy,hb3⟩;obtain⟨A1,c1,rfl,_,_,_,hr1⟩:=Dy.form AQ.BY;have S3:=S2.on hb3;have q3:=AH q2 hb3;have Dy:=Go.Proofs.YtjpidgffdkjjeaaGreat.Own.down Dy q2.size;clear cE Fy y0 S2 q2 hb3;have F4:GA (Ao w3 (N #[R A1 (Y PL) c1,R Z 0 0,R Z 0 0,U O 0] 84)) w3 (R A1 (Y PL) c1) (R Z 0 0) (R Z 0 0) (U O 0):=World.alloc_heap_new _ _;have S4:=S3.on (AB (Ae _ _) (N #[R A1 (Y PL) c1,R Z 0 0,R Z 0 0,U O 0] 84));have q4:=AB q3 (N #[R A1 (Y PL) c1,R Z 0 0,R Z 0 0,U O 0] 84);have Eb:=Dy.alloc (N #[R A1 (Y PL) c1,R Z 0 0,R Z 0 0,U O 0] 84);go_wp2_with fail;have hFO:=(Bm.1 S3.r).1;obtain⟨AY,hF⟩:=Az (w3.heap.size);obtain⟨W4,hW4⟩:=Az (Ao w3 (N #[R A1 (Y PL) c1,R Z 0 0,R Z 0 0,U O 0] 84));rw[hW4,hF]at F4;rw[hW4]at S4 q4 Eb ⊢;rw[hF]at hFO ⊢;clear hW4 hF S3 q3 Dy hr1;have cS:=Agz A cA l W4 (hA.on q4) Hr Hr2 hr3;refine cS.mono ?_;rintro e w5⟨rfl,Bh⟩;have S5:=S4.on Bh;have F5:=F4.on Bh;have q5:=AH q4 Bh;have Ed:=Eb.below Bh;clear cS S4 F4 q4 Eb Bh;obtain⟨sh,hsv⟩:=Az (Iw l);rw[hsv]at Qs ⊢;have Hsv:=F hsv;clear hsv;have y3:=F5.c3;have f3:=F5.fr 3;have F6:=F5.AgB (U O sh);have S6:=S5.grown (Dt w5 AY 3 (U O sh)) (fun k hk=>by cases hk;exact hFO);have Ls:=Tk Ed F5 AC (Dt w5 AY 3 (U O sh));have q6:Ag w w (Ai w5 ⟨AY,3,Z⟩ (U O sh)):=q5.setCell (p:=⟨AY,3,Z⟩) (by show w.heap.size<=AY;omega) _;have z1:=S5.c1;go_wp2_with fail;obtain⟨W6,hW6⟩:=Az (Ai w5 ⟨AY,3,Z⟩ (U O sh));rw[hW6]at F6 S6 Ls q6 ⊢;clear hW6 F5 S5 Ed q5 y3 f3 z1;have Jq:=Ls.form AQ.BY;obtain⟨A1',c1',CZ,_,_,_,Jq⟩:=Jq;cases CZ;have cK:=Agx A cA l A1 c1 PL s1 W6 (hA.on q6) Jq Hr Hr2 hr3 Hpe;rw[Hel.out]at cK;rw[<-Hel.out]at cK;refine cK.mono ?_;rintro e w7⟨v,u,rfl,Xy,Xz,Cl⟩;rw[Hel.out]at Xy Xz;have S7:=S6.on Cl;have F7:=F6.on Cl;have q7:=AH q6 Cl;have Mm:=Ls.below Cl;have Xz:=Go.Proofs.YtjpidgffdkjjeaaGreat.Own.down Xz q6.size;have Xy:=Go.Proofs.YtjpidgffdkjjeaaGreat.Own.down Xy q6.size;obtain⟨A2,c2,rfl,_,_,_,_⟩:=Xy.form C7.BY;obtain⟨A3,c3,rfl,_,_,_,_⟩:=Xz.form CA.BY;clear cK S6 F6 q6 Ls Cl Jq;have y2:=F7.c2;have f2:=F7.fr 2;have F8:=F7.AgA (R A3 (CQ l PL s1 n).2.2.length c3);have S8:=S7.grown (Dt w7 AY 2 (R A3 (CQ l PL s1 n).2.2.length c3)) (fun k hk=>by cases hk;exact hFO);have VM:=Tk Mm F7 AC (Dt w7 AY 2 (R A3 (CQ l PL s1 n).2.2.length c3));have db:=Tk Xy F7 AC (Dt w7 AY 2 (R A3 (CQ l PL s1 n).2.2.length c3));have j7:=Tk Xz F7 AC (Dt w7 AY 2 (R A3 (CQ l PL s1 n).2.2.length c3));have q8:Ag w w (Ai w7 ⟨AY,2,Z⟩ (R A3 (CQ l PL s1 n).2.2.length c3)):=q7.setCell (p:=⟨AY,2,Z⟩) (by show w.heap.size<=AY;omega) _;go_upto_region 14 with fail;obtain⟨W8,hW8⟩:=Az (Ai w7 ⟨AY,2,Z⟩ (R A3 (CQ l PL s1 n).2.2.length c3));rw[hW8]at F8 S8 VM db j7 q8 ⊢;clear hW8 F7 S7 Mm q7 y2 f2 Xy Xz;have At8:=F S8.op;have z2:=S8.c2;have y3:=F8.c3;obtain⟨LL,hLL⟩:=Az ((CQ l PL s1 n).1);have DG:=Hcl.out;have Qe:=Hco.out;rw[hLL]at db DG Qe ⊢;obtain⟨A2',c2',hv2,_,_,_,ar8⟩:=db.form C7.BY;cases hv2;have cD:=Agu o A2 c2 LL sh s2 W8 Ho ar8 J Qe Qs.1 Qs.2;have AgD:=F DG;unfold Bw.val Bw.cs at cD;have HLL:=F hLL;clear DG Qe hLL db ar8;go_wp2_with(refine qlr 54 At8 underlying54 ?_);refine cD.mono ?_;rintro e w9⟨v2,rfl,CU,BC⟩;rw[AgD.out]at CU;have S9:=S8.on BC;have F9:=F8.on BC;have q9:=AH q8 BC;have KR:=VM.below BC;have j8:=j7.below BC;have CU:=Go.Proofs.YtjpidgffdkjjeaaGreat.Own.down CU q8.size;obtain⟨A4,c4,rfl,_,_,_,_⟩:=CU.form Bf.BY;clear cD At8 z2 y3 S8 F8 q8 VM j7 BC;obtain⟨CL,hCL⟩:=Az ((Eu o.eta o.dark LL sh s2 n).1);rw[hCL]at CU ⊢;have HCL:=F hCL;clear hCL;obtain⟨NL,hNL⟩:=Az ((CQ l PL s1 n).2.2);rw[hNL]at j8 F9 ⊢;have HNL:=F hNL;clear hNL;have y1:=F9.c1;have f1:=F9.fr 1;have F10:=F9.Ft (R A4 (Y CL) c4);have FL:=S9.grown (Dt w9 AY 1 (R A4 (Y CL) c4)) (fun k hk=>by cases hk;exact hFO);have DX:=Tk KR F9 AC (Dt w9 AY 1 (R A4 (Y CL) c4));have j9:=Tk j8 F9 AC (Dt w9 AY 1 (R A4 (Y CL) c4));have ja:=Tk CU F9 AC (Dt w9 AY 1 (R A4 (Y CL) c4));have q10:Ag w w (Ai w9 ⟨AY,1,Z⟩ (R A4 (Y CL) c4)):=q9.setCell (p:=⟨AY,1,Z⟩) (by show w.heap.size<=AY;omega) _;go_upto_region 15 with fail;obtain⟨QH,sX⟩:=Az (Ai w9 ⟨AY,1,Z⟩ (R A4 (Y CL) c4));rw[sX]at F10 FL DX j9 ja q10 ⊢;clear sX F9 S9 KR j8 CU q9 y1 f1;have k0:=F10.c0;have k1:=F10.c1;have k2:=F10.c2;have k3:=F10.c3;have r0:E QH ⟨↑w+1+1,0,Z⟩=I (R Z 0 0):=AX _ _ _ _ _ _ FL.r;have r1:E QH ⟨↑w+1+1,1,Z⟩=I (R Z 0 0):=AX _ _ _ _ _ _ FL.r;have r2:E QH ⟨↑w+1+1,2,Z⟩=I (R Z 0 0):=AX _ _ _ _ _ _ FL.r;have r3:E QH ⟨↑w+1+1,3,Z⟩=I (U O 0):=AX _ _ _ _ _ _ FL.r;have rf0:Bo QH ⟨↑w+1+1,0,Z⟩=false:=CJ _ _ _ _ _ FL.r;have rf1:Bo QH ⟨↑w+1+1,1,Z⟩=false:=CJ _ _ _ _ _ FL.r;have rf2:Bo QH ⟨↑w+1+1,2,Z⟩=false:=CJ _ _ _ _ _ FL.r;have rf3:Bo QH ⟨↑w+1+1,3,Z⟩=false:=CJ _ _ _ _ _ FL.r
 have hG:QH.grownBy ((((QH.setCell ⟨↑w+1+1,0,Z⟩ (R A1 (Y PL) c1)).setCell ⟨↑w+1+1,1,Z⟩ (R A4 (Y CL) c4)).setCell ⟨↑w+1+1,2,Z⟩ (R A3 (Y NL) c3)).setCell ⟨↑w+1+1,3,Z⟩ (U O sh)) (I (w.heap.size+1+1)):=
  Fj (Fj (Fj (Dt QH _ _ _) (Dt _ _ _ _)) (Dt _ _ _ _)) (Dt _ _ _ _)
 have o1:=Tk DX FL.r AC hG;have o2:=Tk ja FL.r AC hG;have o3:=Tk j9 FL.r AC hG;have qq:=q10.grown hG q10.size (fun k hk=>by cases hk;omega);have g1:GA (QH.setCell ⟨↑w+1+1,0,Z⟩ (R A1 (Y PL) c1)) (w.heap.size+1+1) (R A1 (Y PL) c1) (R Z 0 0) (R Z 0 0) (U O 0):=CM _ _ 0 _ _ _ FL.r;clear hG DX ja j9 q10 g1 FL F10;go_wp2_with fail;refine qti ?_;refine De (v:= Be #[Ba #[R A1 (Y PL) c1,R A4 (Y CL) c4,R A3 (Y NL) c3,U O sh],U O 0]) ?_ Q ⟨R A1 (Y PL) c1,R A4 (Y CL) c4,R A3 (Y NL) c3,by rw[Hsv.out],o1,(by rw[HLL.out,Hsv.out,HCL.out];exact o2),(qrf HNL.out o3),qq⟩;rw[Jg Q];go_simp
end Go.Proofs.YtjpidgffdkjjeaaGreat
