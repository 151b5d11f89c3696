/- Contracts and plain laws. No condition. -/
import Derived.Test.YtjpidgffdkjjeaaGreatCA
import Derived.Test.YtjpidgffdkjjeaaGreatC13
set_option linter.all false
set_option maxHeartbeats 16000000
namespace Go.Proofs.YtjpidgffdkjjeaaGreat
open Go.Proofs.Tryz
open Go.Proofs.Tryz renaming prog->AE
open List renaming length->Y
open Go.World renaming cell?->E,setCell->Ai,alloc->Ao,frozen?->Bo
open Go.Value renaming int->U,slice->R,pointer->AI,agg->Ba,tuple->Be,nilFunc->Bl,bool->Av
open Go.IntKind renaming i64->O,u64->AA,u32->BF,u8->Cd
open Option renaming none->Z,some->I
open Go.Ending renaming returned->AN
open Go.Obj renaming cells->N
open Go renaming World->V,Value->An,Calls->AL,Addr->AS
open Go.RowKit renaming Below->Ag,Hid->Aj
set_option maxRecDepth 100000
open Go.RowKit
theorem sQ{α:Type}{w:V}{B e sz g n cap:Nat}{enc:α->List An}{l:List α}(h:Go.Proofs.YtjpidgffdkjjeaaGreat.Own w B e sz enc (R (I ⟨g,0,Z⟩) n cap) l):g<↑w:=by
 rcases h.2 with⟨h0,_⟩ | ⟨g',cap',cur,h0,_,hg,_⟩
 all_goals grind
theorem sS{l:List C5}{p:List AQ}{s k:Nat}{x:AQ}(h:p[k]?=I x):∀{n:Nat},k<n->n<=Y p->(CQ l p s n).1[k]?=I (U3 (JG l k (Ti x,(CQ l p s k).2.1,(CQ l p s k).2.2) (Y l)).1)
 | 0,h1,_=>by omega
 | n+1,h1,h2=>by
  obtain⟨y,hy⟩:∃y,p[n]?=I y:=⟨_,CH J⟩
  rw[iS hy];have hn:=ce l p s n J;by_cases e:k=n
  ·grind
  ·simp only
   rw[Xe J];exact sS h J J
theorem Agv{r:C5}(h:DU r=true):r.k=1\/r.k=2\/r.k=3\/r.k=4\/r.k=5\/r.k=6\/r.k=7:=by
 grind [DU]
theorem Agw{α:Type}{L:List α}{d:α}{k:Nat}(h:L[k]?=I d):Dm L d k=Dm L d (k+1):=by
 have hk:=(EF.1 h).1;obtain⟨h2,e⟩:=EF.1 (Ts d hk);rw[<-Tr d h];have h3:=List.set_getElem_self h2
 grind
def sU:(prog.info? 315).map (fun i=>(i.zero,i.size,i.bytes))=I (I (Ba #[U O 0,U O 0,Av false,Av false]),4,24):=AG
def Agx(A:Option AS)(cA:Nat)(l:List C5)(C:Option AS)(cC:Nat)(p:List AQ)(s:Nat)(w:V)(hA:Arr 5 C5.enc w w A l)(hC:Arr 5 AQ.enc w w C p)(hr:LZ l=0)(hr2:l.all DU=true)(hr3:Y l<=32)(hp:Bz AQ.ok p=0):
  AL AE 172 #[R A (Y l) cA,R C (Y p) cC,U AA s] w fun e w'=>∃v u,e=AN (Be #[v,u,U O 0])/\Own w' w 315 4 C7.enc v (CQ l p s (Y p)).1/\Own w' w 165 4 CA.enc u (CQ l p s (Y p)).2.2/\Ag w w w':=by
 obtain⟨i0,hi,hz0,hz1,hz2⟩:=IA sU;have Hi:=F hi;have EJ:=F hz0;have Ep:=F hz1;have Eh:=F hz2;clear hi hz0 hz1 hz2;obtain⟨hpl,hpo⟩:=Lb.1 hp;have cR:=ZV A cA l w hA J;rw[hr]at cR;have Hpo:=F hpo;have Hr2:=F hr2;clear hr hpo hr2;have j6:Aj (∀k,k<=Y p->(CQ l p s k).1.length=k):=F (fun k hk=>ce l p s k hk);go_in;go_wp2_with fail;refine gqz cR fun w1 hb1=>?_;go_wp2_with fail;have cV:=iZ C cC p w1 (hC.on hb1) J;rw[hp]at cV;refine gqz cV fun w2 hb2=>?_;have q2:=AH hb1 hb2;clear cR cV hb1 hb2 hp;go_wp2_with fail;refine gqz (TJ s w2) fun w3 hw3=>?_;have D3:Cs w3 w2 s:=qrf hw3 (Cs.new w2 s);have q3:Ag w w w3:=by rw[hw3];exact AB q2 _
 clear hw3;go_wp2_with fail;refine(Agp _).mono ?_;rintro e w5⟨c1,c2,c3,c6,rfl,hac,Bh⟩;have D5:=(D3.keep (row:=Z) (JH w3 (N #[R Z 0 0] 309) Z) AO).on Bh;have E5:Boxed w5 w3 309 (R Z 0 0):=(Boxed.new w3 309 (R Z 0 0)).kept (Db Bh) AO;have q5:=AH (AB q3 (N #[R Z 0 0] 309)) Bh;have BN:w.heap.size<=w2.heap.size:=q2.size;have hEE:w.heap.size<=w3.heap.size:=q3.size;generalize w2.heap.size=b at*;generalize w3.heap.size=AM at*;clear Bh q3 q2 D3;unfold iX MU;go_upto_region 8 with fail;obtain⟨w6,Ge⟩:=Az (Ao w5 (N #[Bl,.func (.func 245) #[] #[AI (I ⟨c1,0,Z⟩)],.func (.func 245) #[] #[AI (I ⟨c2,0,Z⟩)],.func (.func 245) #[] #[AI (I ⟨c3,0,Z⟩)],.func (.func 252) #[] #[],.func (.func 251) #[] #[],.func (.func 245) #[] #[AI (I ⟨c6,0,Z⟩)],.func (.func 253) #[] #[]] 312));have hdd:w6.heap[w5.heap.size]?=I (N (sO c1 c2 c3 c6) 312 (0,0)):=by rw[<-Ge];exact World.alloc_heap_new _ _
 have D6:Cs w6 b s:=by rw[<-Ge];exact D5.keep (row:=Z) (JH _ _ Z) AO
 have E6:Boxed w6 AM 309 (R Z 0 0):=by rw[<-Ge];exact E5.alloc _
 have A6:iY w6 c1 c2 c3 c6:=by rw[<-Ge];exact⟨hac.b1.alloc _,hac.b2.alloc _,hac.b3.alloc _,hac.b6.alloc _⟩
 have q6:Ag w w w6:=by rw[<-Ge];exact AB q5 _
 rw[Ge];clear Ge D5 E5 hac q5;generalize w5.heap.size=D at*;go_upto_region 9 with(at_make;refine qmK underlying272 sU C7.BY IW (Y p) ?_;intro w7 Mm Cl)
 have q7:=AH q6 Cl
 have O7:Sl w w7 b AM D w6 (Y p) c1 c2 c3 c6 s [] (List.replicate (Y p) IW):=by
  refine⟨D6.on Cl,⟨_,E6.kept (Db Cl) AO,Own.nil⟩,?_,⟨A6.b1.kept (Db Cl) AO,A6.b2.kept (Db Cl) AO,A6.b3.kept (Db Cl) AO,A6.b6.kept (Db Cl) AO⟩,Go.Proofs.YtjpidgffdkjjeaaGreat.Own.down Mm q6.size,⟨BN,hEE,q7.size⟩⟩;exact(Cl.block _ (Bm.1 hdd).1).trans hdd
 have RY:w6.heap.size<w7.heap.size:=sQ Mm;generalize w6.heap.size=g at*;clear D6 E6 A6 q6 Cl Mm hdd BN hEE;have st0:Aj (Dm (CQ l p s (Y p)).1 IW 0=List.replicate (Y p) IW):=F (by rw[Ug,j6.out _ (Bg _)]);go_wp2_with fail;go_loopw [40] (fun i wr=>∃k:Nat,k<=Y p/\i=U O k/\Sl w wr b AM D g (Y p) c1 c2 c3 c6 (CQ l p s k).2.1 (CQ l p s k).2.2 (Dm (CQ l p s (Y p)).1 IW k)/\Ag w w wr/\g<↑wr) (fun i _=>Y p-(intOf i).toNat);exact⟨0,BM _,rfl,qrf st0.out O7,q7,RY⟩
 clear O7 q7 RY;obtain⟨k,hk,rfl,By,hb,hgw⟩:=hrel;obtain⟨wo,rfl⟩:=qgn wr;rcases D4 k (Y p)with hlt | D8
 ·have hb2:=hb
  obtain⟨bp,op,pb,BK,pc,Cf,ps,rfl,BN,hx,x0,x1,x2,x3,x4⟩:=hC.pls hlt hb;have BI:AQ.ok ⟨pb,BK,pc,Cf,ps⟩=true:=EA.1 Hpo _ (DI hx);obtain⟨q,rfl⟩:∃q:Nat,Cf=(q:Int):=⟨Cf.toNat,by simp[AQ.ok,AR]at BI;omega⟩
  have hcs:=F (iS (l:=l) (s:=s) hx);have hat:=F (sS (l:=l) (s:=s) hx hlt (Bg _));have hz0:Ti ⟨pb,BK,pc,(q:Int),ps⟩=⟨q,pb,BK,false⟩:=by simp[Ti]
  have Wl:=F (sG BI);rw[hz0]at hcs hat Wl;have hnt:=sM l hr3 p s k;obtain⟨Cr,hZ⟩:=Az ((CQ l p s k).2);rw[hZ]at By hnt hcs hat;have HZ:=F hZ;obtain⟨s1,ns1⟩:=Cr;simp only at By hnt hcs hat;have O2:=(By.alloc (N #[U O pb,Av BK,U O pc,U O q,Av ps] 154)).alloc (N #[U O q,U O pb,Av BK,Av false] 315);have hb3:=AB (AB hb (N #[U O pb,Av BK,U O pc,U O q,Av ps] 154)) (N #[U O q,U O pb,Av BK,Av false] 315);have hXr:=World.alloc_heap_new (Ao wo (N #[U O pb,Av BK,U O pc,U O q,Av ps] 154)) (N #[U O q,U O pb,Av BK,Av false] 315);have hXs:(Ao wo (N #[U O pb,Av BK,U O pc,U O q,Av ps] 154)).heap.size=wo.heap.size+1:=AO;have FR:w.heap.size<=wo.heap.size:=hb.size;clear BI hz0 hZ By hb hb2;go_upto_region 13 with fail;rw[hXs]at hXr;obtain⟨X,hX⟩:=Az (wo.heap.size+1);rw[hX]at hXr ⊢;obtain⟨W1,hW1⟩:=Az (Ao (Ao wo (N #[U O pb,Av BK,U O pc,U O q,Av ps] 154)) (N #[U O q,U O pb,Av BK,Av false] 315));rw[hW1]at O2 hb3 hXr ⊢;have hgX:g≠X:=J;have hBX:↑w<=X:=J;have S1:Cy w W1 b X AM ⟨q,pb,BK,false⟩ s1 ns1:=⟨O2.d,hXr,O2.e,⟨O2.lb.1,hBX,O2.lb.2.1,O2.lb.2.2⟩⟩
  clear hXs hW1 x0 x1 x2 x3 x4;go_wp2_with fail;go_loopw [54] (fun i wr=>∃j:Nat,j<=Y l/\i=U O j/\Cy w wr b X AM (JG l k (⟨q,pb,BK,false⟩,s1,ns1) j).1 (JG l k (⟨q,pb,BK,false⟩,s1,ns1) j).2.1 (JG l k (⟨q,pb,BK,false⟩,s1,ns1) j).2.2/\Ex w b X AM W1 wr) (fun i _=>Y l-(intOf i).toNat);exact⟨0,BM _,rfl,S1,Ex.refl _ _ _ _ _⟩
  clear S1;obtain⟨j,hj,rfl,S,K⟩:=hrel;obtain⟨wi,rfl⟩:=qgn wr;have sV:=F (iQ l Hr2 k (⟨q,pb,BK,false⟩,s1,ns1) Wl j);rcases D4 j (Y l)with GD | hjg
  ·obtain⟨br,orr,r,rfl,hbr,hrx,y0,y1,y2,y3,y4⟩:=hA.rul GD (hb3.trans K.bel)
   have hst:=F (sF k (⟨q,pb,BK,false⟩,s1,ns1) hrx);have hnj:=j4 l k (⟨q,pb,BK,false⟩,s1,ns1) j hj;simp only at hnj;generalize JG l k (⟨q,pb,BK,false⟩,s1,ns1) j=z at*;obtain⟨x,s2,GN⟩:=z;simp only at S hnj;have Na:Y GN<=1000000:=J
   have hp3:x.ph<=3:=by
    have:=sV.out;unfold C7.ok at this;rw[Bool.and_eq_true]at this;simpa using this.2
   have NR:DU r=true:=EA.1 Hr2 _ (DI hrx);have Hrb:=F NR;clear NR sV;obtain⟨S2,K2⟩:=S.alloc (N r 196);have hR:=Wk wi r;have K3:=K.trans K2;clear S K;go_upto_region 16 with fail;clear y0 y1 y2 y3 y4;obtain⟨W2,hW2⟩:=Az (Ao wi (N r 196));rw[hW2]at S2 K2 K3 hR ⊢;obtain⟨AW,hRn⟩:=Az (wi.heap.size);rw[hRn]at hR ⊢;have hRB:AW≠b/\AW≠X/\AW≠AM:=⟨KX hR S2.d AC,KX hR S2.l AC,by obtain⟨v,hv,_⟩:=S2.e;exact KX hR hv AC⟩
   clear hW2 K2;have r0:E W2 ⟨AW,0,Z⟩=I (U O r.k):=AX _ _ _ _ _ _ hR;have r1:E W2 ⟨AW,1,Z⟩=I (U O r.f):=AX _ _ _ _ _ _ hR;have r2:E W2 ⟨AW,2,Z⟩=I (U O r.t):=AX _ _ _ _ _ _ hR;have r3:E W2 ⟨AW,3,Z⟩=I (U O r.a):=AX _ _ _ _ _ _ hR;have r4:E W2 ⟨AW,4,Z⟩=I (U O r.b):=AX _ _ _ _ _ _ hR;go_cut [72] (fun v wx=>v=Av (Sk r k)/\Cy w wx b X AM x s2 GN/\Ex w b X AM W1 wx/\wx.heap[AW]?=I (N r 196 (0,0)))
   case first=>
    have cG:=lC r.k r.f r.t r.a r.b W2
    have after:Aj (∀w',Ag W2 W2 w'->Cy w w' b X AM x s2 GN/\Ex w b X AM W1 w'/\w'.heap[AW]?=I (N r 196 (0,0))):=F (fun w' hbw=>by
     obtain⟨a1,a2⟩:=S2.on hbw;exact⟨a1,K3.trans a2,(hbw.block _ (Bm.1 hR).1).trans hR⟩)
    clear S2 K3 hR;by_cases h4:4<=r.k
    ·have d1:decide (4<=r.k)=true:=Er h4
     rw[d1]at cG;by_cases hf:r.f<=(k:Int)
     ·have d2:decide (r.f<=(k:Int))=true:=Er hf
      by_cases ht:(k:Int)<=r.t
      focus
       have d3:decide ((k:Int)<=r.t)=true:=Er ht
       have Sm:Aj (Sk r k=true):=F (by unfold Sk;simp[hf,ht])
      rotate_left
      focus
       have d3:decide ((k:Int)<=r.t)=false:=Ds ht
       have Sm:Aj (Sk r k=false):=F (by unfold Sk;simp[hf,ht];omega)
      rotate_left
      all_goals
       clear h4 hf ht d1;go_wp2_with(go_at_call 211;refine gqz cG fun w8 Cv=>?_;have r1:=AK Cv r1;have r2:=AK Cv r2);go_meet
       case rel=>rw[Sm.out];exact⟨Q,after.out _ Cv⟩
     ·have d2:decide (r.f<=(k:Int))=false:=Ds hf
      have Sm:Aj (Sk r k=false):=F (by unfold Sk;simp[hf];omega);clear h4 hf d1;go_wp2_with(go_at_call 211;refine gqz cG fun w8 Cv=>?_;have r1:=AK Cv r1;have r2:=AK Cv r2);go_meet
      case rel=>rw[Sm.out];exact⟨Q,after.out _ Cv⟩
    ·have d1:decide (4<=r.k)=false:=Ds h4
     rw[d1]at cG;have Sm:Aj (Sk r k=true):=F (by unfold Sk;simp;omega);clear h4 d1;go_wp2_with(go_at_call 211;refine gqz cG fun w8 Cv=>?_;have r1:=AK Cv r1;have r2:=AK Cv r2);go_meet
     case rel=>rw[Sm.out];exact⟨Q,after.out _ Cv⟩
   case rest=>
    clear r0 r1 r2 r3 r4 S2 K3 hR;obtain⟨rfl,S2,K3,hR⟩:=hcut;have O3:=O2.car S2 K3 hgX ⟨_,hXr⟩;have Sd:=S2.drew;have r1:E wc ⟨AW,1,Z⟩=I (U O r.f):=AX _ _ _ _ _ _ hR;have r2:E wc ⟨AW,2,Z⟩=I (U O r.t):=AX _ _ _ _ _ _ hR;have r3:E wc ⟨AW,3,Z⟩=I (U O r.a):=AX _ _ _ _ _ _ hR;have r4:E wc ⟨AW,4,Z⟩=I (U O r.b):=AX _ _ _ _ _ _ hR;cases Sm:Sk r k
    ·have hs:Aj (Py r k (x,s2,GN)=(x,s2,GN)):=F (by unfold Py;rw[AU (by rw[Sm];simp)])
     clear Sm;go_wp2_with fail;have S9:=S2;have K9:=K3;exact⟨⟨j+1,J,qgm,by rw[hst.out,hs.out];exact S9,K9⟩,qio⟩
    ·have hs:Aj (Py r k (x,s2,GN)=((FN r k x s2).1,(FN r k x s2).2.1,GN++ (FN r k x s2).2.2)):=F (by unfold Py;rw[Bd Sm])
     have fin:Aj (∀w9,Cy w w9 b X AM (FN r k x s2).1 (FN r k x s2).2.1 (GN++ (FN r k x s2).2.2)->Ex w b X AM wc.drew w9->Cy w w9 b X AM (Py r k (x,s2,GN)).1 (Py r k (x,s2,GN)).2.1 (Py r k (x,s2,GN)).2.2/\Ex w b X AM W1 w9):=F (fun w9 h1 h2=>by
      rw[hs.out];exact⟨h1,(K3.trans Sd.2).trans h2⟩)
     clear Sm hs;rcases Agv Hrb with hk | hk | hk | hk | hk | hk | hk
     focus
      have r0:E wc ⟨AW,0,Z⟩=I (U O 1):=by have h9:E wc ⟨AW,0,Z⟩=I (U O r.k):=AX _ _ _ _ _ _ hR;rw[hk]at h9;exact h9
      have Od:Aj (FN r k x s2=if x.br=true then(x,s2,[])else(⟨x.ph-(LK r.a s2 x.ph).1,x.basis,x.bit,false⟩,(LK r.a s2 x.ph).2,[])):=F (by unfold FN;rw[AU J,Bd hk]);have dk:E wc ⟨D,1,Z⟩=I (.func (.func 245) #[] #[AI (I ⟨c1,0,Z⟩)]):=AX _ _ _ _ _ _ O3.dd;have cX:=cu 246 (fun _ _=>by kernel_rfl) c1 w b X AM s2 r x GN wc.drew k (.iface 307 (AI (I ⟨AM,0,Z⟩))) (⟨x.ph-(LK r.a s2 x.ph).1,x.basis,x.bit,false⟩,(LK r.a s2 x.ph).2,[]) Sd.1 O3.ac.b1 (fun hbr w' hS=>Age w b X AM s2 r x GN w' hS hbr hp3);rw[<-Od.out]at cX
     rotate_left
     focus
      have r0:E wc ⟨AW,0,Z⟩=I (U O 2):=by have h9:E wc ⟨AW,0,Z⟩=I (U O r.k):=AX _ _ _ _ _ _ hR;rw[hk]at h9;exact h9
      have Od:Aj (FN r k x s2=if x.br=true then(x,s2,[])else(if 0<x.ph then(⟨x.ph,x.basis,x.bit != En s2 r.a,false⟩,Bk s2,[])else(x,s2,[]))):=F (by unfold FN;rw[AU J,AU (by omega:¬r.k=1),Bd hk]);have dk:E wc ⟨D,2,Z⟩=I (.func (.func 245) #[] #[AI (I ⟨c2,0,Z⟩)]):=AX _ _ _ _ _ _ O3.dd;have cX:=cu 248 (fun _ _=>by kernel_rfl) c2 w b X AM s2 r x GN wc.drew k (.iface 307 (AI (I ⟨AM,0,Z⟩))) (if 0<x.ph then(⟨x.ph,x.basis,x.bit != En s2 r.a,false⟩,Bk s2,[])else(x,s2,[])) Sd.1 O3.ac.b2 (fun hbr w' hS=>Agf w b X AM s2 r x GN w' hS hbr hp3);rw[<-Od.out]at cX
     rotate_left
     focus
      have r0:E wc ⟨AW,0,Z⟩=I (U O 3):=by have h9:E wc ⟨AW,0,Z⟩=I (U O r.k):=AX _ _ _ _ _ _ hR;rw[hk]at h9;exact h9
      have Od:Aj (FN r k x s2=if x.br=true then(x,s2,[])else(x,s2,[])):=F (by unfold FN;rw[AU J,AU (by omega:¬r.k=1),AU (by omega:¬r.k=2),AU (by omega:¬r.k=6),AU (by omega:¬r.k=5),AU (by omega:¬r.k=4)]);have dk:E wc ⟨D,3,Z⟩=I (.func (.func 245) #[] #[AI (I ⟨c3,0,Z⟩)]):=AX _ _ _ _ _ _ O3.dd;have cX:=cu 249 (fun _ _=>by kernel_rfl) c3 w b X AM s2 r x GN wc.drew k (.iface 307 (AI (I ⟨AM,0,Z⟩))) (x,s2,[]) Sd.1 O3.ac.b3 (fun hbr w' hS=>Agg w b X AM s2 r x GN w' hS);rw[<-Od.out]at cX
     rotate_left
     focus
      have r0:E wc ⟨AW,0,Z⟩=I (U O 4):=by have h9:E wc ⟨AW,0,Z⟩=I (U O r.k):=AX _ _ _ _ _ _ hR;rw[hk]at h9;exact h9
      have Od:Aj (FN r k x s2=if x.br=true then(x,s2,[])else if x.ph=0 then(x,s2,[])else if En s2 r.a=true then Vh k x (Bk s2)else(x,Bk s2,[])):=F (by unfold FN;rw[AU J,AU (by omega:¬r.k=1),AU (by omega:¬r.k=2),AU (by omega:¬r.k=6),AU (by omega:¬r.k=5),Bd hk]);have dk:E wc ⟨D,4,Z⟩=I (.func (.func 252) #[] #[]):=AX _ _ _ _ _ _ O3.dd;have cX:=Agj w b X AM s2 k r x GN wc.drew Sd.1 hp3 Na;rw[<-Od.out]at cX;unfold U4 at cX
     rotate_left
     focus
      have r0:E wc ⟨AW,0,Z⟩=I (U O 5):=by have h9:E wc ⟨AW,0,Z⟩=I (U O r.k):=AX _ _ _ _ _ _ hR;rw[hk]at h9;exact h9
      have Od:Aj (FN r k x s2=if x.br=true then(x,s2,[])else if 2<=x.ph then(⟨x.ph-1,x.basis,x.bit,false⟩,s2,[⟨k,2,x.basis,x.bit⟩])else(x,s2,[])):=F (by unfold FN;rw[AU J,AU (by omega:¬r.k=1),AU (by omega:¬r.k=2),AU (by omega:¬r.k=6),Bd hk]);have dk:E wc ⟨D,5,Z⟩=I (.func (.func 251) #[] #[]):=AX _ _ _ _ _ _ O3.dd;have cX:=Agl w b X AM s2 k r x GN wc.drew Sd.1 hp3 Na;rw[<-Od.out]at cX;unfold U4 at cX
     rotate_left
     focus
      have r0:E wc ⟨AW,0,Z⟩=I (U O 6):=by have h9:E wc ⟨AW,0,Z⟩=I (U O r.k):=AX _ _ _ _ _ _ hR;rw[hk]at h9;exact h9
      have Od:Aj (FN r k x s2=if x.br=true then(x,s2,[])else(if x.ph=1 then(⟨if En s2 r.a=true then 0 else 1,x.basis,x.bit,false⟩,Bk s2,[])else(x,s2,[]))):=F (by unfold FN;rw[AU J,AU (by omega:¬r.k=1),AU (by omega:¬r.k=2),Bd hk]);have dk:E wc ⟨D,6,Z⟩=I (.func (.func 245) #[] #[AI (I ⟨c6,0,Z⟩)]):=AX _ _ _ _ _ _ O3.dd;have cX:=cu 250 (fun _ _=>by kernel_rfl) c6 w b X AM s2 r x GN wc.drew k (.iface 307 (AI (I ⟨AM,0,Z⟩))) (if x.ph=1 then(⟨if En s2 r.a=true then 0 else 1,x.basis,x.bit,false⟩,Bk s2,[])else(x,s2,[])) Sd.1 O3.ac.b6 (fun hbr w' hS=>Agh w b X AM s2 r x GN w' hS hbr hp3);rw[<-Od.out]at cX
     rotate_left
     focus
      have r0:E wc ⟨AW,0,Z⟩=I (U O 7):=by have h9:E wc ⟨AW,0,Z⟩=I (U O r.k):=AX _ _ _ _ _ _ hR;rw[hk]at h9;exact h9
      have Od:Aj (FN r k x s2=(⟨0,r.a,decide (r.b=1),true⟩,s2,[⟨k,3,r.a,decide (r.b=1)⟩])):=F (by unfold FN;rw[Bd hk]);have dk:E wc ⟨D,7,Z⟩=I (.func (.func 253) #[] #[]):=AX _ _ _ _ _ _ O3.dd;have cX:=Agm w b X AM s2 k r x GN wc.drew Sd.1 Na;rw[<-Od.out]at cX;unfold U4 at cX
     rotate_left
     all_goals
      unfold C5.val at cX;rw[hk]at cX;clear Od hk;go_upto_region 17 with fail;go_still_tail 9,AG;change wpList _ _ _ _ _ wc.drew;go_wp2_with fail;refine cX.mono ?_;rintro e w9⟨⟨v9,rfl⟩,J9,K9⟩;clear cX dk r0;go_wp2_with fail;obtain⟨S9,K9⟩:=fin.out _ J9 K9;exact⟨⟨j+1,J,qgm,qrf hst.out S9,K9⟩,qio⟩
  ·obtain rfl:j=Y l:=J
   have O3:=O2.car S K hgX ⟨_,hXr⟩;have hb4:=hb3.trans K.bel;generalize JG l k (⟨q,pb,BK,false⟩,s1,ns1) (Y l)=z at*;obtain⟨x,s2,GN⟩:=z;simp only at S O3 hcs hat;have y0:=S.c0;have y3:=S.c3;have Cm:(CQ l p s (Y p)).1.length=Y p:=j6.out _ (Bg _);have Cw:(Dm (CQ l p s (Y p)).1 IW k).length=Y p:=by rw[Sv _ _ J];exact Cm
   have Ha:=Ts (L:=(CQ l p s (Y p)).1) IW (k:=k) J;have hgs:=hgw;have Mp:wo.heap.size<=wi.heap.size:=by have:=K.bel.size;have:=(Bm.1 hXr).1;omega
   by_cases hx:0<x.ph\/x.br=true
   ·have ho:U3 x=x:=by unfold U3;rw[Bd hx]
    have PC:=Tr IW hat;rw[ho]at PC;obtain⟨O4,B4⟩:=O3.set Cw Ha x;rw[PC]at O4;have Bh:=B4 hb4;have z0:E wi ⟨g,k*4,Z⟩=I (U O 0):=O3.o.OI Cw C7.BY Ha (j:=0) Q;have z1:E wi ⟨g,k*4+1,Z⟩=I (U O 0):=O3.o.OI Cw C7.BY Ha (j:=1) Q;have z2:E wi ⟨g,k*4+2,Z⟩=I (Av false):=O3.o.OI Cw C7.BY Ha (j:=2) Q;have z3:E wi ⟨g,k*4+3,Z⟩=I (Av false):=O3.o.OI Cw C7.BY Ha (j:=3) Q;have f0:=O3.o.OJ Cw (k*4);have f1:=O3.o.OJ Cw (k*4+1);have f2:=O3.o.OJ Cw (k*4+2);have f3:=O3.o.OJ Cw (k*4+3);have y1:=S.c1;have y2:=S.c2
    have hsz:Aj (g<(Ai (Ai (Ai (Ai wi ⟨g,k*4,Z⟩ (U O x.ph)) ⟨g,k*4+1,Z⟩ (U O x.basis)) ⟨g,k*4+2,Z⟩ (Av x.bit)) ⟨g,k*4+3,Z⟩ (Av x.br)).heap.size):=F (by
     have h1:=sQ O4.o;exact h1)
    clear hat PC Ha Cw Cm S K O3 hb4 hgs Mp ho;by_cases h9:0<x.ph
    ·have h8:¬x.ph=0:=J
     clear hx;go_wp2_with fail;exact⟨⟨k+1,J,qgm,qrf hcs.out O4,Bh,hsz.out⟩,qio⟩
    ·have h0:x.ph=0:=J
     have d2:x.br=true:=by
      rcases hx with h8 | h8
      ·exact absurd h8 h9
      ·exact h8
     rw[d2]at y3
     replace y0:E wi ⟨X,0,Z⟩=I (U O 0):=by rw[h0]at y0;exact y0
     rw[h0,d2]at O4 Bh hsz;clear hx h9 h0;go_wp2_with fail;exact⟨⟨k+1,J,qgm,qrf hcs.out O4,Bh,hsz.out⟩,qio⟩
   ·have ho:U3 x=IW:=by unfold U3;rw[AU hx]
    have SS:=hat.out;rw[ho]at SS;have PC:=Agw SS;rw[PC]at O3;have h0:x.ph=0:=J;have d2:x.br=false:=by cases h9:x.br;rfl;exact absurd (.inr h9) hx
    rw[d2]at y3;rw[h0]at y0;have y0:E wi ⟨X,0,Z⟩=I (U O 0):=y0;have hsz:g<↑wi:=J;clear hat SS PC Ha Cw Cm S K hgs hx h0 d2;go_wp2_with fail;exact⟨⟨k+1,J,qgm,qrf hcs.out O3,hb4,hsz⟩,qio⟩
 ·obtain rfl:k=Y p:=J
  obtain⟨u,hu,hw⟩:=By.e;have hout:=By.o;rw[Uh _ _ (by rw[j6.out _ (Bg _)];exact Bg _)]at hout;have yu:=hu.cell;go_wp2_with fail;go_region;go_wp2;go_ret3;exact⟨_,_,Q,hout.below ((Ae _ _).drew),(show Go.Proofs.YtjpidgffdkjjeaaGreat.Own wo w 165 4 CA.enc u _ from hw).below ((Ae _ _).drew),hb.drew⟩
end Go.Proofs.YtjpidgffdkjjeaaGreat
