/- Contracts and plain laws. No condition. -/
import Derived.Deep.LoopGhost
import Derived.Deep.RegionWith
import Derived.Test.YtjpidgffdkjjeaaGreatCA
import Derived.Test.YtjpidgffdkjjeaaGreatC05
import Derived.Test.YtjpidgffdkjjeaaGreatC06
set_option linter.all false
set_option maxHeartbeats 16000000
namespace Go.Proofs.YtjpidgffdkjjeaaGreat
open Go.Proofs.Tryz
open Go.Proofs.Tryz renaming prog->AE
open List renaming length->Y
open Go.World renaming cell?->E,setCell->Ai,alloc->Ao,frozen?->Bo
open Go.Value renaming int->U,slice->R,pointer->AI,agg->Ba,tuple->Be,nilFunc->Bl,bool->Av
open Go.IntKind renaming i64->O,u64->AA,u32->BF,u8->Cd
open Option renaming none->Z,some->I
open Go.Ending renaming returned->AN
open Go.Obj renaming cells->N
open Go renaming World->V,Value->An,Calls->AL,Addr->AS
open Go.RowKit renaming Below->Ag,Hid->Aj
set_option maxRecDepth 100000
open Go.RowKit
section
variable{H:Nat}{o0 o1 u1 u2 v9:An}{w:V}
def qc(A:Option AS)(c n:Nat)(w:V)(h:Nt w A c (AJ n))(hl:(AJ n).length<=64):
  AL AE 325 #[R A (AJ n).length c] w fun e w'=>∃v,e=AN (Be #[v,U O 0])/\Big w' w v n/\Ag w w w':=by
 have cC:=WA A c (AJ n) w h J;rw[Bu]at cC;go_in;go_wp2_with fail;refine cC.mono ?_;rintro e w1⟨v,rfl,b1,hb1⟩;obtain⟨A1,c1,hv,_⟩:=b1.nt;subst hv;go_wp2;go_ret2;exact⟨_,Q,b1,hb1⟩
def Ach(p q:Nat)(A:Option AS)(c n:Nat)(u:An)(w:V)(h0:E w ⟨p,0,Z⟩=I (R A (AJ n).length c))(h:Nt w A c (AJ n))(hl:(AJ n).length<=64)(hq:E w ⟨q,0,Z⟩=I u)(hf:Bo w ⟨q,0,Z⟩=false):
  AL AE 324 #[AI (I ⟨p,0,Z⟩),AI (I ⟨q,0,Z⟩)] w fun e w'=>e=AN (U O 0)/\∃v w1,Big w1 w v n/\Ag w w w1/\w'=Ai w1 ⟨q,0,Z⟩ v:=by
 have cF:=qc A c n w h hl;go_in;go_wp2_with fail;refine cF.mono ?_;rintro e w1⟨v,rfl,b1,hb1⟩;obtain⟨A1,c1,hv,_⟩:=b1.nt;subst hv;have CT:=AK hb1 hq;have PR:=(hb1.frozen (p:=⟨q,0,Z⟩) (Ch w _ hq)).trans hf;go_wp2;go_ret;exact⟨Q,_,w1,b1,hb1,Q⟩
def Aci(p q:Nat)(A:Option AS)(c n:Nat)(u:An)(w:V)(h0:E w ⟨p,0,Z⟩=I (R A (AJ n).length c))(h:Nt w A c (AJ n))(hl:(AJ n).length<=64)(hq:E w ⟨q,1,Z⟩=I u)(hf:Bo w ⟨q,1,Z⟩=false):
  AL AE 326 #[AI (I ⟨p,0,Z⟩),AI (I ⟨q,0,Z⟩)] w fun e w'=>e=AN (U O 0)/\∃v w1,Big w1 w v n/\Ag w w w1/\w'=Ai w1 ⟨q,1,Z⟩ v:=by
 have cF:=qc A c n w h hl;go_in;go_wp2_with fail;refine cF.mono ?_;rintro e w1⟨v,rfl,b1,hb1⟩;obtain⟨A1,c1,hv,_⟩:=b1.nt;subst hv;have CT:=AK hb1 hq;have PR:=(hb1.frozen (p:=⟨q,1,Z⟩) (Ch w _ hq)).trans hf;go_wp2;go_ret;exact⟨Q,_,w1,b1,hb1,Q⟩
structure RS(w:V)(H:Nat)(u1 u2 v9 o0 o1:An):Prop where
 f0:E w ⟨H+1+1,0,Z⟩=I u1
 f1:E w ⟨H+1+1,1,Z⟩=I u2
 c9:E w ⟨H,0,Z⟩=I v9
 k0:E w ⟨H+1,0,Z⟩=I o0
 r0:Bo w ⟨H+1,0,Z⟩=false
 k1:E w ⟨H+1,1,Z⟩=I o1
 r1:Bo w ⟨H+1,1,Z⟩=false
def RS.on{w':V}(h:RS w H u1 u2 v9 o0 o1)(hb:Ag w w w'):RS w' H u1 u2 v9 o0 o1:=
 ⟨AK hb h.f0,AK hb h.f1,AK hb h.c9,AK hb h.k0,(hb.frozen (p:=⟨H+1,0,Z⟩) (Ch w _ h.k0)).trans h.r0,AK hb h.k1,(hb.frozen (p:=⟨H+1,1,Z⟩) (Ch w _ h.k1)).trans h.r1⟩
def RS.Acj(h:RS w H u1 u2 v9 o0 o1)(v:An):RS (Ai w ⟨H+1,0,Z⟩ v) H u1 u2 v9 v o1:=by
 obtain⟨f0,f1,c9,k0,r0,k1,r1⟩:=h;refine⟨?_,?_,?_,?_,?_,?_,?_⟩ <;> go_simp
def RS.Ft(h:RS w H u1 u2 v9 o0 o1)(v:An):RS (Ai w ⟨H+1,1,Z⟩ v) H u1 u2 v9 o0 v:=by
 obtain⟨f0,f1,c9,k0,r0,k1,r1⟩:=h;refine⟨?_,?_,?_,?_,?_,?_,?_⟩ <;> go_simp
theorem RS.new(w:V)(u1 u2 v9 o0 o1:An)(T1 T2 T3:TypeId):RS (Ao (Ao (Ao w (N #[v9] T1)) (N #[o0,o1] T2)) (N #[u1,u2] T3)) w u1 u2 v9 o0 o1:=by
 refine⟨?_,?_,?_,?_,?_,?_,?_⟩ <;> go_simp
def gS(A:Option AS)(c:Nat)(l:List Nat)(C:Option AS)(d:Nat)(m:List Nat)(w:V)(hA:Nt w A c l)(hC:Nt w C d m)(hl:Y l<=1000)(hm:Y m<=1000)(h0:0<AF m)(hn:(AJ (rfN (AF l) (AF m))).length<=64)(hd:(AJ (BQ (AF l) (AF m))).length<=64):
  AL AE 314 #[R A (Y l) c,R C (Y m) d] w fun e w'=>∃v1 v2,e=AN (Be #[Ba #[v1,v2],U O 0])/\Big w' w v1 (rfN (AF l) (AF m))/\Big w' w v2 (BQ (AF l) (AF m))/\Ag w w w':=by
 have b0:=AB (Ae w w) (N #[R Z 0 0,R Z 0 0] 58);have g0:0<Nat.gcd (AF l) (AF m):=Nat.gcd_pos_of_pos_right _ h0;have cC:=Acf A c l C d m _ (hA.on b0) (hC.on b0) hl hm
 have lg:(AJ (Nat.gcd (AF l) (AF m))).length<=1000:=by
  have:=Il (Nat.le_of_dvd h0 (Xh (AF l) (AF m)));have:=Zz hC.dig;omega
 have cS1:=qbw w fun w' hb B e (ng:Nt w' B e (AJ (Nat.gcd (AF l) (AF m))))=>WH A c l B e (AJ (Nat.gcd (AF l) (AF m))) w' (hA.on hb) ng J J (qrf Bu g0)
 have cS2:=qbw w fun w' hb B e (ng:Nt w' B e (AJ (Nat.gcd (AF l) (AF m))))=>WH C d m B e (AJ (Nat.gcd (AF l) (AF m))) w' (hC.on hb) ng J J (qrf Bu g0)
 simp only[Bu]at cS1 cS2;unfold rfN at hn ⊢;unfold BQ at hd ⊢;obtain⟨X,hX⟩:=Az (AF l / Nat.gcd (AF l) (AF m));obtain⟨Bp,hY⟩:=Az (AF m / Nat.gcd (AF l) (AF m));rw[hX]at hn ⊢;rw[hY]at hd ⊢;simp only[hX]at cS1;simp only[hY]at cS2;clear hX hY g0;go_in;go_wp2_with fail;refine cC.mono ?_;rintro e w1⟨v1,rfl,bg,hb1⟩;obtain⟨A1,c1,rfl,ng⟩:=bg.nt;have q1:=AH b0 hb1;go_wp2_with fail;refine(cS1 w1 q1 A1 c1 ng).mono ?_;rintro e w2⟨v2,v2',rfl,bn,_,hb2⟩;have q2:=AH q1 hb2;obtain⟨A2,c2,rfl,nn⟩:=bn.nt;go_wp2_with fail;have q3:=AB q2 (N #[R A2 (AJ X).length c2] 56);have al:=AB (Ae w2 w2) (N #[R A2 (AJ X).length c2] 56);have z0:E (Ao w2 (N #[R A2 (AJ X).length c2] 56)) ⟨w2,0,Z⟩=I (R A2 (AJ X).length c2):=by go_simp
 have n3:=nn.on al;refine(cS2 _ q3 A1 c1 ((ng.on hb2).on al)).mono ?_;rintro e w4⟨v4,v4',rfl,bd,_,hb4⟩;have q4:=AH q3 hb4;obtain⟨A4,c4,rfl,nd⟩:=bd.nt;have z1:=AK hb4 z0;have n4:=n3.on hb4;go_wp2_with fail;have rs0:=RS.new w4 (.func (.func 324) #[] #[AI (I ⟨w2,0,Z⟩),AI (I ⟨↑w4+1,0,Z⟩)]) (.func (.func 326) #[] #[AI (I ⟨w4,0,Z⟩),AI (I ⟨↑w4+1,0,Z⟩)]) (R A4 (AJ Bp).length c4) (R Z 0 0) (R Z 0 0) 56 58 88;have al5:=AB (AB (AB (Ae w4 w4) (N #[R A4 (AJ Bp).length c4] 56)) (N #[R Z 0 0,R Z 0 0] 58)) (N #[.func (.func 324) #[] #[AI (I ⟨w2,0,Z⟩),AI (I ⟨↑w4+1,0,Z⟩)],.func (.func 326) #[] #[AI (I ⟨w4,0,Z⟩),AI (I ⟨↑w4+1,0,Z⟩)]] 88);have zb0:=(Id (AH hb1 (AH hb2 (AH al hb4))) (g:=w.heap.size) Q (j:=0) Q)
 have zb1:=(Id (AH hb1 (AH hb2 (AH al hb4))) (g:=w.heap.size) Q (j:=1) Q)
 have sw:w.heap.size<w4.heap.size:=Ch w4 _ zb0.1;have Zb0:=F zb0;have Zb1:=F zb1;clear zb0 zb1;go_loopw [34] (fun iv wr=>∃(k:Nat) (o0 o1:An),k<=2/\iv=U O k/\Ag w4 w4 wr/\RS wr w4 (.func (.func 324) #[] #[AI (I ⟨w2,0,Z⟩),AI (I ⟨↑w4+1,0,Z⟩)]) (.func (.func 326) #[] #[AI (I ⟨w4,0,Z⟩),AI (I ⟨↑w4+1,0,Z⟩)]) (R A4 (AJ Bp).length c4) o0 o1/\w4.heap.size+1+1<=wr.heap.size/\(1<=k->Big wr (w4.heap.size+1+1) o0 X)/\(2<=k->Big wr (w4.heap.size+1+1) o1 Bp)) (fun iv _=>2-(intOf iv).toNat);exact⟨0,_,_,J,rfl,al5,rs0,AO,fun h=>J,fun h=>J⟩
 obtain⟨k,o0,o1,hk,rfl,hbr,rs,szr,B0,B1⟩:=hrel;have z7:=AK hbr z1;have m2:=n4.on hbr;have m4:=nd.on hbr;rcases(show k=0\/k=1\/k=2 by omega)with rfl | rfl | rfl
 ·have f0:=rs.f0
  have RSt:=F rs;have cR:=Ach w2 (w4.heap.size+1) A2 c2 X o0 wr z7 m2 hn rs.k0 rs.r0;clear B0 B1 rs;go_wp2_with fail;refine cR.mono ?_;rintro e w'⟨rfl,v,w5,bv,Bh,rfl⟩;have r5:=(RSt.out.on Bh).Acj v;have b5:Ag w4 w4 (Ai w5 ⟨↑w4+1,0,Z⟩ v):=(AH hbr Bh).setCell (OD _) v;have s5:↑w4+1+1<=(Ai w5 ⟨↑w4+1,0,Z⟩ v).heap.size:=by have:=Bh.size;simp;omega
  have bv':Big (Ai w5 ⟨↑w4+1,0,Z⟩ v) (w4.heap.size+1+1) v X:=Big.down (Own.QS bv (Le _ _ _ _) J) J;go_wp2_with fail;exact⟨⟨1,v,o1,J,Q,b5,r5,s5,fun _=>bv',fun h=>J⟩,by simp[intOf]⟩
 ·have f1:=rs.f1
  have RSt:=F rs;have B0':=B0 (Bg _);have cR:=Aci w4 (w4.heap.size+1) A4 c4 Bp o1 wr rs.c9 m4 hd rs.k1 rs.r1;clear B0 B1 rs;simp only[show((1:Nat):Int)=1 from rfl];go_wp2_with fail;refine cR.mono ?_;rintro e w'⟨rfl,v,w5,bv,Bh,rfl⟩;have r5:=(RSt.out.on Bh).Ft v;have b5:Ag w4 w4 (Ai w5 ⟨↑w4+1,1,Z⟩ v):=(AH hbr Bh).setCell (OD _) v;have s5:↑w4+1+1<=(Ai w5 ⟨↑w4+1,1,Z⟩ v).heap.size:=by have:=Bh.size;simp;omega
  have bv':Big (Ai w5 ⟨↑w4+1,1,Z⟩ v) (w4.heap.size+1+1) v Bp:=Big.down (Own.QS bv (Le _ _ _ _) J) J;have bo:Big (Ai w5 ⟨↑w4+1,1,Z⟩ v) (w4.heap.size+1+1) o0 X:=Own.QS (B0'.below Bh) (Le _ _ _ _) (Nat.lt_succ_self _);go_wp2_with fail;exact⟨⟨2,o0,v,J,Q,b5,r5,s5,fun _=>bo,fun _=>bv'⟩,by simp[intOf]⟩
 ·have B0':=B0 J
  have B1':=B1 J;obtain⟨P0,e0,rfl,_⟩:=B0'.nt;obtain⟨P1,e1,rfl,_⟩:=B1'.nt;have k0:=rs.k0;have k1:=rs.k1;have y0:=AK hbr Zb0.out.1;have y1:=AK hbr Zb1.out.1;have t0:=(hbr.frozen (p:=⟨w,0,Z⟩) sw).trans Zb0.out.2;have t1:=(hbr.frozen (p:=⟨w,1,Z⟩) sw).trans Zb1.out.2;have q5:=(AH q4 hbr)
  clear B0 B1 rs cS1 cS2;simp only[show((2:Nat):Int)=2 from rfl];go_wp2_with fail;refine qti ?_;refine De (v:= Be #[Ba #[R P0 (AJ X).length e0,R P1 (AJ Bp).length e1],U O 0]) ?_ Q ⟨_,_,rfl,?_,?_,?_⟩
  ·rw[Jg Q]
   go_simp
  ·exact Big.down (Own.QS (Own.QS B0' (Le _ _ _ _) J) (Le _ _ _ _) J) J
  ·exact Big.down (Own.QS (Own.QS B1' (Le _ _ _ _) J) (Le _ _ _ _) J) J
  ·exact(q5.setCell (Bg _) _).setCell (Bg _) _
end
def Pa(w w':V)(a b:Nat)(e:Ending):Prop:=∃v1 v2,e=AN (Be #[Ba #[v1,v2],U O 0])/\Big w' w v1 (rfN a b)/\Big w' w v2 (BQ a b)/\Ag w w w'
def VW{w:V}{B g x:Nat}{v:An}(h:Big w B v x)(hlt:g<B)(a0 a1:An):Big (Ai (Ai w ⟨g,0,Z⟩ a0) ⟨g,1,Z⟩ a1) B v x:=
 Own.QS (Own.QS h (Le _ _ _ _) hlt) (Le _ _ _ _) hlt
def qd{w y:V}{a b c d:An}(h:Ag w w y)(h0:E y ⟨w,0,Z⟩=I a)(h1:E y ⟨w,1,Z⟩=I b)(h2:E y ⟨↑w+1,0,Z⟩=I c)(h3:E y ⟨↑w+1,1,Z⟩=I d)(u v:An):
  Ag w w (Ai (Ai y ⟨↑w+1+1,0,Z⟩ u) ⟨↑w+1+1,1,Z⟩ v)/\E (Ai (Ai y ⟨↑w+1+1,0,Z⟩ u) ⟨↑w+1+1,1,Z⟩ v) ⟨w,0,Z⟩=I a/\E (Ai (Ai y ⟨↑w+1+1,0,Z⟩ u) ⟨↑w+1+1,1,Z⟩ v) ⟨w,1,Z⟩=I b/\E (Ai (Ai y ⟨↑w+1+1,0,Z⟩ u) ⟨↑w+1+1,1,Z⟩ v) ⟨↑w+1,0,Z⟩=I c/\E (Ai (Ai y ⟨↑w+1+1,0,Z⟩ u) ⟨↑w+1+1,1,Z⟩ v) ⟨↑w+1,1,Z⟩=I d:=by
 have e:w.heap.size<=w.heap.size+1+1:=J;refine⟨(h.setCell e u).setCell e v,?_,?_,?_,?_⟩ <;> go_simp
def aU(f g:BA)(w:V)(hf:f.In w)(hg:g.In w)(h0:Cq [f,g]=0)(hn:(AJ (AF f.l*AF g.l)).length<=64)(hd:(AJ (AF f.m*AF g.m)).length<=64)(hp:0<AF f.m*AF g.m):
  AL AE 302 #[f.val,g.val] w fun e w'=>Pa w w' (AF f.l*AF g.l) (AF f.m*AF g.m) e:=by
 have hb1:=AB (AB (AB (Ae w w) (N f 58)) (N g 58)) (N #[R Z 0 0,R Z 0 0] 58);have hb0:=AB hb1 (N #[R f.A (Y f.l) f.c,R f.C (Y f.m) f.d,R g.A (Y g.l) g.c,R g.C (Y g.m) g.d] 58);have cV:=Tz (I ⟨↑w+1+1+1,0,Z⟩) 2 [f,g] _ (ZJ (Ao (Ao (Ao w (N f 58)) (N g 58)) (N #[R Z 0 0,R Z 0 0] 58)) f g AO) (ZK hf hg hb0) AO;have QY:([f,g]:List BA).length=2:=Q;rw[QY,h0]at cV;clear QY;obtain⟨s1,s2,s3,s4⟩:=ZI h0;clear h0;obtain⟨X,hX⟩:=Az (AF f.l*AF g.l);obtain⟨Bp,hY⟩:=Az (AF f.m*AF g.m);have c1:=qbw w fun w' hb=>Ov f.A f.c f.l g.A g.c g.l w' (hf.on hb).n (hg.on hb).n J J
 have c2:=qbw w fun w' hb=>Ov f.C f.d f.m g.C g.d g.m w' (hf.on hb).d (hg.on hb).d J J
 rw[hX]at hn ⊢;rw[hY]at hd hp ⊢;simp only[hX]at c1;simp only[hY]at c2;have c3:=fun w' P p Bn q (n1:Nt w' P p (AJ X)) (n2:Nt w' Bn q (AJ Bp))=>gS P p (AJ X) Bn q (AJ Bp) w' n1 n2 J J (qrf Bu hp) (by rw[Bu,Bu];exact Br (Il (JZ X Bp).1) hn) (by rw[Bu,Bu];exact Br (Il (JZ X Bp).2) hd)
 simp only[Bu]at c3;clear hX hY;unfold Pa BA.val;go_in;go_wp2_with fail;refine gqz cV fun w3 hb3=>?_;have q3:=AH hb0 hb3;have k0:E w3 ⟨w,0,Z⟩=I (R f.A (Y f.l) f.c):=AK hb3 (by go_simp);have k1:E w3 ⟨w,1,Z⟩=I (R f.C (Y f.m) f.d):=AK hb3 (by go_simp);have k2:E w3 ⟨↑w+1,0,Z⟩=I (R g.A (Y g.l) g.c):=AK hb3 (by go_simp);have k3:E w3 ⟨↑w+1,1,Z⟩=I (R g.C (Y g.m) g.d):=AK hb3 (by go_simp);have j0:=Id (AH (AB (Ae _ _) (N #[R f.A (Y f.l) f.c,R f.C (Y f.m) f.d,R g.A (Y g.l) g.c,R g.C (Y g.m) g.d] 58)) hb3) (g:=w.heap.size+1+1) AO (j:=0) Q;have j1:=Id (AH (AB (Ae _ _) (N #[R f.A (Y f.l) f.c,R f.C (Y f.m) f.d,R g.A (Y g.l) g.c,R g.C (Y g.m) g.d] 58)) hb3) (g:=w.heap.size+1+1) AO (j:=1) Q;have Kr:w.heap.size+1+1<w3.heap.size:=Ch w3 _ j0.1;have Bi:=qbw w3 fun w' hb=>JQ (JQ (AK hb j0.1) ((hb.frozen (p:=⟨↑w+1+1,0,Z⟩) Kr).trans j0.2)) (JQ (AK hb j1.1) ((hb.frozen (p:=⟨↑w+1+1,1,Z⟩) Kr).trans j1.2))
 clear j0 j1;go_wp2_with fail
 go_region_held3 (fun w'=>Ag w w w'/\E w' ⟨w,0,Z⟩=I (R f.A (Y f.l) f.c)/\E w' ⟨w,1,Z⟩=I (R f.C (Y f.m) f.d)/\E w' ⟨↑w+1,0,Z⟩=I (R g.A (Y g.l) g.c)/\E w' ⟨↑w+1,1,Z⟩=I (R g.C (Y g.m) g.d))
  (first | (exact⟨q3.drew,k0,k1,k2,k3⟩) | (go_split_ands;exact⟨AH (by assumption) hx1,AK hx1 (by assumption),AK hx1 (by assumption),AK hx1 (by assumption),AK hx1 (by assumption)⟩) | (go_split_ands;exact⟨AH (by assumption) hx2,AK hx2 (by assumption),AK hx2 (by assumption),AK hx2 (by assumption),AK hx2 (by assumption)⟩) | (go_split_ands;exact⟨AH (by assumption) hx3,AK hx3 (by assumption),AK hx3 (by assumption),AK hx3 (by assumption),AK hx3 (by assumption)⟩) | (go_split_ands;exact qd (by assumption) (by assumption) (by assumption) (by assumption) (by assumption) _ _))
  (first
   | (go_at_call 131;refine Calls.on (FD:=#[R f.A (Y f.l) f.c,R g.A (Y g.l) g.c]) Q ?_;refine(c1 _ (by go_split_ands;assumption)).mono ?_;rintro e y1⟨v1,rfl,b1,hx1⟩;obtain⟨A1,e1,CZ,n1⟩:=b1.nt;rw[CZ])
   | (go_at_call 131;refine Calls.on (FD:=#[R f.C (Y f.m) f.d,R g.C (Y g.m) g.d]) Q ?_;refine(c2 _ (by go_split_ands;assumption)).mono ?_;rintro e y2⟨v2,rfl,b2,hx2⟩;obtain⟨A2,e2,hv2,n2⟩:=b2.nt;rw[hv2])
   | (go_at_call 314;refine(c3 _ _ _ _ _ (n1.on hx2) n2).mono ?_;rintro e y3⟨v3,v4,rfl,b3,b4,hx3⟩;obtain⟨A3,e3,hv3,n3⟩:=b3.nt;obtain⟨A4,e4,hv4,n4⟩:=b4.nt;subst hv3 hv4;have HS:w3.heap.size<=y2.heap.size:=Br hx1.size hx2.size;have HB:=AH (AH (AH (Ae _ _).drew hx1) hx2) hx3;obtain⟨⟨z0,z1⟩,z2,z3⟩:=Bi _ HB)
   | (go_at_call 314;refine(c3 _ _ _ _ _ n1 (n2.on hx1)).mono ?_;rintro e y3⟨v3,v4,rfl,b3,b4,hx3⟩;obtain⟨A3,e3,hv3,n3⟩:=b3.nt;obtain⟨A4,e4,hv4,n4⟩:=b4.nt;subst hv3 hv4;have HS:w3.heap.size<=y1.heap.size:=Br hx2.size hx1.size;have HB:=AH (AH (AH (Ae _ _).drew hx2) hx1) hx3;obtain⟨⟨z0,z1⟩,z2,z3⟩:=Bi _ HB))
 all_goals(
  have F1:=Big.down (base':=w.heap.size) (VW b3 (g:=w.heap.size+1+1) J (R A3 (AJ (rfN X Bp)).length e3) (R A4 (AJ (BQ X Bp)).length e4)) J;have F2:=Big.down (base':=w.heap.size) (VW b4 (g:=w.heap.size+1+1) J (R A3 (AJ (rfN X Bp)).length e3) (R A4 (AJ (BQ X Bp)).length e4)) J;have F3:=((AH q3 HB).setCell (p:=⟨↑w+1+1,0,Z⟩) qsm (R A3 (AJ (rfN X Bp)).length e3)).setCell (p:=⟨↑w+1+1,1,Z⟩) qsm (R A4 (AJ (BQ X Bp)).length e4);go_wp2_with fail;refine qti ?_;refine De (v:= Be #[Ba #[R A3 (AJ (rfN X Bp)).length e3,R A4 (AJ (BQ X Bp)).length e4],U O 0]) ?_ Q ⟨_,_,rfl,F1,F2,F3⟩;rw[Jg Q];go_simp)
def qe{p:Prop}(h:p:=by
  have q5:=AH q3 hb4;have k0:=AK hb4 k0;have k1:=AK hb4 k1;have k2:=AK hb4 k2;have k3:=AK hb4 k3;have sz5:w.heap.size+1+1<w5.heap.size:=Ck Kr hb4.size;go_wp2_with fail
  go_region_held3 (fun w'=>Ag w w w'/\E w' ⟨w,0,Z⟩=I (R f.A (Y f.l) f.c)/\E w' ⟨w,1,Z⟩=I (R f.C (Y f.m) f.d)/\E w' ⟨↑w+1,0,Z⟩=I (R g.A (Y g.l) g.c)/\E w' ⟨↑w+1,1,Z⟩=I (R g.C (Y g.m) g.d))
   (first | (exact⟨q5.drew,k0,k1,k2,k3⟩) | (go_split_ands;exact⟨AH (by assumption) hx1,AK hx1 (by assumption),AK hx1 (by assumption),AK hx1 (by assumption),AK hx1 (by assumption)⟩) | (go_split_ands;exact⟨AH (by assumption) hx2,AK hx2 (by assumption),AK hx2 (by assumption),AK hx2 (by assumption),AK hx2 (by assumption)⟩) | (go_split_ands;exact⟨AH (by assumption) hx3,AK hx3 (by assumption),AK hx3 (by assumption),AK hx3 (by assumption),AK hx3 (by assumption)⟩) | (go_split_ands;exact qd (by assumption) (by assumption) (by assumption) (by assumption) (by assumption) _ _))
   (first
    | (go_at_call 76;refine(c1 _ _ _ _ _ (nP.on (Ae _ _).drew) (nQ.on (Ae _ _).drew)).mono ?_;rintro e y1⟨v1,rfl,b1,hx1⟩;obtain⟨A1,e1,CZ,n1⟩:=b1.nt;rw[CZ])
    | (go_at_call 177;refine(c1 _ _ _ _ _ (nP.on (Ae _ _).drew) (nQ.on (Ae _ _).drew)).mono ?_;rintro e y1⟨v1,rfl,b1,hx1⟩;obtain⟨A1,e1,CZ,n1⟩:=b1.nt;rw[CZ])
    | (go_at_call 76;refine(c1 _ _ _ _ _ (nP.on (AH (Ae _ _).drew hx2)) (nQ.on (AH (Ae _ _).drew hx2))).mono ?_;rintro e y1⟨v1,rfl,b1,hx1⟩;obtain⟨A1,e1,CZ,n1⟩:=b1.nt;rw[CZ])
    | (go_at_call 177;refine(c1 _ _ _ _ _ (nP.on (AH (Ae _ _).drew hx2)) (nQ.on (AH (Ae _ _).drew hx2))).mono ?_;rintro e y1⟨v1,rfl,b1,hx1⟩;obtain⟨A1,e1,CZ,n1⟩:=b1.nt;rw[CZ])
    | (go_at_call 131;refine Calls.on (FD:=#[R f.C (Y f.m) f.d,R g.C (Y g.m) g.d]) Q ?_;refine(c2 _ (by go_split_ands;assumption)).mono ?_;rintro e y2⟨v2,rfl,b2,hx2⟩;obtain⟨A2,e2,hv2,n2⟩:=b2.nt;rw[hv2])
    | (go_at_call 314;refine(c3 _ _ _ _ _ (n1.on hx2) n2).mono ?_;rintro e y3⟨v3,v4,rfl,b3,b4,hx3⟩;obtain⟨A3,e3,hv3,n3⟩:=b3.nt;obtain⟨A4,e4,hv4,n4⟩:=b4.nt;subst hv3 hv4;have HS:w5.heap.size<=y2.heap.size:=Br hx1.size hx2.size;have HB:=AH (AH (AH (Ae _ _).drew hx1) hx2) hx3;obtain⟨⟨z0,z1⟩,z2,z3⟩:=Bi _ (AH hb4 HB))
    | (go_at_call 314;refine(c3 _ _ _ _ _ n1 (n2.on hx1)).mono ?_;rintro e y3⟨v3,v4,rfl,b3,b4,hx3⟩;obtain⟨A3,e3,hv3,n3⟩:=b3.nt;obtain⟨A4,e4,hv4,n4⟩:=b4.nt;subst hv3 hv4;have HS:w5.heap.size<=y1.heap.size:=Br hx2.size hx1.size;have HB:=AH (AH (AH (Ae _ _).drew hx2) hx1) hx3;obtain⟨⟨z0,z1⟩,z2,z3⟩:=Bi _ (AH hb4 HB)))
  all_goals(
   have F1:=Big.down (base':=w.heap.size) (VW b3 (g:=w.heap.size+1+1) J (R A3 (AJ (rfN X Bp)).length e3) (R A4 (AJ (BQ X Bp)).length e4)) J;have F2:=Big.down (base':=w.heap.size) (VW b4 (g:=w.heap.size+1+1) J (R A3 (AJ (rfN X Bp)).length e3) (R A4 (AJ (BQ X Bp)).length e4)) J;have F3:=((AH q5 HB).setCell (p:=⟨↑w+1+1,0,Z⟩) qsm (R A3 (AJ (rfN X Bp)).length e3)).setCell (p:=⟨↑w+1+1,1,Z⟩) qsm (R A4 (AJ (BQ X Bp)).length e4);go_wp2_with fail;refine qti ?_;refine De (v:= Be #[Ba #[R A3 (AJ (rfN X Bp)).length e3,R A4 (AJ (BQ X Bp)).length e4],U O 0]) ?_ Q ⟨_,_,rfl,F1,F2,F3⟩;rw[Jg Q];go_simp)):p:=h
def qf(f g:BA)(w:V)(hf:f.In w)(hg:g.In w)(h0:Cq [f,g]=0)(hn:(AJ (AF f.l*AF g.m+AF g.l*AF f.m)).length<=64)(hk:(AJ (AF f.l*AF g.m)).length<=1000)(hk2:(AJ (AF g.l*AF f.m)).length<=1000)(hd:(AJ (AF f.m*AF g.m)).length<=64)(hp:0<AF f.m*AF g.m):
  AL AE 321 #[f.val,g.val] w fun e w'=>Pa w w' (AF f.l*AF g.m+AF g.l*AF f.m) (AF f.m*AF g.m) e:=by
 have hb1:=AB (AB (AB (Ae w w) (N f 58)) (N g 58)) (N #[R Z 0 0,R Z 0 0] 58);have hb0:=AB hb1 (N #[R f.A (Y f.l) f.c,R f.C (Y f.m) f.d,R g.A (Y g.l) g.c,R g.C (Y g.m) g.d] 58);have cV:=Tz (I ⟨↑w+1+1+1,0,Z⟩) 2 [f,g] _ (ZJ (Ao (Ao (Ao w (N f 58)) (N g 58)) (N #[R Z 0 0,R Z 0 0] 58)) f g AO) (ZK hf hg hb0) AO;have QY:([f,g]:List BA).length=2:=Q;rw[QY,h0]at cV;clear QY;obtain⟨s1,s2,s3,s4⟩:=ZI h0;clear h0;have cX:=qbw w fun w' hb=>eC f g w' (hf.on hb) (hg.on hb) J J J J
 obtain⟨P,hP⟩:=Az (AF f.l*AF g.m);obtain⟨Bn,hQ⟩:=Az (AF g.l*AF f.m);rw[hP,hQ]at hn ⊢;rw[hP]at hk;rw[hQ]at hk2;simp only[hP,hQ]at cX;clear hP hQ;obtain⟨X,hX⟩:=Az (P+Bn);obtain⟨Bp,hY⟩:=Az (AF f.m*AF g.m);have c1:=fun w' A c B d (n1:Nt w' A c (AJ P)) (n2:Nt w' B d (AJ Bn))=>Zw A c (AJ P) B d (AJ Bn) w' n1 n2 J J
 have c2:=qbw w fun w' hb=>Ov f.C f.d f.m g.C g.d g.m w' (hf.on hb).d (hg.on hb).d J J
 rw[hX]at hn ⊢;rw[hY]at hd hp ⊢;simp only[Bu,hX]at c1;simp only[hY]at c2;have c3:=fun w' P p Bn q (n1:Nt w' P p (AJ X)) (n2:Nt w' Bn q (AJ Bp))=>gS P p (AJ X) Bn q (AJ Bp) w' n1 n2 J J (qrf Bu hp) (by rw[Bu,Bu];exact Br (Il (JZ X Bp).1) hn) (by rw[Bu,Bu];exact Br (Il (JZ X Bp).2) hd)
 simp only[Bu]at c3;clear hX hY;unfold Pa BA.val;go_in;go_wp2_with fail;refine gqz cV fun w3 hb3=>?_;have q3:=AH hb0 hb3;have k0:E w3 ⟨w,0,Z⟩=I (R f.A (Y f.l) f.c):=AK hb3 (by go_simp);have k1:E w3 ⟨w,1,Z⟩=I (R f.C (Y f.m) f.d):=AK hb3 (by go_simp);have k2:E w3 ⟨↑w+1,0,Z⟩=I (R g.A (Y g.l) g.c):=AK hb3 (by go_simp);have k3:E w3 ⟨↑w+1,1,Z⟩=I (R g.C (Y g.m) g.d):=AK hb3 (by go_simp);have j0:=Id (AH (AB (Ae _ _) (N #[R f.A (Y f.l) f.c,R f.C (Y f.m) f.d,R g.A (Y g.l) g.c,R g.C (Y g.m) g.d] 58)) hb3) (g:=w.heap.size+1+1) AO (j:=0) Q;have j1:=Id (AH (AB (Ae _ _) (N #[R f.A (Y f.l) f.c,R f.C (Y f.m) f.d,R g.A (Y g.l) g.c,R g.C (Y g.m) g.d] 58)) hb3) (g:=w.heap.size+1+1) AO (j:=1) Q;have Kr:w.heap.size+1+1<w3.heap.size:=Ch w3 _ j0.1;have Bi:=qbw w3 fun w' hb=>JQ (JQ (AK hb j0.1) ((hb.frozen (p:=⟨↑w+1+1,0,Z⟩) Kr).trans j0.2)) (JQ (AK hb j1.1) ((hb.frozen (p:=⟨↑w+1+1,1,Z⟩) Kr).trans j1.2))
 clear j0 j1;go_wp2_with fail;have cX3:=cX w3 q3;unfold BA.val at cX3;refine cX3.mono ?_;rintro e w4⟨u1,u2,rfl,bP,bQ,hb4⟩;obtain⟨D1,d1,rfl,nP⟩:=bP.nt;obtain⟨D2,d2,rfl,nQ⟩:=bQ.nt;obtain⟨w5,Ct⟩:∃w5,w5=w4:=⟨_,Q⟩
 subst Ct;exact qe
def Ack(f g:BA)(w:V)(hf:f.In w)(hg:g.In w)(h0:Cq [f,g]=0)(hn:(AJ (AF f.l*AF g.m-AF g.l*AF f.m)).length<=64)(hle:AF g.l*AF f.m<=AF f.l*AF g.m)(hk:(AJ (AF f.l*AF g.m)).length<=1000)(hd:(AJ (AF f.m*AF g.m)).length<=64)(hp:0<AF f.m*AF g.m):
  AL AE 322 #[f.val,g.val] w fun e w'=>Pa w w' (AF f.l*AF g.m-AF g.l*AF f.m) (AF f.m*AF g.m) e:=by
 have hb1:=AB (AB (AB (Ae w w) (N f 58)) (N g 58)) (N #[R Z 0 0,R Z 0 0] 58);have hb0:=AB hb1 (N #[R f.A (Y f.l) f.c,R f.C (Y f.m) f.d,R g.A (Y g.l) g.c,R g.C (Y g.m) g.d] 58);have cV:=Tz (I ⟨↑w+1+1+1,0,Z⟩) 2 [f,g] _ (ZJ (Ao (Ao (Ao w (N f 58)) (N g 58)) (N #[R Z 0 0,R Z 0 0] 58)) f g AO) (ZK hf hg hb0) AO;have QY:([f,g]:List BA).length=2:=Q;rw[QY,h0]at cV;clear QY;obtain⟨s1,s2,s3,s4⟩:=ZI h0;clear h0;have cX:=qbw w fun w' hb=>eC f g w' (hf.on hb) (hg.on hb) J J J J
 obtain⟨P,hP⟩:=Az (AF f.l*AF g.m);obtain⟨Bn,hQ⟩:=Az (AF g.l*AF f.m);rw[hP,hQ]at hn ⊢;rw[hP]at hk;rw[hQ]at hle;rw[hP]at hle;have hk2:=Il hle;simp only[hP,hQ]at cX;clear hP hQ;obtain⟨X,hX⟩:=Az (P-Bn);obtain⟨Bp,hY⟩:=Az (AF f.m*AF g.m);have c1:=fun w' A c B d (n1:Nt w' A c (AJ P)) (n2:Nt w' B d (AJ Bn))=>dV A c (AJ P) B d (AJ Bn) w' n1 n2 J J (by rw[Bu,Bu];exact hle)
 have c2:=qbw w fun w' hb=>Ov f.C f.d f.m g.C g.d g.m w' (hf.on hb).d (hg.on hb).d J J
 rw[hX]at hn ⊢;rw[hY]at hd hp ⊢;simp only[Bu,hX]at c1;simp only[hY]at c2;have c3:=fun w' P p Bn q (n1:Nt w' P p (AJ X)) (n2:Nt w' Bn q (AJ Bp))=>gS P p (AJ X) Bn q (AJ Bp) w' n1 n2 J J (qrf Bu hp) (by rw[Bu,Bu];exact Br (Il (JZ X Bp).1) hn) (by rw[Bu,Bu];exact Br (Il (JZ X Bp).2) hd)
 simp only[Bu]at c3;clear hX hY;unfold Pa BA.val;go_in;go_wp2_with fail;refine gqz cV fun w3 hb3=>?_;have q3:=AH hb0 hb3;have k0:E w3 ⟨w,0,Z⟩=I (R f.A (Y f.l) f.c):=AK hb3 (by go_simp);have k1:E w3 ⟨w,1,Z⟩=I (R f.C (Y f.m) f.d):=AK hb3 (by go_simp);have k2:E w3 ⟨↑w+1,0,Z⟩=I (R g.A (Y g.l) g.c):=AK hb3 (by go_simp);have k3:E w3 ⟨↑w+1,1,Z⟩=I (R g.C (Y g.m) g.d):=AK hb3 (by go_simp);have j0:=Id (AH (AB (Ae _ _) (N #[R f.A (Y f.l) f.c,R f.C (Y f.m) f.d,R g.A (Y g.l) g.c,R g.C (Y g.m) g.d] 58)) hb3) (g:=w.heap.size+1+1) AO (j:=0) Q;have j1:=Id (AH (AB (Ae _ _) (N #[R f.A (Y f.l) f.c,R f.C (Y f.m) f.d,R g.A (Y g.l) g.c,R g.C (Y g.m) g.d] 58)) hb3) (g:=w.heap.size+1+1) AO (j:=1) Q;have Kr:w.heap.size+1+1<w3.heap.size:=Ch w3 _ j0.1;have Bi:=qbw w3 fun w' hb=>JQ (JQ (AK hb j0.1) ((hb.frozen (p:=⟨↑w+1+1,0,Z⟩) Kr).trans j0.2)) (JQ (AK hb j1.1) ((hb.frozen (p:=⟨↑w+1+1,1,Z⟩) Kr).trans j1.2))
 clear j0 j1;go_wp2_with fail;have cX3:=cX w3 q3;unfold BA.val at cX3;refine cX3.mono ?_;rintro e w4⟨u1,u2,rfl,bP,bQ,hb4⟩;obtain⟨D1,d1,rfl,nP⟩:=bP.nt;obtain⟨D2,d2,rfl,nQ⟩:=bQ.nt;have cO:=Uk D1 d1 (AJ P) D2 d2 (AJ Bn) w4 nP.arr nQ.arr nP.len nP.cap nQ.len nQ.cap nP.dig nQ.dig;rw[Bu,Bu]at cO
 obtain⟨o,ho,ho0⟩:∃o,Ey P Bn=o/\0<=o:=by
  refine⟨_,Q,?_⟩;unfold Ey;rw[AU (Nat.not_lt.2 hle)];split <;> decide
 rw[ho]at cO;clear ho;go_wp2_with fail;refine gqz cO fun w5 Bh=>?_;obtain⟨w4',Ajq⟩:∃w4',w4'=w4:=⟨_,Q⟩
 have hb4:=AH hb4 Bh;have nP:=nP.on Bh;have nQ:=nQ.on Bh;exact qe
section
variable{A:Option AS}{b c:Nat}{f g:BA}{w:V}
def Ke(A:Option AS)(b:Nat):Prop:=∀a,A=I a->a.block≠b
def Ke.none(b:Nat):Ke Z b:=fun a h=>by cases h
theorem Nt.Du{g:Nat}{l:List Nat}(h:Nt w A c l)(hf:Ke A g)(j:Nat)(v:An):Nt (Ai w ⟨g,j,Z⟩ v) A c l:=
 ⟨fun hl=>by
  obtain⟨b,off,rfl,hb,hc⟩:=h.arr hl;refine⟨b,off,Q,by simpa using hb,fun i x hx k u hu=>?_⟩;rw[KF _ _ _ _ (fun e=>hf _ Q e.symm)]
  grind,h.len,h.cap,h.dig,h.nil⟩
def Big.Du{B n:Nat}{k:Nat}(h:Big w B (R A k c) n)(hb:b<B):Ke A b:=fun a ha=>by
 subst ha;have:=(Cp h a.block Q).1;omega
structure Gv(w:V)(b:Nat)(f g:BA):Prop where
 fi:f.In w
 gi:g.In w
 fa:Ke f.A b
 fc:Ke f.C b
 ga:Ke g.A b
 gc:Ke g.C b
 c0:E w ⟨b,0,Z⟩=I (R f.A (Y f.l) f.c)
 c1:E w ⟨b,1,Z⟩=I (R f.C (Y f.m) f.d)
 c2:E w ⟨b,2,Z⟩=I (R g.A (Y g.l) g.c)
 c3:E w ⟨b,3,Z⟩=I (R g.C (Y g.m) g.d)
 c4:E w ⟨b,4,Z⟩=I (U O 0)
 r0:Bo w ⟨b,0,Z⟩=false
 r1:Bo w ⟨b,1,Z⟩=false
 r2:Bo w ⟨b,2,Z⟩=false
 r3:Bo w ⟨b,3,Z⟩=false
 r4:Bo w ⟨b,4,Z⟩=false
def Gv.lt(h:Gv w b f g):b<↑w:=Ch w _ h.c0
def Gv.on{w':V}(h:Gv w b f g)(hb:Ag w w w'):Gv w' b f g:=
 have fr:∀j,Bo w ⟨b,j,Z⟩=false->Bo w' ⟨b,j,Z⟩=false:=fun j hj=>(hb.frozen (p:=⟨b,j,Z⟩) h.lt).trans hj
 ⟨h.fi.on hb,h.gi.on hb,h.fa,h.fc,h.ga,h.gc,AK hb h.c0,AK hb h.c1,AK hb h.c2,AK hb h.c3,AK hb h.c4,fr _ h.r0,fr _ h.r1,fr _ h.r2,fr _ h.r3,fr _ h.r4⟩
def Gv.aV(h:Gv w b f g):Gv (Ai w ⟨b,4,Z⟩ (U O 0)) b f g:=by
 obtain⟨h1,h2,h3,h4,h5,h6,k0,k1,k2,k3,k4,z0,z1,z2,z3,z4⟩:=h;refine⟨⟨h1.n.Du h3 _ _,h1.d.Du h4 _ _⟩,⟨h2.n.Du h5 _ _,h2.d.Du h6 _ _⟩,h3,h4,h5,h6,?_,?_,?_,?_,?_,?_,?_,?_,?_,?_⟩ <;> go_simp
def Gv.Acl{f':BA}(h:Gv w b f g)(hf:f'.In w)(ha:Ke f'.A b)(hc:Ke f'.C b):Gv (Ai (Ai w ⟨b,0,Z⟩ (R f'.A (Y f'.l) f'.c)) ⟨b,1,Z⟩ (R f'.C (Y f'.m) f'.d)) b f' g:=by
 obtain⟨h1,h2,h3,h4,h5,h6,k0,k1,k2,k3,k4,z0,z1,z2,z3,z4⟩:=h;refine⟨⟨(hf.n.Du ha _ _).Du ha _ _,(hf.d.Du hc _ _).Du hc _ _⟩,⟨(h2.n.Du h5 _ _).Du h5 _ _,(h2.d.Du h6 _ _).Du h6 _ _⟩,ha,hc,h5,h6,?_,?_,?_,?_,?_,?_,?_,?_,?_,?_⟩ <;> go_simp
def Gv.Acm{g':BA}(h:Gv w b f g)(hg:g'.In w)(ha:Ke g'.A b)(hc:Ke g'.C b):Gv (Ai (Ai w ⟨b,2,Z⟩ (R g'.A (Y g'.l) g'.c)) ⟨b,3,Z⟩ (R g'.C (Y g'.m) g'.d)) b f g':=by
 obtain⟨h1,h2,h3,h4,h5,h6,k0,k1,k2,k3,k4,z0,z1,z2,z3,z4⟩:=h;refine⟨⟨(h1.n.Du h3 _ _).Du h3 _ _,(h1.d.Du h4 _ _).Du h4 _ _⟩,⟨(hg.n.Du ha _ _).Du ha _ _,(hg.d.Du hc _ _).Du hc _ _⟩,h3,h4,ha,hc,?_,?_,?_,?_,?_,?_,?_,?_,?_,?_⟩ <;> go_simp
def aW(b:Nat)(f g:BA)(w:V)(h:Gv w b f g):AL AE 320 #[AI (I ⟨b,0,Z⟩),U O 0] w fun e w'=>e=AN (Be #[])/\Gv w' b f g/\w'=Ai w ⟨b,4,Z⟩ (U O 0):=by
 have c4:=h.c4;have r4:=h.r4;have H:=F h.aV;clear h;go_in;go_wp2;go_end0;exact⟨Q,H.out,Q⟩
def Acn(w:V):AL AE 310 #[] w fun e w'=>∃b A c,e=AN (AI (I ⟨b,0,Z⟩))/\Gv w' b ⟨Z,0,[],A,c,AJ 1⟩ ⟨Z,0,[],A,c,AJ 1⟩/\w.heap.size<=b/\Ag w w w':=by
 go_in;go_wp2_with fail;refine(Lh 1 w AC).mono ?_;rintro e w1⟨v,rfl,b1,hb1⟩;obtain⟨A,c,rfl,n1⟩:=b1.nt;go_wp2_with fail
 have hA:Ke A (w1.heap.size+1):=fun a ha=>by
  subst ha;have:=(Cp b1 a.block Q).2;omega
 have al:=AB (AB (Ae w1 w1) (N #[R Z 0 0,R A (AJ 1).length c] 58)) (N #[R Z 0 0,R A (AJ 1).length c,R Z 0 0,R A (AJ 1).length c,U O 0] 427);have n2:=n1.on al;have nz:∀W:V,Nt W Z 0 []:=fun W=>⟨Arr.nil,Bg _,BM _,BZ.nil,fun _=>rfl⟩
 have sz:=hb1.size;go_ret;refine⟨_,_,_,Q,⟨⟨nz _,n2⟩,⟨nz _,n2⟩,Ke.none _,hA,Ke.none _,hA,?_,?_,?_,?_,?_,?_,?_,?_,?_,?_⟩,J,AH hb1 al⟩
 all_goals go_simp
end
theorem TP{f g:BA}(h1:Y f.l<=64)(h2:Y f.m<=64)(h3:Y g.l<=64)(h4:Y g.m<=64)(h5:0<AF f.m)(h6:0<AF g.m):Cq [f,g]=0:=by
 refine WL.2 ⟨?_,?_⟩
 all_goals grind [BA.LY,AF,BA.QX]
theorem qg{x y a b:Nat}(hx:x<AZ^4)(hy:y<AZ^4)(ha:a<AZ^2)(hb:b<AZ^2):(AJ (x*b+a*y)).length<=64/\(AJ (y*b)).length<=64/\(AJ (x*b)).length<=1000/\(AJ (a*y)).length<=1000:=by
 have h1:x*b<AZ^6:=by rw[show(6:Nat)=4+2 from rfl,Ou];exact Sx hx hb
 have h2:a*y<AZ^6:=by rw[show(6:Nat)=2+4 from rfl,Ou];exact Sx ha hy
 have h3:y*b<AZ^6:=by rw[show(6:Nat)=4+2 from rfl,Ou];exact Sx hy hb
 have h4:x*b+a*y<AZ^7:=by
  grind
 exact⟨Br (P7 h4) AC,Br (P7 h3) AC,Br (P7 h1) AC,Br (P7 h2) AC⟩
def add_pos(b:Nat)(f g:BA)(CN n d:Nat)(w:V)(h:Gv w b f g)(h1:CN<=65536)(h2:n<=4096)(h3:d<=4096)(h4:0<d)(hl:Y f.l<=64)(hm:Y f.m<=64)(hx:AF f.l<AZ^4)(hy:AF f.m<AZ^4)(hy0:0<AF f.m):
  AL AE 311 #[AI (I ⟨b,0,Z⟩),U O CN,U O n,U O d] w fun e w'=>e=AN (Be #[])/\∃f',Gv w' b f' g/\f'.l=AJ (rfN (AF f.l*BQ (CN*n) d+rfN (CN*n) d*AF f.m) (AF f.m*BQ (CN*n) d))/\f'.m=AJ (BQ (AF f.l*BQ (CN*n) d+rfN (CN*n) d*AF f.m) (AF f.m*BQ (CN*n) d))/\∀K,K<=b->Ag K w w':=by
 have lb:=h.lt;have H:=F h;have nb:¬((CN:Int)<0):=J;have w1:=fun w'=>Lh CN w' J
 have w2:=fun w'=>Lh 1 w' AC
 have w3:=fun w'=>Lh n w' J
 have w4:=fun w'=>Lh d w' J
 clear h;go_in;go_wp2_with fail;refine(w1 _).mono ?_;rintro e y1⟨v1,rfl,b1,hb1⟩;obtain⟨A1,a1,rfl,n1⟩:=b1.nt;go_wp2_with fail;refine(w2 _).mono ?_;rintro e y2⟨v2,rfl,b2,hb2⟩;obtain⟨A2,a2,rfl,n2⟩:=b2.nt;go_wp2_with fail;refine(w3 _).mono ?_;rintro e y3⟨v3,rfl,b3,hb3⟩;obtain⟨A3,a3,rfl,n3⟩:=b3.nt;go_wp2_with fail;refine(w4 _).mono ?_;rintro e y4⟨v4,rfl,b4,hb4⟩;obtain⟨A4,a4,rfl,n4⟩:=b4.nt;have m3:=n3.on hb4;have m2:=(n2.on hb3).on hb4;have m1:=((n1.on hb2).on hb3).on hb4;have q4:=AH hb1 (AH hb2 (AH hb3 hb4));clear w1 w2 w3 w4 b1 b2 b3 b4 n1 n2 n3;have l1:=Ji (n:=CN) J;have l2:=Ji (n:=1) J;have l3:=Ji (n:=n) J;have l4:=Ji (n:=d) J;have p1:=Nd h1 h2;have l5:=Ji (n:=CN*n) J;have l6:=Ji (n:=1*d) J;have cM:=aU ⟨A1,a1,AJ CN,A2,a2,AJ 1⟩ ⟨A3,a3,AJ n,A4,a4,AJ d⟩ y4 ⟨m1,m2⟩ ⟨m3,n4⟩ (TP qsm qsm qsm qsm (by simp[Bu]) (by simp[Bu];omega)) (by simp only[Bu];omega) (by simp only[Bu];omega) (by simp only[Bu];omega);simp only[Bu,Nat.one_mul]at cM;unfold Pa BA.val at cM;go_wp2_with fail;refine cM.mono ?_;rintro e y5⟨v5,v6,rfl,b5,b6,Bh⟩;obtain⟨A5,a5,rfl,n5⟩:=b5.nt;obtain⟨A6,a6,rfl,n6⟩:=b6.nt;go_wp2_with fail;obtain⟨N3,Kx⟩:=Az (rfN (CN*n) d);obtain⟨D3,MB⟩:=Az (BQ (CN*n) d);have rb:=JZ (CN*n) d;have rp:=(Mz (a:=CN*n) h4).2.2.2.2;rw[Kx,MB]at rb;rw[MB]at rp;rw[Kx]at b5 n5;rw[MB]at b6 n6;simp only[Kx,MB];obtain⟨y6,hy6⟩:=Az (y5.alloc (N #[R A5 (AJ N3).length a5,R A6 (AJ D3).length a6] 58));have al:=AB (Ae y5 y5) (N #[R A5 (AJ N3).length a5,R A6 (AJ D3).length a6] 58);have t0:E y6 ⟨y5,0,Z⟩=I (R A5 (AJ N3).length a5):=by subst hy6;go_simp
 have t1:E y6 ⟨y5,1,Z⟩=I (R A6 (AJ D3).length a6):=by subst hy6;go_simp
 rw[hy6]at al ⊢;clear hy6;have q5:=AH q4 Bh;have q6:=AH q5 al;have s6:=H.out.on q6;have bl5:=Ck lb q5.size;have bl4:=Ck lb q4.size;have F5:=Big.Du b5 bl4;have F6:=Big.Du b6 bl4;have hne:b≠↑y5:=J;refine(aW b f g y6 s6).mono ?_;rintro e y7⟨rfl,s7,rfl⟩;have u0:E (y6.setCell ⟨b,4,Z⟩ (U O 0)).drew ⟨y5,0,Z⟩=I (R A5 (AJ N3).length a5):=(KF _ _ _ _ hne).trans t0;have u1:E (y6.setCell ⟨b,4,Z⟩ (U O 0)).drew ⟨y5,1,Z⟩=I (R A6 (AJ D3).length a6):=(KF _ _ _ _ hne).trans t1;have f3:(⟨A5,a5,AJ N3,A6,a6,AJ D3⟩:BA).In (y6.setCell ⟨b,4,Z⟩ (U O 0)):=⟨(n5.on al).Du F5 _ _,(n6.on al).Du F6 _ _⟩
 have B7:∀K,K<=b->Ag K w (y6.setCell ⟨b,4,Z⟩ (U O 0)):=fun K hK=>(q6.mono J).setCell (p:=⟨b,4,Z⟩) hK _
 obtain⟨y7,hy7⟩:=Az (y6.setCell ⟨b,4,Z⟩ (U O 0));rw[hy7]at s7 u0 u1 f3 B7 ⊢;clear hy7 q6 q5 q4 al t0 t1 s6 cM n5 n6 b5 b6 F5 F6 m1 m2 m3 n4;have S7:=s7.on (Ae _ _).drew;have f3':=f3.on (w':=y7.drew) (Ae _ _).drew;have k0:=S7.c0;have k1:=S7.c1;obtain⟨z1,z2,z3,z4⟩:=qg (x:=AF f.l) (y:=AF f.m) (a:=N3) (b:=D3) hx hy (Do rb.1 (Do p1 AC)) (Do rb.2 (Do h3 AC));have l7:=Ji (n:=N3) J;have l8:=Ji (n:=D3) J;have cA:=qf f ⟨A5,a5,AJ N3,A6,a6,AJ D3⟩ y7.drew S7.fi f3' (TP hl hm qsm qsm hy0 (by simp[Bu];omega)) (by simp only[Bu];exact z1) (by simp only[Bu];exact z3) (by simp only[Bu];exact z4) (by simp only[Bu];exact z2) (by simp only[Bu];exact I9 hy0 rp);simp only[Bu]at cA;unfold Pa BA.val at cA;obtain⟨X,hX⟩:=Az (rfN (AF f.l*D3+N3*AF f.m) (AF f.m*D3));obtain⟨Bp,hY⟩:=Az (BQ (AF f.l*D3+N3*AF f.m) (AF f.m*D3));have E1:=F (show rfN (AF f.l*BQ (CN*n) d+rfN (CN*n) d*AF f.m) (AF f.m*BQ (CN*n) d)=X by rw[Kx,MB,hX]);have E2:=F (show BQ (AF f.l*BQ (CN*n) d+rfN (CN*n) d*AF f.m) (AF f.m*BQ (CN*n) d)=Bp by rw[Kx,MB,hY]);simp only[hX,hY]at cA;have lb7:=S7.lt;have HS7:=F S7;clear hx hy hX hY z1 z2 z3 z4 p1 rb rp Kx MB S7 s7 f3 f3' l1 l2 l3 l4 l5 l6;go_wp2_with fail;go_region_with (go_at_call 321;refine cA.mono ?_;rintro e y8⟨v8,v9,rfl,b8,b9,Cv⟩;obtain⟨A8,a8,hv8,n8⟩:=b8.nt;obtain⟨A9,a9,hv9,n9⟩:=b9.nt;subst hv8 hv9;have s8:=HS7.out.on Cv;have e0:=s8.c0;have e1:=s8.c1;have e2:=s8.r0;have e3:=s8.r1)
 all_goals(
  have S8:=HS7.out.on Cv;have S9:=S8.Acl (f':=⟨A8,a8,AJ X,A9,a9,AJ Bp⟩) ⟨n8,n9⟩ (Big.Du b8 lb7) (Big.Du b9 lb7);have lk:∀K,K<=b->K<=y7.drew.heap.size:=fun K hK=>Br hK (EO lb7)
  have B9:=fun K (hK:K<=b)=>((((B7 K hK).drew).trans (Cv.mono (lk K hK))).setCell (p:=⟨b,0,Z⟩) hK (R A8 (AJ X).length a8)).setCell (p:=⟨b,1,Z⟩) hK (R A9 (AJ Bp).length a9)
  clear e0 e1 e2 e3 k0 k1 u0 u1 cA HS7 S8 s8 lk B7;go_wp2_with fail;refine(aW b _ g _ S9).mono ?_;rintro e y9⟨rfl,FL,rfl⟩;go_wp2;go_end0;exact⟨Q,_,FL,(congrArg AJ E1).symm,(congrArg AJ E2).symm,fun K hK=>(B9 K hK).setCell (p:=⟨b,4,Z⟩) hK _⟩)
def add_neg(b:Nat)(f g:BA)(CN n d:Nat)(w:V)(h:Gv w b f g)(h0:0<CN)(h1:CN<=65536)(h2:n<=4096)(h3:d<=4096)(h4:0<d)(hl:Y g.l<=64)(hm:Y g.m<=64)(hx:AF g.l<AZ^4)(hy:AF g.m<AZ^4)(hy0:0<AF g.m):
  AL AE 311 #[AI (I ⟨b,0,Z⟩),U O (-(CN:Int)),U O n,U O d] w fun e w'=>e=AN (Be #[])/\∃g',Gv w' b f g'/\g'.l=AJ (rfN (AF g.l*BQ (CN*n) d+rfN (CN*n) d*AF g.m) (AF g.m*BQ (CN*n) d))/\g'.m=AJ (BQ (AF g.l*BQ (CN*n) d+rfN (CN*n) d*AF g.m) (AF g.m*BQ (CN*n) d))/\∀K,K<=b->Ag K w w':=by
 have lb:b<↑w:=h.lt;have c0:=h.c2;have c1:=h.c3;have H:=F h;have nb: -(CN:Int)<0:=J;have w1:=fun w'=>Lh CN w' J
 have w2:=fun w'=>Lh 1 w' AC
 have w3:=fun w'=>Lh n w' J
 have w4:=fun w'=>Lh d w' J
 clear h;go_in;go_wp2_with fail;refine(w1 _).mono ?_;rintro e y1⟨v1,rfl,b1,hb1⟩;obtain⟨A1,a1,rfl,n1⟩:=b1.nt;go_wp2_with fail;refine(w2 _).mono ?_;rintro e y2⟨v2,rfl,b2,hb2⟩;obtain⟨A2,a2,rfl,n2⟩:=b2.nt;go_wp2_with fail;refine(w3 _).mono ?_;rintro e y3⟨v3,rfl,b3,hb3⟩;obtain⟨A3,a3,rfl,n3⟩:=b3.nt;go_wp2_with fail;refine(w4 _).mono ?_;rintro e y4⟨v4,rfl,b4,hb4⟩;obtain⟨A4,a4,rfl,n4⟩:=b4.nt;have m3:=n3.on hb4;have m2:=(n2.on hb3).on hb4;have m1:=((n1.on hb2).on hb3).on hb4;have q4:=AH hb1 (AH hb2 (AH hb3 hb4));clear w1 w2 w3 w4 b1 b2 b3 b4 n1 n2 n3;have l1:=Ji (n:=CN) J;have l2:=Ji (n:=1) J;have l3:=Ji (n:=n) J;have l4:=Ji (n:=d) J;have p1:CN*n<=65536*4096:=Nd h1 h2;have l5:=Ji (n:=CN*n) J;have l6:=Ji (n:=1*d) J;have cM:=aU ⟨A1,a1,AJ CN,A2,a2,AJ 1⟩ ⟨A3,a3,AJ n,A4,a4,AJ d⟩ y4 ⟨m1,m2⟩ ⟨m3,n4⟩ (TP qsm qsm qsm qsm (by simp[Bu]) (by simp[Bu];omega)) (by simp only[Bu];omega) (by simp only[Bu];omega) (by simp only[Bu];omega);simp only[Bu,Nat.one_mul]at cM;unfold Pa BA.val at cM;go_wp2_with fail;refine cM.mono ?_;rintro e y5⟨v5,v6,rfl,b5,b6,Bh⟩;obtain⟨A5,a5,rfl,n5⟩:=b5.nt;obtain⟨A6,a6,rfl,n6⟩:=b6.nt;go_wp2_with fail;obtain⟨N3,Kx⟩:=Az (rfN (CN*n) d);obtain⟨D3,MB⟩:=Az (BQ (CN*n) d);have rb:=JZ (CN*n) d;have rp:=(Mz (a:=CN*n) h4).2.2.2.2;rw[Kx,MB]at rb;rw[MB]at rp;rw[Kx]at b5 n5;rw[MB]at b6 n6;simp only[Kx,MB];obtain⟨y6,hy6⟩:=Az (y5.alloc (N #[R A5 (AJ N3).length a5,R A6 (AJ D3).length a6] 58));have al:=AB (Ae y5 y5) (N #[R A5 (AJ N3).length a5,R A6 (AJ D3).length a6] 58);have t0:E y6 ⟨y5,0,Z⟩=I (R A5 (AJ N3).length a5):=by subst hy6;go_simp
 have t1:E y6 ⟨y5,1,Z⟩=I (R A6 (AJ D3).length a6):=by subst hy6;go_simp
 rw[hy6]at al ⊢;clear hy6;have q5:=AH q4 Bh;have q6:=AH q5 al;have s6:=H.out.on q6;have bl5:b<↑y5:=Ck lb q5.size;have bl4:b<↑y4:=Ck lb q4.size;have F5:=Big.Du b5 bl4;have F6:=Big.Du b6 bl4;have hne:b≠↑y5:=J;refine(aW b f g y6 s6).mono ?_;rintro e y7⟨rfl,s7,rfl⟩;have u0:E (y6.setCell ⟨b,4,Z⟩ (U O 0)).drew ⟨y5,0,Z⟩=I (R A5 (AJ N3).length a5):=(KF _ _ _ _ hne).trans t0;have u1:E (y6.setCell ⟨b,4,Z⟩ (U O 0)).drew ⟨y5,1,Z⟩=I (R A6 (AJ D3).length a6):=(KF _ _ _ _ hne).trans t1;have f3:(⟨A5,a5,AJ N3,A6,a6,AJ D3⟩:BA).In (y6.setCell ⟨b,4,Z⟩ (U O 0)):=⟨(n5.on al).Du F5 _ _,(n6.on al).Du F6 _ _⟩
 have B7:∀K,K<=b->Ag K w (y6.setCell ⟨b,4,Z⟩ (U O 0)):=fun K hK=>(q6.mono J).setCell (p:=⟨b,4,Z⟩) hK _
 obtain⟨y7,hy7⟩:=Az (y6.setCell ⟨b,4,Z⟩ (U O 0));rw[hy7]at s7 u0 u1 f3 B7 ⊢;clear hy7 q6 q5 q4 al t0 t1 s6 cM n5 n6 b5 b6 F5 F6 m1 m2 m3 n4 c0 c1;have S7:Gv y7.drew b f g:=s7.on (Ae _ _).drew;have f3':=f3.on (w':=y7.drew) (Ae _ _).drew;have k0:=S7.c2;have k1:=S7.c3;obtain⟨z1,z2,z3,z4⟩:=qg (x:=AF g.l) (y:=AF g.m) (a:=N3) (b:=D3) hx hy (Do rb.1 (Do p1 AC)) (Do rb.2 (Do h3 AC));have l7:=Ji (n:=N3) J;have l8:=Ji (n:=D3) J;have cA:=qf g ⟨A5,a5,AJ N3,A6,a6,AJ D3⟩ y7.drew S7.gi f3' (TP hl hm qsm qsm hy0 (by simp[Bu];omega)) (by simp only[Bu];exact z1) (by simp only[Bu];exact z3) (by simp only[Bu];exact z4) (by simp only[Bu];exact z2) (by simp only[Bu];exact I9 hy0 rp);simp only[Bu]at cA;unfold Pa BA.val at cA;obtain⟨X,hX⟩:=Az (rfN (AF g.l*D3+N3*AF g.m) (AF g.m*D3));obtain⟨Bp,hY⟩:=Az (BQ (AF g.l*D3+N3*AF g.m) (AF g.m*D3));have E1:=F (show rfN (AF g.l*BQ (CN*n) d+rfN (CN*n) d*AF g.m) (AF g.m*BQ (CN*n) d)=X by rw[Kx,MB,hX]);have E2:=F (show BQ (AF g.l*BQ (CN*n) d+rfN (CN*n) d*AF g.m) (AF g.m*BQ (CN*n) d)=Bp by rw[Kx,MB,hY]);simp only[hX,hY]at cA;have lb7:b<y7.drew.heap.size:=S7.lt;have HS7:=F S7;clear hx hy hX hY z1 z2 z3 z4 p1 rb rp Kx MB S7 s7 f3 f3' l1 l2 l3 l4 l5 l6;go_wp2_with fail;go_region_with (go_at_call 321;refine cA.mono ?_;rintro e y8⟨v8,v9,rfl,b8,b9,Cv⟩;obtain⟨A8,a8,hv8,n8⟩:=b8.nt;obtain⟨A9,a9,hv9,n9⟩:=b9.nt;subst hv8 hv9;have s8:=HS7.out.on Cv;have e0:=s8.c2;have e1:=s8.c3;have e2:=s8.r2;have e3:=s8.r3)
 all_goals(
  have S8:=HS7.out.on Cv;have S9:=S8.Acm (g':=⟨A8,a8,AJ X,A9,a9,AJ Bp⟩) ⟨n8,n9⟩ (Big.Du b8 lb7) (Big.Du b9 lb7);have lk:∀K,K<=b->K<=y7.drew.heap.size:=fun K hK=>Br hK (EO lb7)
  have B9:=fun K (hK:K<=b)=>((((B7 K hK).drew).trans (Cv.mono (lk K hK))).setCell (p:=⟨b,2,Z⟩) hK (R A8 (AJ X).length a8)).setCell (p:=⟨b,3,Z⟩) hK (R A9 (AJ Bp).length a9)
  clear e0 e1 e2 e3 k0 k1 u0 u1 cA HS7 S8 s8 lk B7;go_wp2_with fail;refine(aW b f _ _ S9).mono ?_;rintro e y9⟨rfl,FL,rfl⟩;go_wp2;go_end0;exact⟨Q,_,FL,(congrArg AJ E1).symm,(congrArg AJ E2).symm,fun K hK=>(B9 K hK).setCell (p:=⟨b,4,Z⟩) hK _⟩)
section
variable{T b n x y:Nat}{w:V}
def Ly(w:V)(b x y T:Nat):Prop:=∃f g:BA,Gv w b f g/\f.l=AJ (rfN x T)/\f.m=AJ (BQ x T)/\g.l=AJ (rfN y T)/\g.m=AJ (BQ y T)
def Ly.on{w':V}(h:Ly w b x y T)(hb:Ag w w w'):Ly w' b x y T:=by
 obtain⟨f,g,h1,h2⟩:=h;exact⟨f,g,h1.on hb,h2⟩
def Ly.lt(h:Ly w b x y T):b<↑w:=by
 obtain⟨f,g,h1,_⟩:=h;exact h1.lt
theorem Aco(T:Nat)(hT:0<T)(w:V):AL AE 310 #[] w fun e w'=>∃b,e=AN (AI (I ⟨b,0,Z⟩))/\Ly w' b 0 0 T/\w.heap.size<=b/\Ag w w w':=by
 refine(Acn w).mono ?_
 grind [AJ,Ly,pO,Xi]
theorem qh{x p n d t:Nat}(hT:0<T)(hd:0<d)(ht:d*t=T):
  rfN (rfN x T*BQ (p*n) d+rfN (p*n) d*BQ x T) (BQ x T*BQ (p*n) d)=rfN (x+p*n*t) T/\BQ (rfN x T*BQ (p*n) d+rfN (p*n) d*BQ x T) (BQ x T*BQ (p*n) d)=BQ (x+p*n*t) T:=by
 have r1:EL (rfN x T) (BQ x T) x T:=UW hT
 have r2:EL (rfN (p*n) d) (BQ (p*n) d) (p*n*t) T:=by
  grind [EL,rfN,BQ,Ab6,UW]
 exact(r1.add r2).rd hT
def Kf(c:Int):Nat:=c.toNat
def Kg(c:Int):Nat:=(-c).toNat
theorem H9(h:n<AZ^4):(AJ n).length<=64:=Br (P7 h) AC
theorem Acp(b x y T n d t:Nat)(c:Int)(w:V)(h:Ly w b x y T)(hc: -65536<=c/\c<=65536)(hn:n<=4096)(hd:d<=4096)(QU:0<d)(ht:d*t=T)(hT:0<T)(hx:x<AZ^4)(hy:y<AZ^4)(Gh:T<AZ^4):
  AL AE 311 #[AI (I ⟨b,0,Z⟩),U O c,U O n,U O d] w fun e w'=>e=AN (Be #[])/\Ly w' b (x+Kf c*n*t) (y+Kg c*n*t) T/\∀K,K<=b->Ag K w w':=by
 obtain⟨f,g,hS,f1,f2,g1,g2⟩:=h;have vf:AF f.l=rfN x T:=by rw[f1,Bu]
 have vm:AF f.m=BQ x T:=by rw[f2,Bu]
 have vg:AF g.l=rfN y T:=by rw[g1,Bu]
 have vn:AF g.m=BQ y T:=by rw[g2,Bu]
 have bx:=JZ x T;have bY:=JZ y T;have px:0<BQ x T:=(Mz hT).2.2.2.2;have py:0<BQ y T:=(Mz hT).2.2.2.2;rcases Int.lt_or_le c 0 with Ajr | YQ
 ·have e1:Kf c=0:=by unfold Kf;omega
  obtain⟨p,hp⟩:∃p:Nat,c=-(p:Int):=⟨(-c).toNat,J⟩
  have e2:Kg c=p:=by unfold Kg;omega
  rw[e1,e2,hp];refine(add_neg b f g p n d w hS J J hn hd QU (by grind [AJ,rfN,BQ,AF,Kf,Kg,H9]) (by grind [AJ,rfN,BQ,AF,Kf,Kg,H9]) J J J).mono ?_
  grind [AJ,rfN,AF,BQ,Ly,Kf,Kg,qh]
 ·have e1:Kg c=0:=by unfold Kg;omega
  obtain⟨p,rfl⟩:=DV YQ;have e2:Kf (p:Int)=p:=by unfold Kf;omega
  rw[e1,e2];refine(add_pos b f g p n d w hS J hn hd QU (by grind [AJ,rfN,BQ,AF,Kg,Kf,H9]) (by grind [AJ,rfN,BQ,AF,Kg,Kf,H9]) J J J).mono ?_
  grind [AJ,rfN,AF,BQ,Ly,Kg,Kf,qh]
def gT(b x y T t:Nat)(a h z:Nat)(c:Int)(w:V)(hS:Ly w b x y T)(hc: -65536<=c/\c<=65536)(hn:h<=4096)(hd:a<=4096)(QU:0<a)(ht:a*t=T)(hT:0<T)(hx:x<AZ^4)(hy:y<AZ^4)(Gh:T<AZ^4):
  AL AE 312 #[.func (.func 311) #[AI (I ⟨b,0,Z⟩)] #[],U O c,Ba #[U O a,U O h,U O z]] w fun e w'=>e=AN (Be #[])/\Ly w' b (x+Kf c*h*t) (y+Kg c*h*t) T/\∀K,K<=b->Ag K w w':=by
 have al:=AB (Ae w w) (N #[U O a,U O h,U O z] 374);have cA:=Acp b x y T h a t c _ (hS.on al) hc hn hd QU ht hT hx hy Gh;have lb:=hS.lt;clear hx hy Gh hc hS;go_in;go_wp2_with fail;refine cA.mono ?_;rintro e w2⟨rfl,s2,hb2⟩;go_wp2;go_end0;exact⟨Q,s2,fun K hK=>(al.mono J).trans (hb2 K hK)⟩
end
def OvR(w w':V)(b m D:Nat)(e:Ending):Prop:=∃v1 v2,e=AN (Be #[Ba #[v1,v2],U O 0])/\Big w' w v1 (rfN m D)/\Big w' w v2 (BQ m D)/\∀K,K<=b->Ag K w w'
def Acq(b x y T d:Nat)(w:V)(hS:Ly w b x y T)(hd:0<d)(Rh:d<=65536)(hT:0<T)(hx:x<AZ^4)(hy:y<AZ^4)(Gh:T<AZ^4)(Pb:x<=y):
  AL AE 313 #[AI (I ⟨b,0,Z⟩),U O d] w fun e w'=>OvR w w' b 0 (T*d) e:=by
 have lb:=hS.lt;have al:=AB (Ae w w) (N #[R Z 0 0,R Z 0 0] 58);obtain⟨f,g,hA,f1,f2,g1,g2⟩:=hS.on al;have bx:=JZ x T;have bY:=JZ y T;have px:0<BQ x T:=(Mz hT).2.2.2.2;have py:0<BQ y T:=(Mz hT).2.2.2.2;have hv:=TP (by rw[f1];exact H9 (Do bx.1 hx)) (by rw[f2];exact H9 (Do bx.2 Gh)) (by rw[g1];exact H9 (Do bY.1 hy)) (by rw[g2];exact H9 (Do bY.2 Gh)) (by rw[f2,Bu];exact px) (by rw[g2,Bu];exact py);have cC:=fun w' (hi:f.In w') (hj:g.In w')=>ZL f g w' hi hj
 have hc:∃o,OB f g=o/\o<=0:=by
  refine⟨_,Q,?_⟩;unfold OB;rw[Bd hv,f1,f2,g1,g2,Bu,Bu,Bu,Bu];have:=((UW (x:=y) hT).le (UW (x:=x) hT) hT).2 Pb;unfold Ey;split
  ·decide
  ·split
   ·decide
   ·omega
 obtain⟨o,ho,ho0⟩:=hc;rw[hv,ho]at cC;unfold BA.val at cC;have F1:=F f1;have F2:=F f2;have G2:=F g2;clear ho hv bx bY px py hx hy Gh f1 f2 g1 g2;go_in;go_upto_region 1 with fail;obtain⟨W,hW⟩:=Az (Ao w (N #[R Z 0 0,R Z 0 0] 58));have r0:E W ⟨w,0,Z⟩=I (R Z 0 0)/\Bo W ⟨w,0,Z⟩=false:=by subst hW;exact⟨by go_simp,by go_simp⟩
 have r1:E W ⟨w,1,Z⟩=I (R Z 0 0)/\Bo W ⟨w,1,Z⟩=false:=by subst hW;exact⟨by go_simp,by go_simp⟩
 rw[hW]at al hA ⊢;clear hW;have A0:=F hA;have A0:=F hA;have L0:=qbw W fun w' hb=>(A0.out.on hb).c0
 have L1:=qbw W fun w' hb=>(A0.out.on hb).c1
 have L2:=qbw W fun w' hb=>(A0.out.on hb).c2
 have L3:=qbw W fun w' hb=>(A0.out.on hb).c3
 have AD:=hA.on (Ae _ _).drew;have cD:=cC W.drew AD.fi AD.gi;clear hA cC AD;go_wp2_with fail;refine qrh W (Ae _ _).drew fun hHeld=>?_
 refine tQ4 0 ?_;refine tQ4 4 ?_;refine url 8 (fun Kk RO=>?_);go_simp;refine gqz cD fun y1 hx1=>?_;have B1:=AH (Ae _ _).drew hx1;go_wp2_with fail;refine RO.out _ _ B1 (fun gU=>?_);clear RO Kk;refine zq ?_;refine tQ4 9 ?_;refine tQ 13 ?_;refine Ce ?_;go_wp2_with fail;have AD1:=(A0.out.on B1).on (Ae _ _).drew;have c4:=AD1.c4;have hbr:=Nat.ne_of_lt lb;have cW:=Lh 1 y1.drew AC;have sr:w.heap.size<W.heap.size:=Ch W _ r0.1;refine Fz (S:=fun w'=>E w' ⟨b,4,Z⟩=I (U O 0)) AG c4 (fun Acr=>?_);refine tQ4 2 ?_;refine url 0 (fun Kk RO=>?_);go_simp;refine cW.mono ?_;rintro e y2⟨v,rfl,bw,hx2⟩;obtain⟨Aw,aw,rfl,nw⟩:=bw.nt;have AD2:=AD1.on hx2;have c4':=AD2.c4;have B2:=AH B1 (AH (Ae _ _).drew hx2);have k0:=AK B2 r0.1;have k1:=AK B2 r1.1;have z0:=(B2.frozen (p:=⟨w,0,Z⟩) sr).trans r0.2;have z1:=(B2.frozen (p:=⟨w,1,Z⟩) sr).trans r1.2;go_wp2_with fail;refine RO.out _ _ c4' (fun qi=>?_);clear RO Kk;refine zq ?_;refine tQ 1 ?_;refine url 6 (fun Kk RO=>?_);go_simp;have c5:E ((y2.setCell ⟨w,0,Z⟩ (R Z 0 0)).setCell ⟨w,1,Z⟩ (R Aw (AJ 1).length aw)) ⟨b,4,Z⟩=I (U O 0):=(KF _ _ _ _ hbr.symm).trans ((KF _ _ _ _ hbr.symm).trans c4');refine RO.out _ _ c5 (fun qj=>?_);clear RO Kk;refine zq ?_;refine zp ?_;refine tQ 7 ?_;refine Ce ?_;have hTd:=I9 hT hd;obtain⟨zN,zD⟩:=pO hTd;have s1:w.heap.size<y1.drew.heap.size:=Ck sr B1.size
 have F1:Big ((y2.setCell ⟨w,0,Z⟩ (R Z 0 0)).setCell ⟨w,1,Z⟩ (R Aw (AJ 1).length aw)) w (R Z 0 0) (rfN 0 (T*d)):=by
  rw[zN];unfold Big;rw[Xi];exact Own.nil
 have F2:Big ((y2.setCell ⟨w,0,Z⟩ (R Z 0 0)).setCell ⟨w,1,Z⟩ (R Aw (AJ 1).length aw)) w (R Aw (AJ 1).length aw) (BQ 0 (T*d)):=by
  rw[zD];exact Big.down (VW bw s1 _ _) (EO s1)
 have F3:=fun K (hK:K<=b)=>(((al.mono (Br hK (EO lb))).trans (B2.mono (Br hK (EO (Nat.lt_trans lb sr))))).setCell (p:=⟨w,0,Z⟩) (Br hK (EO lb)) (R Z 0 0)).setCell (p:=⟨w,1,Z⟩) (Br hK (EO lb)) (R Aw (AJ 1).length aw)
 go_wp2_with fail;refine qti ?_;refine De (v:= Be #[Ba #[R Z 0 0,R Aw (AJ 1).length aw],U O 0]) ?_ Q ⟨_,_,rfl,F1,F2,F3⟩;rw[Jg Q];go_simp
section
variable{B C D D' N' AP b n q x:Nat}{v v1 v2:An}{w y z:V}
def Acs{y a c:Nat}(hx:x<AZ^4)(hy:y<AZ^4)(ha:a<AZ^4)(hc:c<AZ^4):(AJ (x*c-a*y)).length<=64/\(AJ (x*c)).length<=1000/\(AJ (y*c)).length<=64:=by
 have h1:x*c<AZ^8:=by rw[show(8:Nat)=4+4 from rfl,Ou];exact Sx hx hc
 have h3:y*c<AZ^8:=by rw[show(8:Nat)=4+4 from rfl,Ou];exact Sx hy hc
 have h2:x*c-a*y<AZ^8:=Do (Nat.sub_le _ _) h1;exact⟨Br (P7 h2) AC,Br (P7 h1) AC,Br (P7 h3) AC⟩
def ql{d:Nat}(hx:x<AZ^4)(hd:d<=65536):(AJ (x*d)).length<=64:=by
 have h1:x*d<AZ^4*AZ:=Sx hx (Do hd AC);rw[<-LS]at h1;exact Br (P7 h1) AC
theorem Acu{m:Nat}(h:¬m<n):Ey n m<=0:=by
 grind [Ey]
def Acv(hn:0<n):rfN n n=1/\BQ n n=1:=by
 unfold rfN BQ;rw[Nat.gcd_self];exact⟨Nat.div_self hn,Nat.div_self hn⟩
theorem Big.set{g:Nat}(h:Big w B v n)(hne:∀k,v.ownBlock=I k->k≠g)(j:Nat)(u:An):Big (Ai w ⟨g,j,Z⟩ u) B v n:=by
 grind [Big,Own.keep,Le]
def Big.lt(h:Big w B v n):∀k,v.ownBlock=I k->B<=k/\k<↑w:=Cp h
def KG(w:V)(B q AP D:Nat):Prop:=∃v1 v2,(E w ⟨q,0,Z⟩=I v1/\E w ⟨q,1,Z⟩=I v2)/\(Bo w ⟨q,0,Z⟩=false/\Bo w ⟨q,1,Z⟩=false)/\Big w B v1 AP/\Big w B v2 D
def KG.lt(h:KG w B q AP D):q<↑w:=by
 obtain⟨v1,v2,⟨h0,_⟩,_⟩:=h;exact Ch w _ h0
def KG.on{w':V}(h:KG w B q AP D)(hb:Ag w w w'):KG w' B q AP D:=by
 have hl:=h.lt;obtain⟨v1,v2,⟨h0,h1⟩,⟨f0,f1⟩,b1,b2⟩:=h;exact⟨v1,v2,⟨AK hb h0,AK hb h1⟩,⟨(hb.frozen (p:=⟨q,0,Z⟩) hl).trans f0,(hb.frozen (p:=⟨q,1,Z⟩) hl).trans f1⟩,b1.below hb,b2.below hb⟩
def KG.down{B':Nat}(h:KG w B q AP D)(hB:B'<=B):KG w B' q AP D:=by
 obtain⟨v1,v2,hc,hf,b1,b2⟩:=h;exact⟨v1,v2,hc,hf,b1.down hB,b2.down hB⟩
def KG.Du(h:KG w B q AP D)(hb:b<B)(hq:b≠q)(j:Nat)(u:An):KG (Ai w ⟨b,j,Z⟩ u) B q AP D:=by
 obtain⟨v1,v2,⟨h0,h1⟩,⟨f0,f1⟩,b1,b2⟩:=h;have n1:∀k,v1.ownBlock=I k->k≠b:=fun k hk=>by have:=b1.lt k hk;omega
 have n2:∀k,v2.ownBlock=I k->k≠b:=fun k hk=>by have:=b2.lt k hk;omega
 exact⟨v1,v2,⟨(KF _ _ _ _ hq).trans h0,(KF _ _ _ _ hq).trans h1⟩,⟨by rw[GX];exact f0,by rw[GX];exact f1⟩,b1.set n1 _ _,b2.set n2 _ _⟩
def qm{u0 u1:An}(b1:Big y B v1 AP)(b2:Big y B v2 D)(h0:E y ⟨q,0,Z⟩=I u0)(h1:E y ⟨q,1,Z⟩=I u1)(f0:Bo y ⟨q,0,Z⟩=false)(f1:Bo y ⟨q,1,Z⟩=false)(n1:∀k,v1.ownBlock=I k->k≠q)(n2:∀k,v2.ownBlock=I k->k≠q):KG (Ai (Ai y ⟨q,0,Z⟩ v1) ⟨q,1,Z⟩ v2) B q AP D:=by
 refine⟨v1,v2,⟨?_,?_⟩,⟨?_,?_⟩,(b1.set n1 _ _).set n1 _ _,(b2.set n2 _ _).set n2 _ _⟩ <;> go_simp
def Acw(h:KG y B q N' D')(b1:Big y C v1 AP)(b2:Big y C v2 D)(hq:q<C)(hB:B<=C):KG (Ai (Ai y ⟨q,0,Z⟩ v1) ⟨q,1,Z⟩ v2) B q AP D:=by
 obtain⟨u0,u1,⟨h0,h1⟩,⟨f0,f1⟩,_,_⟩:=h;exact(qm b1 b2 h0 h1 f0 f1 (fun k hk=>by have:=b1.lt k hk;omega) (fun k hk=>by have:=b2.lt k hk;omega)).down hB
def Acx(T:TypeId)(b1:Big y B v1 AP)(b2:Big y B v2 D):KG (Ao y (N #[v1,v2] T)) B y AP D:=by
 refine⟨v1,v2,⟨?_,?_⟩,⟨?_,?_⟩,Own.alloc b1 _,Own.alloc b2 _⟩
 all_goals go_simp
def qo(b:Nat)(w:V)(c4:E w ⟨b,4,Z⟩=I (U O 0))(r4:Bo w ⟨b,4,Z⟩=false):AL AE 320 #[AI (I ⟨b,0,Z⟩),U O 0] w fun e w'=>e=AN (Be #[])/\w'=Ai w ⟨b,4,Z⟩ (U O 0):=by
 go_in;go_wp2;go_end0;exact⟨Q,Q⟩
structure Pc(w z:V)(b q AP D:Nat):Prop where
 e4:E z ⟨b,4,Z⟩=I (U O 0)
 f4:Bo z ⟨b,4,Z⟩=false
 r:KG z (w.heap.size+1) q AP D
 c0:E z ⟨w,0,Z⟩=I (R Z 0 0)
 c1:E z ⟨w,1,Z⟩=I (R Z 0 0)
 z0:Bo z ⟨w,0,Z⟩=false
 z1:Bo z ⟨w,1,Z⟩=false
 k:∀K,K<=b->Ag K w z
 lb:b<↑w
 lq:↑w<q
def Pc.on{z':V}(h:Pc w z b q AP D)(hb:Ag z z z'):Pc w z' b q AP D:=by
 obtain⟨e4,f4,r,c0,c1,z0,z1,k,lb,lq⟩:=h;have l4:=Ch z _ e4;have l0:=Ch z _ c0;exact⟨AK hb e4,(hb.frozen (p:=⟨b,4,Z⟩) l4).trans f4,r.on hb,AK hb c0,AK hb c1,(hb.frozen (p:=⟨w,0,Z⟩) l0).trans z0,(hb.frozen (p:=⟨w,1,Z⟩) l0).trans z1,fun K hK=>(k K hK).trans (hb.mono (Br hK (EO l4))),lb,lq⟩
def Pc.note(h:Pc w z b q AP D):Pc w (Ai z ⟨b,4,Z⟩ (U O 0)) b q AP D:=by
 obtain⟨e4,f4,r,c0,c1,z0,z1,k,lb,lq⟩:=h;refine⟨?_,?_,r.Du (Nat.lt_succ_of_lt lb) (Nat.ne_of_lt (Nat.lt_trans lb lq)) _ _,(KF _ _ _ _ (Nat.ne_of_lt lb)).trans c0,(KF _ _ _ _ (Nat.ne_of_lt lb)).trans c1,?_,?_,fun K hK=>(k K hK).setCell (p:=⟨b,4,Z⟩) hK _,lb,lq⟩ <;> go_simp
def Pc.put(h:Pc w z b q AP D)(b1:Big z C v1 N')(b2:Big z C v2 D')(hq:q<C):Pc w (Ai (Ai z ⟨q,0,Z⟩ v1) ⟨q,1,Z⟩ v2) b q N' D':=by
 obtain⟨e4,f4,r,c0,c1,z0,z1,k,lb,lq⟩:=h;have n1:=UY (Nat.lt_trans lb lq);have n2:=UY lq;exact⟨(KF _ _ _ _ n1).trans ((KF _ _ _ _ n1).trans e4),by rw[GX,GX];exact f4,Acw r b1 b2 hq (Br lq (EO hq)),(KF _ _ _ _ n2).trans ((KF _ _ _ _ n2).trans c0),(KF _ _ _ _ n2).trans ((KF _ _ _ _ n2).trans c1),by rw[GX,GX];exact z0,by rw[GX,GX];exact z1,fun K hK=>((k K hK).setCell (p:=⟨q,0,Z⟩) (Br hK (EO (Nat.lt_trans lb lq))) _).setCell (p:=⟨q,1,Z⟩) (Br hK (EO (Nat.lt_trans lb lq))) _,lb,lq⟩
def Pc.done(h:Pc w z b q AP D)(h1:E z ⟨q,0,Z⟩=I v1)(h2:E z ⟨q,1,Z⟩=I v2):Big (Ai (Ai z ⟨w,0,Z⟩ v1) ⟨w,1,Z⟩ v2) w v1 AP/\Big (Ai (Ai z ⟨w,0,Z⟩ v1) ⟨w,1,Z⟩ v2) w v2 D/\∀K,K<=b->Ag K w (Ai (Ai z ⟨w,0,Z⟩ v1) ⟨w,1,Z⟩ v2):=by
 obtain⟨e4,f4,⟨u1,u2,⟨g1,g2⟩,_,b1,b2⟩,c0,c1,z0,z1,k,lb,lq⟩:=h;obtain rfl:u1=v1:=Option.some.inj (g1.symm.trans h1);obtain rfl:u2=v2:=Option.some.inj (g2.symm.trans h2);have n1:∀k,u1.ownBlock=I k->k≠↑w:=fun k hk=>by have:=b1.lt k hk;omega
 have n2:∀k,u2.ownBlock=I k->k≠↑w:=fun k hk=>by have:=b2.lt k hk;omega
 exact⟨((b1.set n1 _ _).set n1 _ _).down (OD _),((b2.set n2 _ _).set n2 _ _).down (OD _),fun K hK=>((k K hK).setCell (p:=⟨w,0,Z⟩) (Br hK (EO lb)) _).setCell (p:=⟨w,1,Z⟩) (Br hK (EO lb)) _⟩
end
def Acy(b x y T d:Nat)(w:V)(hS:Ly w b x y T)(hd:0<d)(Rh:d<=65536)(hT:0<T)(hx:x<AZ^4)(hy:y<AZ^4)(Gh:T<AZ^4)(Pb:y<x):
  AL AE 313 #[AI (I ⟨b,0,Z⟩),U O d] w fun e w'=>OvR w w' b (min (x-y) (T*d)) (T*d) e:=by
 have lb:=hS.lt;have al:=AB (Ae w w) (N #[R Z 0 0,R Z 0 0] 58);obtain⟨f,g,hA,f1,f2,g1,g2⟩:=hS.on al;have bx:=JZ x T;have bY:=JZ y T;have px:0<BQ x T:=(Mz hT).2.2.2.2;have py:0<BQ y T:=(Mz hT).2.2.2.2;have hv:Cq [f,g]=0:=TP (by rw[f1];exact H9 (Do bx.1 hx)) (by rw[f2];exact H9 (Do bx.2 Gh)) (by rw[g1];exact H9 (Do bY.1 hy)) (by rw[g2];exact H9 (Do bY.2 Gh)) (by rw[f2,Bu];exact px) (by rw[g2,Bu];exact py);have cC:=fun w' (hi:f.In w') (hj:g.In w')=>ZL f g w' hi hj
 have rx:EL (AF f.l) (AF f.m) x T:=by rw[f1,f2,Bu,Bu];exact UW hT
 have ry:EL (AF g.l) (AF g.m) y T:=by rw[g1,g2,Bu,Bu];exact UW hT
 have hlt:¬AF f.l*AF g.m<=AF g.l*AF f.m:=fun hh=>by
  have:=(ry.le rx hT).1 hh;omega
 have hc:∃o,OB f g=o/\0<o:=by
  refine⟨1,?_,AC⟩;unfold OB;rw[Bd hv];exact XY (WG hlt)
 obtain⟨o,ho,ho0⟩:=hc;obtain⟨z1,z2,z3⟩:=Acs (x:=AF f.l) (y:=AF f.m) (a:=AF g.l) (c:=AF g.m) (by rw[f1,Bu];exact Do bx.1 hx) (by rw[f2,Bu];exact Do bx.2 Gh) (by rw[g1,Bu];exact Do bY.1 hy) (by rw[g2,Bu];exact Do bY.2 Gh);have cS:=fun w' (hi:f.In w') (hj:g.In w')=>Ack f g w' hi hj hv z1 (EO (WG hlt)) z2 z3 (by rw[f2,g2,Bu,Bu];exact I9 px py)
 rw[hv,ho]at cC;unfold Pa BA.val at cS;unfold BA.val at cC;have rs:=(rx.sub ry).rd hT;rw[rs.1,rs.2]at cS;obtain⟨N0,hN0⟩:=Az (rfN (x-y) T);obtain⟨D0,hD0⟩:=Az (BQ (x-y) T);have rb:=JZ (x-y) T;have pd:0<BQ (x-y) T:=(Mz hT).2.2.2.2;have r3:=(UW (x:=x-y) hT).div hd;rw[hN0,hD0]at rb r3;rw[hD0]at pd;simp only[hN0,hD0]at cS;have hNl:N0<AZ^4:=Do rb.1 (Do (Nat.sub_le _ _) hx);have hDl:D0<AZ^4:=Do rb.2 Gh;have Rr:=F r3;have Nl:=F hNl;have Dl:=F hDl;have pD:=F pd;have CS:=F cS;have HT:=F hT;have HT4:=F Gh;have HX:=F hx;have HXY:=F Pb;have cM:=fun w' A a C c AM e AY f' (h1:Nt w' A a (AJ N0)) (h2:Nt w' C c (AJ D0)) (h3:Nt w' AM e (AJ 1)) (h4:Nt w' AY f' (AJ d))=>aU ⟨A,a,AJ N0,C,c,AJ D0⟩ ⟨AM,e,AJ 1,AY,f',AJ d⟩ w' ⟨h1,h2⟩ ⟨h3,h4⟩ (TP (H9 hNl) (H9 hDl) (H9 AC) (H9 (Do Rh AC)) (by simp only[Bu];exact pd) (by simp only[Bu];exact hd)) (by simp only[Bu,Nat.mul_one];exact H9 hNl) (by simp only[Bu];exact ql hDl Rh) (by simp only[Bu];exact I9 pd hd)
 unfold Pa BA.val at cM;simp only[Bu]at cM;have hTd:0<T*d:=I9 hT hd;have r4:=r3.rd hTd;rw[r4.1,r4.2]at cM;obtain⟨N1,Me⟩:=Az (rfN (x-y) (T*d));obtain⟨D1,hD1⟩:=Az (BQ (x-y) (T*d));have rb1:=JZ (x-y) (T*d);have rp1:=UW (x:=x-y) hTd;simp only[Me,hD1]at cM rb1 rp1;have top:=Ab7 rp1 hTd;have Top:=F top;have qp:N1<AZ^4:=Do rb1.1 (Do (Nat.sub_le _ _) hx);have qt:(AJ D1).length<=64:=Br (Il rb1.2) (ql Gh Rh);have cF:=fun w' A a C c AM e AY f' (h1:Nt w' A a (AJ N1)) (h2:Nt w' C c (AJ D1)) (h3:Nt w' AM e (AJ 1)) (h4:Nt w' AY f' (AJ 1))=>ZL ⟨A,a,AJ N1,C,c,AJ D1⟩ ⟨AM,e,AJ 1,AY,f',AJ 1⟩ w' ⟨h1,h2⟩ ⟨h3,h4⟩
 have CZ:∀A a C c AM e AY f',Cq [⟨A,a,AJ N1,C,c,AJ D1⟩,⟨AM,e,AJ 1,AY,f',AJ 1⟩]=0:=fun A a C c AM e AY f'=>TP (H9 qp) qt (H9 AC) (H9 AC) (by simp only[Bu];exact rp1.1) (by simp only[Bu];decide)
 have hcm:∀A a C c AM e AY f',OB ⟨A,a,AJ N1,C,c,AJ D1⟩ ⟨AM,e,AJ 1,AY,f',AJ 1⟩=Ey N1 D1:=fun A a C c AM e AY f'=>by
  unfold OB;rw[Bd (CZ A a C c AM e AY f')];simp only[Bu,Nat.mul_one,Nat.one_mul]
 simp only[CZ,hcm]at cF;unfold BA.val at cF;have E1:=F Me;have E2:=F hD1;have w1:=fun w'=>Lh 1 w' AC
 have w2:=fun w'=>Lh d w' J
 clear ho hv CZ hcm qp qt top rp1 rb1 Me hD1 r4 hTd bx bY px py hx hy Gh f1 f2 g1 g2 z1 z2 z3 hlt cS rx ry rs hN0 hD0 rb r3 hNl hDl pd Pb hT hS;go_in;go_upto_region 1 with fail;obtain⟨W,hW⟩:=Az (Ao w (N #[R Z 0 0,R Z 0 0] 58));have r0:E W ⟨w,0,Z⟩=I (R Z 0 0)/\Bo W ⟨w,0,Z⟩=false:=by subst hW;exact⟨by go_simp,by go_simp⟩
 have r1:E W ⟨w,1,Z⟩=I (R Z 0 0)/\Bo W ⟨w,1,Z⟩=false:=by subst hW;exact⟨by go_simp,by go_simp⟩
 rw[hW]at al hA ⊢;clear hW;have A0:=F hA;have L0:=qbw W fun w' hb=>(A0.out.on hb).c0
 have L1:=qbw W fun w' hb=>(A0.out.on hb).c1
 have L2:=qbw W fun w' hb=>(A0.out.on hb).c2
 have L3:=qbw W fun w' hb=>(A0.out.on hb).c3
 have AD:Gv W.drew b f g:=hA.on (Ae _ _).drew;have cD:=cC W.drew AD.fi AD.gi;clear hA cC AD;go_wp2_with fail;refine qrh W (Ae _ _).drew fun hHeld=>?_
 refine tQ4 0 ?_;refine tQ4 4 ?_;refine url 8 (fun Kk RO=>?_);go_simp;refine gqz cD fun y1 hx1=>?_;have B1:Ag W W y1:=AH (Ae _ _).drew hx1;go_wp2_with fail;refine RO.out _ _ B1 (fun gU=>?_);clear RO Kk;refine zq ?_;refine tQ4 9 ?_;refine tQ 13 ?_;refine Ce ?_;go_upto_region 4 with fail;have A1:=A0.out.on B1;have q1:∀K,K<=b->Ag K w y1:=fun K hK=>(al.mono (Br hK (EO lb))).trans (B1.mono (Br hK (Br (EO lb) al.size)))
 have r2:E y1 ⟨w,0,Z⟩=I (R Z 0 0)/\Bo y1 ⟨w,0,Z⟩=false:=⟨AK B1 r0.1,(B1.frozen (p:=⟨w,0,Z⟩) (Ch W _ r0.1)).trans r0.2⟩
 have r3:E y1 ⟨w,1,Z⟩=I (R Z 0 0)/\Bo y1 ⟨w,1,Z⟩=false:=⟨AK B1 r1.1,(B1.frozen (p:=⟨w,1,Z⟩) (Ch W _ r1.1)).trans r1.2⟩
 clear L0 L1 L2 L3 cD r0 r1 hHeld gU hx1;have M0:=qbw y1 fun w' hb=>(A1.on hb).c0
 have M1:=qbw y1 fun w' hb=>(A1.on hb).c1
 have M2:=qbw y1 fun w' hb=>(A1.on hb).c2
 have M3:=qbw y1 fun w' hb=>(A1.on hb).c3
 go_cut [8,9] (fun va vb wx=>∃q,va=AI (I ⟨q,0,Z⟩)/\vb=U O 0/\y1.heap.size<=q/\KG wx y1 q N0 D0/\Ag y1 y1 wx)
 case first=>
  refine qrh y1 (Ae _ _).drew fun Acr=>?_
  refine tQ4 0 ?_;refine tQ4 4 ?_;refine I8 [8,12] ?_;refine Dj Q (fun K1 BS=>?_) (Dj Q (fun K1 BS=>?_) GQ)
  ·go_simp
   have AD:=A1.on (w':=y1.drew) (Ae _ _).drew;refine(CS.out y1.drew AD.fi AD.gi).mono ?_;rintro e y2⟨v1,v2,rfl,b1,b2,hx2⟩;obtain⟨A5,a5,rfl,n5⟩:=b1.nt;obtain⟨A6,a6,rfl,n6⟩:=b2.nt;clear n5 n6;have B2:Ag y1 y1 y2:=AH (Ae _ _).drew hx2;have fb:=Acx 58 b1 b2;have F1:=F fb;have Nw:y1.heap.size<=y2.heap.size:=B2.size;clear fb b1 b2 AD;go_wp2_with fail;refine BS.out _ _ B2 (fun qi=>?_);clear BS K1;refine zp ?_;refine tQ2 9 ?_;refine tQ 11 ?_;refine url 12 (fun K2 hK2=>?_);go_simp;have B3:=AB B2 (N #[R Z 0 0,R Z 0 0] 58);refine hK2.out _ _ B3 (fun qj=>?_);clear hK2 K2;refine zp ?_;refine url 13 (fun K3 hK3=>?_);have B4:=AB B2 (N #[R A5 (AJ N0).length a5,R A6 (AJ D0).length a6] 58);have e0:E (y2.alloc (N #[R Z 0 0,R Z 0 0] 58)) ⟨y2,0,Z⟩=I (R Z 0 0):=by go_simp
   have e1:E (y2.alloc (N #[R Z 0 0,R Z 0 0] 58)) ⟨y2,1,Z⟩=I (R Z 0 0):=by go_simp
   have e2:Bo (y2.alloc (N #[R Z 0 0,R Z 0 0] 58)) ⟨y2,0,Z⟩=false:=by go_simp
   have e3:Bo (y2.alloc (N #[R Z 0 0,R Z 0 0] 58)) ⟨y2,1,Z⟩=false:=by go_simp
   go_simp;refine hK3.out _ _ B4 (fun gV=>?_);clear hK3 K3;refine zp ?_;refine tQ 14 ?_;refine Ce ?_;go_wp2;go_meet;exact⟨y2,rfl,rfl,Nw,F1.out,B4⟩
  ·go_simp
   have B2:=AB (Ae y1 y1) (N #[R Z 0 0,R Z 0 0] 58);refine BS.out _ _ B2.drew (fun qi=>?_);clear BS K1;refine zp ?_;refine url 8 (fun K2 hK2=>?_);go_simp;have AD:=A1.on (w':=(y1.alloc (N #[R Z 0 0,R Z 0 0] 58)).drew) B2.drew;have u0:E (y1.alloc (N #[R Z 0 0,R Z 0 0] 58)).drew ⟨y1,0,Z⟩=I (R Z 0 0)/\Bo (y1.alloc (N #[R Z 0 0,R Z 0 0] 58)).drew ⟨y1,0,Z⟩=false:=⟨by go_simp,by go_simp⟩
   have u1:E (y1.alloc (N #[R Z 0 0,R Z 0 0] 58)).drew ⟨y1,1,Z⟩=I (R Z 0 0)/\Bo (y1.alloc (N #[R Z 0 0,R Z 0 0] 58)).drew ⟨y1,1,Z⟩=false:=⟨by go_simp,by go_simp⟩
   refine(CS.out (y1.alloc (N #[R Z 0 0,R Z 0 0] 58)).drew AD.fi AD.gi).mono ?_;rintro e y2⟨v1,v2,rfl,b1,b2,hx2⟩;obtain⟨A5,a5,rfl,n5⟩:=b1.nt;obtain⟨A6,a6,rfl,n6⟩:=b2.nt;clear n5 n6;have B3:Ag y1 y1 y2:=AH B2.drew hx2;have sa:=Ch _ _ u0.1;have t0:=JQ (AK hx2 u0.1) ((hx2.frozen (p:=⟨y1,0,Z⟩) sa).trans u0.2);have t1:=JQ (AK hx2 u1.1) ((hx2.frozen (p:=⟨y1,1,Z⟩) sa).trans u1.2);have F1:=F ((qm (q:=y1.heap.size) b1 b2 t0.1 t1.1 t0.2 t1.2 (fun k hk=>by have:=(b1.lt k hk).1;exact UY (Ck sa this)) (fun k hk=>by have:=(b2.lt k hk).1;exact UY (Ck sa this))).down (EO sa));obtain⟨t2,t3⟩:=t0;obtain⟨t4,t5⟩:=t1;clear b1 b2 AD u0 u1;go_wp2_with fail;refine hK2.out _ _ B3 (fun qj=>?_);clear hK2 K2;refine zp ?_;refine tQ2 9 ?_;refine tQ 11 ?_;refine url 13 (fun K3 hK3=>?_);go_simp;refine hK3.out _ _ ((B3.setCell (p:=⟨y1,0,Z⟩) (Bg _) (R A5 (AJ N0).length a5)).setCell (p:=⟨y1,1,Z⟩) (Bg _) (R A6 (AJ D0).length a6)) (fun gV=>?_);clear hK3 K3;refine zp ?_;refine tQ 14 ?_;refine Ce ?_;go_wp2;go_meet;exact⟨y1,rfl,rfl,Bg _,F1.out,(B3.setCell (p:=⟨y1,0,Z⟩) (Bg _) (R A5 (AJ N0).length a5)).setCell (p:=⟨y1,1,Z⟩) (Bg _) (R A6 (AJ D0).length a6)⟩
 obtain⟨q,rfl,rfl,hq,fb,DT⟩:=hcut;have sW:w.heap.size+1<=y1.heap.size:=Ch _ _ r2.1
 have s0:Pc w wc b q N0 D0:=by
  have A2:=A1.on DT;have l0:=Ch _ _ r2.1;exact⟨A2.c4,A2.r4,fb.down sW,AK DT r2.1,AK DT r3.1,(DT.frozen (p:=⟨w,0,Z⟩) l0).trans r2.2,(DT.frozen (p:=⟨w,1,Z⟩) l0).trans r3.2,fun K hK=>(q1 K hK).trans (DT.mono (Br hK (EO (Ck lb (Nat.le_of_succ_le sW))))),lb,Ck sW hq⟩
 clear M0 M1 M2 M3 A1 A0 CS r2 r3 q1 fb DT hq al B1;go_wp2_with fail;refine(qo b wc s0.e4 s0.f4).mono ?_;rintro e y3⟨rfl,rfl⟩;have s3:=s0.note;obtain⟨y3,hy3⟩:=Az (Ai wc ⟨b,4,Z⟩ (U O 0));rw[hy3]at s3 ⊢;clear hy3 s0;have H3:=F s3;obtain⟨v1,v2,⟨k0,k1⟩,_,b1,b2⟩:=s3.r;obtain⟨A5,a5,rfl,n5⟩:=b1.nt;obtain⟨A6,a6,rfl,n6⟩:=b2.nt;clear b1 b2 s3;have L0:=qbc k0;have L1:=qbc k1;have lq:q<↑y3:=Ch _ _ k0;clear k0 k1;go_upto_region 6 with fail;go_cut [8,9] (fun va vb wx=>va=AI (I ⟨q,0,Z⟩)/\vb=U O 0/\Pc w wx b q N1 D1)
 case first=>
  have tr:True:=trivial;refine Fz (S:=fun _=>True) AG trivial (fun hHeld=>?_);refine tQ 2 ?_;refine I8 [0,1] ?_;refine Dj Q (fun K1 BS=>?_) (Dj Q (fun K1 BS=>?_) GQ)
  ·have k0:=L0 y3.drew (Ae _ _).drew
   have k1:=L1 y3.drew (Ae _ _).drew;go_simp;refine BS.out _ _ trivial (fun IM=>?_);clear BS K1;refine zp ?_;refine url 1 (fun K1 BS=>?_);go_simp;refine(w1 _).mono ?_;rintro e y4⟨v3,rfl,b3,Gc⟩;obtain⟨A7,a7,rfl,n7⟩:=b3.nt;have B4:Ag y3 y3 y4:=AH (Ae _ _).drew Gc;clear b3 Gc;go_wp2_with fail;refine BS.out _ _ trivial (fun IM=>?_);clear BS K1;refine zp ?_;refine url 3 (fun K1 BS=>?_);go_simp;refine(w2 _).mono ?_;rintro e y5⟨v4,rfl,b4,Jp⟩;obtain⟨A8,a8,rfl,n8⟩:=b4.nt;have B5:=AH B4 Jp;have m7:=n7.on Jp;clear b4 n7 Jp;go_wp2_with fail;refine BS.out _ _ trivial (fun IM=>?_);clear BS K1;refine zp ?_;refine tQ 4 ?_;refine url 5 (fun K1 BS=>?_);go_simp;refine(cM y5 A5 a5 A6 a6 A7 a7 A8 a8 (n5.on B5) (n6.on B5) m7 n8).mono ?_;rintro e y6⟨v5,v6,rfl,b5,b6,Mo⟩;obtain⟨A9,a9,rfl,n9⟩:=b5.nt;obtain⟨DM,Li,rfl,n10⟩:=b6.nt;have B6:=AH B5 Mo;have s6:=H3.out.on B6;have s7:=F (s6.put b5 b6 (Ck lq B5.size));obtain⟨_,_,⟨j0,j1⟩,⟨t0,t1⟩,_⟩:=s6.r;clear b5 b6 n9 n10 Mo s6 cM m7 n8 n5 n6 L0 L1;go_wp2_with fail;refine BS.out _ _ trivial (fun gV=>?_);clear BS K1;refine zp ?_;refine tQ2 6 ?_;refine tQ 8 ?_;refine url 9 (fun K1 BS=>?_);go_simp;refine BS.out _ _ trivial (fun IM=>?_);clear BS K1;refine zp ?_;refine tQ 10 ?_;refine Ce ?_;go_wp2;go_meet;exact⟨rfl,rfl,s7.out⟩
  ·go_simp
   refine(w1 _).mono ?_;rintro e y4⟨v3,rfl,b3,Gc⟩;obtain⟨A7,a7,rfl,n7⟩:=b3.nt;have B4:Ag y3 y3 y4:=AH (Ae _ _).drew Gc;clear b3 Gc;go_wp2_with fail;refine BS.out _ _ trivial (fun IM=>?_);clear BS K1;refine zp ?_;refine I8 [0,3] ?_;refine Dj Q (fun K1 BS=>?_) (Dj Q (fun K1 BS=>?_) GQ)
   focus
    have k0:=L0 y4 B4
    have k1:=L1 y4 B4;go_simp;refine BS.out _ _ trivial (fun IM=>?_);clear BS K1;refine zp ?_;refine url 3 (fun K1 BS=>?_);go_simp;refine(w2 _).mono ?_;rintro e y5⟨v4,rfl,b4,Jp⟩;obtain⟨A8,a8,rfl,n8⟩:=b4.nt;have B5:=AH B4 Jp;have m7:=n7.on Jp;clear b4 n7 Jp;go_wp2_with fail;refine BS.out _ _ trivial (fun IM=>?_);clear BS K1;refine zp ?_;refine tQ 4 ?_
   rotate_left
   focus
    go_simp
    refine(w2 _).mono ?_;rintro e y5⟨v4,rfl,b4,Jp⟩;obtain⟨A8,a8,rfl,n8⟩:=b4.nt;have B5:=AH B4 Jp;have m7:=n7.on Jp;clear b4 n7 Jp;go_wp2_with fail;refine BS.out _ _ trivial (fun IM=>?_);clear BS K1;refine zp ?_;refine tQ 4 ?_;refine url 0 (fun K1 BS=>?_);have k0:=L0 y5 B5;have k1:=L1 y5 B5;go_simp;refine BS.out _ _ trivial (fun IM=>?_);clear BS K1;refine zp ?_
   rotate_left
   all_goals
    refine url 5 (fun K1 BS=>?_);go_simp;refine(cM y5 A5 a5 A6 a6 A7 a7 A8 a8 (n5.on B5) (n6.on B5) m7 n8).mono ?_;rintro e y6⟨v5,v6,rfl,b5,b6,Mo⟩;obtain⟨A9,a9,rfl,n9⟩:=b5.nt;obtain⟨DM,Li,rfl,n10⟩:=b6.nt;have B6:=AH B5 Mo;have s6:=H3.out.on B6;have s7:=F (s6.put b5 b6 (Ck lq B5.size));obtain⟨_,_,⟨j0,j1⟩,⟨t0,t1⟩,_⟩:=s6.r;clear b5 b6 n9 n10 Mo s6 cM m7 n8 n5 n6 L0 L1;go_wp2_with fail;refine BS.out _ _ trivial (fun gV=>?_);clear BS K1;refine zp ?_;refine tQ2 6 ?_;refine tQ 8 ?_;refine url 9 (fun K1 BS=>?_);go_simp;refine BS.out _ _ trivial (fun IM=>?_);clear BS K1;refine zp ?_;refine tQ 10 ?_;refine Ce ?_;go_wp2;go_meet;exact⟨rfl,rfl,s7.out⟩
 obtain⟨rfl,rfl,s7⟩:=hcut;clear n5 n6 L0 L1 lq H3 cM w2;go_wp2_with fail;refine(qo b _ s7.e4 s7.f4).mono ?_;rintro e y3⟨rfl,rfl⟩;have s8:=s7.note;obtain⟨y7,hy7⟩:=Az (Ai wc ⟨b,4,Z⟩ (U O 0));rw[hy7]at s8 ⊢;clear hy7 s7;go_wp2_with fail;refine(w1 _).mono ?_;rintro e y8⟨v3,rfl,b3,hx8⟩;obtain⟨A7,a7,rfl,n7⟩:=b3.nt;go_wp2_with fail;refine(w1 _).mono ?_;rintro e y9⟨v4,rfl,b4,hx9⟩;obtain⟨A8,a8,rfl,n8⟩:=b4.nt;have s9:=(s8.on hx8).on hx9;have lq:q<↑y7:=s8.r.lt;have lq9:q<↑y9:=s9.r.lt;have p3:=b3.below hx9;have p4:=b4.down hx8.size;obtain⟨y10,aX⟩:=Az (y9.alloc (N #[R A7 (AJ 1).length a7,R A8 (AJ 1).length a8] 58));have al9:=AB (Ae y9 y9) (N #[R A7 (AJ 1).length a7,R A8 (AJ 1).length a8] 58);have g0:E y10 ⟨y9,0,Z⟩=I (R A7 (AJ 1).length a7):=by subst aX;go_simp
 have g1:E y10 ⟨y9,1,Z⟩=I (R A8 (AJ 1).length a8):=by subst aX;go_simp
 go_upto_region 9 with fail;rw[aX]at al9;clear aX;have s10:=s9.on al9;have m7:=(n7.on hx9).on al9;have m8:=n8.on al9;have p3:=p3.below al9;have p4:=p4.below al9;clear b3 b4 n7 n8 hx8 hx9 w1 s8 s9;obtain⟨v1,v2,⟨k0,k1⟩,⟨t0,t1⟩,b1,b2⟩:=s10.r;obtain⟨A9,a9,rfl,n9⟩:=b1.nt;obtain⟨DM,Li,rfl,n10⟩:=b2.nt;have H10:=F s10;clear b1 b2 s10;go_wp2_with fail;refine gqz (cF y10 A9 a9 DM Li A7 a7 A8 a8 n9 n10 m7 m8) fun y11 T8=>?_;have Ra:=H10.out.on T8;have k2:=AK T8 k0;have k3:=AK T8 k1;have g2:=AK T8 g0;have g3:=AK T8 g1;have t2:=(T8.frozen (p:=⟨q,0,Z⟩) (Ch _ _ k0)).trans t0;have t3:=(T8.frozen (p:=⟨q,1,Z⟩) (Ch _ _ k1)).trans t1;have p5:=p3.below T8;have p6:=p4.below T8;clear k0 k1 g0 g1 t0 t1 p3 p4 cF n9 n10 m7 m8 H10 al9 T8;by_cases hlt:D1<N1
 ·have hc1:Ey N1 D1=1:=XY hlt
  have hm:min (x-y) (T*d)=T*d:=Nat.min_eq_right (EO (Top.out.1 hlt));have one:=Acv (I9 HT hd);have s12:=Ra.put p5 p6 lq;have e0:=s12.e4;have e1:=s12.c0;have e2:=s12.c1;have e3:=s12.z0;have e4:=s12.z1;have S12:=F s12;have HM:=F hm;have ONE:=F one;clear Ra s12 hm one hlt p5 p6;rw[hc1];clear hc1;go_upto_region 12 with fail;have k4:E ((y11.setCell ⟨q,0,Z⟩ (R A7 (AJ 1).length a7)).setCell ⟨q,1,Z⟩ (R A8 (AJ 1).length a8)) ⟨q,0,Z⟩=I (R A7 (AJ 1).length a7):=by go_simp
  have k5:E ((y11.setCell ⟨q,0,Z⟩ (R A7 (AJ 1).length a7)).setCell ⟨q,1,Z⟩ (R A8 (AJ 1).length a8)) ⟨q,1,Z⟩=I (R A8 (AJ 1).length a8):=by go_simp
  obtain⟨y12,qu⟩:=Az ((y11.setCell ⟨q,0,Z⟩ (R A7 (AJ 1).length a7)).setCell ⟨q,1,Z⟩ (R A8 (AJ 1).length a8));rw[qu]at S12 k4 k5 e0 e1 e2 e3 e4 ⊢;clear qu k2 k3 t2 t3 g2 g3;have FF:=S12.out.done k4 k5;have e5:1=rfN (min (x-y) (T*d)) (T*d):=by rw[HM.out,ONE.out.1]
  have e6:1=BQ (min (x-y) (T*d)) (T*d):=by rw[HM.out,ONE.out.2]
  obtain⟨F1,F2,F3⟩:=FF;have F1:=Eq.subst (motive:=fun z=>Big _ _ _ z) e5 F1;have F2:=Eq.subst (motive:=fun z=>Big _ _ _ z) e6 F2;clear e5 e6;go_region
  all_goals(
   go_wp2_with fail;refine qti ?_;refine De (v:= Be #[Ba #[R A7 (AJ 1).length a7,R A8 (AJ 1).length a8],U O 0]) ?_ Q ⟨_,_,rfl,F1,F2,fun K hK=>(F3 K hK).drew⟩;rw[Jg Q];go_simp)
 ·have hc1:Ey N1 D1<=0:=Acu hlt
  have hm:min (x-y) (T*d)=x-y:=Oo (Nat.le_of_not_lt (fun h=>hlt (Top.out.2 h)));have e0:=Ra.e4;have e1:=Ra.c0;have e2:=Ra.c1;have e3:=Ra.z0;have e4:=Ra.z1;have S11:=F Ra;have HM:=F hm;clear Ra hm hlt p5 p6;go_upto_region 12 with fail;clear t2 t3 g2 g3;have FF:=S11.out.done k2 k3;have e5:N1=rfN (min (x-y) (T*d)) (T*d):=by rw[HM.out,E1.out]
  have e6:D1=BQ (min (x-y) (T*d)) (T*d):=by rw[HM.out,E2.out]
  obtain⟨F1,F2,F3⟩:=FF;have F1:=Eq.subst (motive:=fun z=>Big _ _ _ z) e5 F1;have F2:=Eq.subst (motive:=fun z=>Big _ _ _ z) e6 F2;clear e5 e6;go_region
  all_goals(
   go_wp2_with fail;refine qti ?_;refine De (v:= Be #[Ba #[R A9 (AJ N1).length a9,R DM (AJ D1).length Li],U O 0]) ?_ Q ⟨_,_,rfl,F1,F2,fun K hK=>(F3 K hK).drew⟩;rw[Jg Q];go_simp)
def Acz(b x y T d:Nat)(w:V)(hS:Ly w b x y T)(hd:0<d)(Rh:d<=65536)(hT:0<T)(hx:x<AZ^4)(hy:y<AZ^4)(Gh:T<AZ^4):
  AL AE 313 #[AI (I ⟨b,0,Z⟩),U O d] w fun e w'=>OvR w w' b (min (x-y) (T*d)) (T*d) e:=by
 rcases D4 y x with h | h
 ·exact Acy b x y T d w hS hd Rh hT hx hy Gh h
 ·rw[Nat.sub_eq_zero_of_le h,Nat.zero_min]
  exact Acq b x y T d w hS hd Rh hT hx hy Gh h
def aY{fn:Func}{p:Tmp}{ty:TypeId}(h:fn.results=#[.cell p ty])(tmps:Array An)(P:Program)(w:V):
  (results fn tmps).run P w =
   ((asAddr (tmps.getD p undef)).run P w).andThen fun a w₁=>(loadVar ty a).run P w₁:=by
 simp only[results,h];simp[Sem.run_bind,Result.andThen]
def NN(num:Int)(D:Nat):Nat:=(max 0 (min num (D:Int))).toNat
def AcH(A:Option AS)(c:Nat)(l:List Nat)(C:Option AS)(d:Nat)(m:List Nat)(w:V)(hA:Nt w A c l)(hC:Nt w C d m)(hl:Y l<=64)(hm:Y m<=64)(h0:0<AF m):
  AL AE 303 #[R A (Y l) c,R C (Y m) d] w fun e w'=>∃v1 v2,e=AN (Be #[v1,v2,U O 0])/\Big w' w v1 (AF l / AF m)/\Ag w w w':=by
 have cK:=Zs A c l C d m w;have e0:=dN.2 ⟨hl,hm⟩;rw[e0]at cK;have cZ:=Y4 C d m w hC J
 have z0:((E8 (AF m):Int) == 0)=false:=by
  have:=Zx h0;simp;omega
 have cS:=WH A c l C d m w hA hC J J h0;clear e0;go_in;go_wp2_with(first | (go_at_call 180;refine mqv (cK) ?_) | (go_at_call 80;refine mqv (cZ) ?_));refine cS.mono ?_;rintro e w1⟨v1,v2,rfl,b1,b2,hb1⟩;obtain⟨A1,a1,rfl,_⟩:=b1.nt;obtain⟨A2,a2,rfl,_⟩:=b2.nt;go_wp2_with fail;refine De (v:= Be #[R A1 (AJ (AF l / AF m)).length a1,R A2 (AJ (AF l%AF m)).length a2,U O 0]) ?_ Q ⟨_,_,rfl,b1,hb1⟩;unfold results;go_simp
theorem AcI{u:Nat}(h:u<4294967296):bits .or .u64 0 (u:Int)=(u:Int):=by
 have:=u64_or_nat 0 u AC J
 grind
def AcJ(A:Option AS)(c n:Nat)(w:V)(hA:Nt w A c (AJ n))(hn:n<4294967296):
  AL AE 304 #[R A (AJ n).length c] w fun e w'=>e=AN (Be #[U AA n,U O 0])/\w=w':=by
 have cT:=ZA hA;rw[Bu]at cT;have l1:=Ji (n:=n) hn;have cK:=jJ A c (AJ n) w;have k0:Wz (AJ n)=0:=by unfold Wz;rw[AU J]
 rw[k0]at cK;clear k0;rcases Nc n with rfl | hp
 ·have e0:(AJ 0).length=0:=by rw[Xi];rfl
  rw[e0]at cT cK ⊢;clear hA l1 e0;go_in;go_wp2_with(first | (go_at_call 79;refine mqv (cK) ?_) | (go_at_call 129;refine mqv (cT) ?_));go_loop [5,19] (fun x i=>x=U AA 0/\i=U O 0) (fun _ _=>0);exact⟨rfl,rfl⟩
  obtain⟨rfl,rfl⟩:=hrel;go_wp2;go_ret2;exact⟨Q,Q⟩
 ·have e1:(AJ n).length=1:=by
   have:(AJ n).length≠0:=fun e=>by have:=aQ e;omega
   omega
  obtain⟨u,hu⟩:∃u,AJ n=[u]:=List.length_eq_one_iff.1 e1
  have hun:u=n:=by
   have:=Bu n;rw[hu,Oz]at this;exact this
  subst hun;obtain⟨b,off,rfl,_,hc⟩:=hA.arr (by rw[hu];simp)
  have c0:E w ⟨b,off,Z⟩=I (U BF u):=by
   have:=hc 0 u (by rw[hu];rfl) 0 _ Q;simpa using this
  rw[e1]at cT cK ⊢;clear hA l1 e1 hu hc;go_in;go_wp2_with(first | (go_at_call 79;refine mqv (cK) ?_) | (go_at_call 129;refine mqv (cT) ?_));go_loop [5,19] (fun x i=>(x=U AA 0/\i=U O 0)\/(x=U AA u/\i=U O 1)) (fun _ i=>1-(intOf i).toNat);exact .inl ⟨rfl,rfl⟩
  rcases hrel with⟨rfl,rfl⟩ | ⟨rfl,rfl⟩
  ·go_wp2_with fail
   exact⟨.inr ⟨congrArg (Value.int .u64) (AcI hn),rfl⟩,by simp[intOf]⟩
  ·go_wp2_with fail
   go_ret2;exact⟨Q,Q⟩
end Go.Proofs.YtjpidgffdkjjeaaGreat
