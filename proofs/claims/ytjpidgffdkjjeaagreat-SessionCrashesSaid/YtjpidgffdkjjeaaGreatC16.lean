/- Contracts and plain laws. No condition. -/
import Derived.Test.YtjpidgffdkjjeaaGreatCA
import Derived.Test.YtjpidgffdkjjeaaGreatC11
import Derived.Test.YtjpidgffdkjjeaaGreatC12
import Derived.Test.YtjpidgffdkjjeaaGreatC13
import Derived.Test.YtjpidgffdkjjeaaGreatC14
set_option linter.all false
set_option maxHeartbeats 16000000
namespace Go.Proofs.YtjpidgffdkjjeaaGreat
open Go.Proofs.Tryz
open Go.Proofs.Tryz renaming prog->AE
open List renaming length->Y
open Go.World renaming cell?->E,setCell->Ai,alloc->Ao,frozen?->Bo
open Go.Value renaming int->U,slice->R,pointer->AI,agg->Ba,tuple->Be,nilFunc->Bl,bool->Av
open Go.IntKind renaming i64->O,u64->AA,u32->BF,u8->Cd
open Option renaming none->Z,some->I
open Go.Ending renaming returned->AN
open Go.Obj renaming cells->N
open Go renaming World->V,Value->An,Calls->AL,Addr->AS
open Go.RowKit renaming Below->Ag,Hid->Aj
set_option maxRecDepth 100000
open Go.RowKit
def FB(o:Bw)(g:Gn):Int:=256*o.s2*g.h1*g.a0*g.a2-256*o.w2*g.h2*g.a0*g.a1-(o.s2*o.w0-o.w2*o.s0)*g.h0*g.a1*g.a2
def Fa(o:Bw)(g:Gn):Int:=(o.s2*o.w1-o.w2*o.s1)*g.a0*g.a1*g.a2
def NQ(AM num den:Int):Nat:=if AM=0 then rfN (NN num den.toNat) den.toNat else 0
def Lz(AM num den:Int):Nat:=if AM=0 then BQ (NN num den.toNat) den.toNat else 0
def FrP(w w':V)(AP D:Nat)(AM:Int)(e:Ending):Prop:=∃v1 v2,e=AN (Be #[Ba #[v1,v2],U O AM])/\Big w' w v1 AP/\Big w' w v2 D/\Ag w w w'
theorem AcA{x y D:Nat}{num:Int}(h:(x:Int)-(y:Int)=num):min (x-y) D=NN num D:=by grind [NN]
theorem gX{x y:Nat}{num:Int}(h:(x:Int)-(y:Int)=num)(c:Int)(n t:Nat):((x+Kf c*n*t:Nat):Int)-((y+Kg c*n*t:Nat):Int)=num+c*n*t:=by
 grind [Kf,Kg]
theorem Xj{c:Int}(h: -65536<=c/\c<=65536):Kf c<=65536/\Kg c<=65536:=by grind [Kf,Kg]
def gY{p n t:Nat}(hp:p<=65536)(hn:n<=4096)(ht:t<=4096*4096):p*n*t<=65536*4096*(4096*4096):=Nd (Nd hp hn) ht
def qw{a b c:Nat}(ha:a<=4096)(hb:b<=4096)(hc:c<=4096):a*b*c<=4096*4096*4096:=Nd (Nd ha hb) hc
def qx(o:Bw)(g:Gn)(w:V):CC (Ao (Ao (Ao w (N o 54)) (N g 375)) (N #[R Z 0 0,R Z 0 0] 58)) w o/\FQ (Ao (Ao (Ao w (N o 54)) (N g 375)) (N #[R Z 0 0,R Z 0 0] 58)) (w.heap.size+1) g/\(E (Ao (Ao (Ao w (N o 54)) (N g 375)) (N #[R Z 0 0,R Z 0 0] 58)) ⟨↑w+1+1,0,Z⟩=I (R Z 0 0)/\Bo (Ao (Ao (Ao w (N o 54)) (N g 375)) (N #[R Z 0 0,R Z 0 0] 58)) ⟨↑w+1+1,0,Z⟩=false)/\(E (Ao (Ao (Ao w (N o 54)) (N g 375)) (N #[R Z 0 0,R Z 0 0] 58)) ⟨↑w+1+1,1,Z⟩=I (R Z 0 0)/\Bo (Ao (Ao (Ao w (N o 54)) (N g 375)) (N #[R Z 0 0,R Z 0 0] 58)) ⟨↑w+1+1,1,Z⟩=false)/\Ag w w (Ao (Ao (Ao w (N o 54)) (N g 375)) (N #[R Z 0 0,R Z 0 0] 58)):=by
 have b2:=AB (Ae (Ao (Ao w (N o 54)) (N g 375)) (Ao (Ao w (N o 54)) (N g 375))) (N #[R Z 0 0,R Z 0 0] 58);refine⟨CC.on (Uq w _ _) b2,FQ.on (Ur w _ _) b2,⟨?_,?_⟩,⟨?_,?_⟩,AB (AB (AB (Ae w w) _) _) _⟩
 all_goals go_simp
def AcB(o:Bw)(g:Gn)(w:V)(hE:Dw o g≠0):AL AE 301 #[o.val,g.val] w fun e w'=>FrP w w' 0 0 (Dw o g) e:=by
 obtain⟨Gp,IG,r0,r1,hb0⟩:=qx o g w;have cK:=fun w'=>lB o g w'
 unfold Bw.val Bw.cs Gn.val at*;obtain⟨AM,he⟩:=Az (Dw o g);rw[he]at hE ⊢;simp only[he]at cK;have hne:(AM != 0)=true:=qrf bne_iff_ne hE;have Ci:=F Gp;have G5:=F IG;clear hE he Gp IG;go_in;go_upto_region 1 with fail;obtain⟨W,hW⟩:=Az ((Ao (Ao (Ao w (N o 54)) (N g 375)) (N #[R Z 0 0,R Z 0 0] 58)));rw[hW]at hb0 Ci G5 r0 r1 ⊢;clear hW;go_wp2_with(first | (refine qlr 54 Ci underlying54 ?_) | (refine qlr 375 G5 underlying375 ?_));refine gqz (cK _) fun w2 hb2=>?_;have q2:=AH hb0 hb2;have s0:=Ch W _ r0.1;have k0:=AK hb2 r0.1;have k1:=AK hb2 r1.1;have z0:=(hb2.frozen (p:=⟨↑w+1+1,0,Z⟩) s0).trans r0.2;have z1:=(hb2.frozen (p:=⟨↑w+1+1,1,Z⟩) s0).trans r1.2;have B3:=(q2.setCell (p:=⟨↑w+1+1,0,Z⟩) qsm (R Z 0 0)).setCell (p:=⟨↑w+1+1,1,Z⟩) qsm (R Z 0 0);go_wp2_with fail;refine qti ?_;refine De (v:= Be #[Ba #[R Z 0 0,R Z 0 0],U O AM]) ?_ Q ⟨_,_,rfl,Yb _ _,Yb _ _,B3⟩;rw[Jg Q];go_simp
section
variable{a b:Nat}{g:Gn}{o:Bw}{w:V}
theorem aZ(h:Dw o g=0):Ks o=0/\FG o=0/\0<o.s2*o.w1-o.w2*o.s1/\o.s2*o.w3<=o.w2*o.s3:=by
 grind [Ks,FG,Dw]
theorem gZ(h:Dw o g=0):∃a0 h0 x0 a1 h1 x1 a2 h2 x2:Nat,g=⟨a0,h0,x0,a1,h1,x1,a2,h2,x2⟩/\(0<a0/\a0<=4096/\h0<=a0/\x0<=h0)/\(0<a1/\a1<=4096/\h1<=a1/\x1<=h1)/\(0<a2/\a2<=4096/\h2<=a2/\x2<=h2):=by
 have hs:=(aZ h).1;unfold Dw at h;rw[AU (by simp[hs])]at h;split at h
 ·omega
 ·split at h
  ·omega
  ·rename_i GC EU
   have GC:=Xk.1 GC;have EU:=Xk.1 EU;unfold GG at GC;obtain⟨a0,h0,x0,a1,h1,x1,a2,h2,x2⟩:=g;simp only at GC EU;refine⟨a0.toNat,h0.toNat,x0.toNat,a1.toNat,h1.toNat,x1.toNat,a2.toNat,h2.toNat,x2.toNat,?_,?_,?_,?_⟩
   ·grind
   all_goals omega
def i5(h:FG o=0):((0<=o.w0/\o.w0<=256)/\(0<=o.w1/\o.w1<=256)/\(0<=o.w2/\o.w2<=256))/\(0<=o.s0/\o.s0<=256)/\(0<=o.s1/\o.s1<=256)/\(0<=o.s2/\o.s2<=256):=by
 obtain⟨_,h1,h2⟩:=lu h;obtain⟨q0,q1,q2,_⟩:=ZO h1;obtain⟨r0,r1,r2,_⟩:=ZO h2;omega
def AcC{z:V}{B rb AP D:Nat}{v1 v2:An}(b1:Big z B v1 AP)(b2:Big z B v2 D)(NR:rb<B)(hw:↑w<=rb)(hb:Ag w w z):
  Big (Ai (Ai z ⟨rb,0,Z⟩ v1) ⟨rb,1,Z⟩ v2) w v1 AP/\Big (Ai (Ai z ⟨rb,0,Z⟩ v1) ⟨rb,1,Z⟩ v2) w v2 D/\Ag w w (Ai (Ai z ⟨rb,0,Z⟩ v1) ⟨rb,1,Z⟩ v2):=
 ⟨(VW b1 NR _ _).down J,(VW b2 NR _ _).down J,(hb.setCell (p:=⟨rb,0,Z⟩) hw _).setCell (p:=⟨rb,1,Z⟩) hw _⟩
def bh{a0 h0 x0 a1 h1 x1 a2 h2 x2:Nat}(h:FQ w b g)(hg:g=⟨a0,h0,x0,a1,h1,x1,a2,h2,x2⟩):E w ⟨b,0,Z⟩=I (U O a0)/\E w ⟨b,1,Z⟩=I (U O h0)/\E w ⟨b,2,Z⟩=I (U O x0)/\E w ⟨b,3,Z⟩=I (U O a1)/\E w ⟨b,4,Z⟩=I (U O h1)/\E w ⟨b,5,Z⟩=I (U O x1)/\E w ⟨b,6,Z⟩=I (U O a2)/\E w ⟨b,7,Z⟩=I (U O h2)/\E w ⟨b,8,Z⟩=I (U O x2):=by
 subst hg;exact⟨h.y0,h.y1,h.y2,h.y3,h.y4,h.y5,h.y6,h.y7,h.y8⟩
theorem AcD{c:Nat}:b*(a*c)=a*b*c/\c*(a*b)=a*b*c/\a*(b*c)=a*b*c:=⟨by grind,by grind,by grind⟩
def Xl(ha:a<=4096)(hb:b<=4096):a*b<=4096*4096:=Nd ha hb
theorem qy{p1 p2 p3 n1 n2 n3 t1 t2 t3:Nat}(h1:p1<=65536)(h2:p2<=65536)(h3:p3<=65536)(k1:n1<=4096)(k2:n2<=4096)(k3:n3<=4096)(l1:t1<=4096*4096)(l2:t2<=4096*4096)(l3:t3<=4096*4096):
  0+p1*n1*t1<AZ^4/\0+p1*n1*t1+p2*n2*t2<AZ^4/\0+p1*n1*t1+p2*n2*t2+p3*n3*t3<AZ^4:=by
 have e1:=gY h1 k1 l1;have e2:=gY h2 k2 l2;have e3:=gY h3 k3 l3
 grind
theorem AcE(o:Bw)(a0 h0 x0 a1 h1 x1 a2 h2 x2:Nat):FB o ⟨a0,h0,x0,a1,h1,x1,a2,h2,x2⟩=0+256*o.s2*(h1:Int)*((a0*a2:Nat):Int)+-256*o.w2*(h2:Int)*((a0*a1:Nat):Int)+(o.w2*o.s0-o.s2*o.w0)*(h0:Int)*((a1*a2:Nat):Int):=by
 grind [FB]
theorem qz(o:Bw)(a0 h0 x0 a1 h1 x1 a2 h2 x2:Nat)(d:Nat)(hd:o.s2*o.w1-o.w2*o.s1=(d:Int)):(Fa o ⟨a0,h0,x0,a1,h1,x1,a2,h2,x2⟩).toNat=a0*a1*a2*d:=by
 grind [Fa]
def AcF(o:Bw)(g:Gn)(w:V)(hE:Dw o g=0):AL AE 301 #[o.val,g.val] w fun e w'=>FrP w w' (rfN (NN (FB o g) (Fa o g).toNat) (Fa o g).toNat) (BQ (NN (FB o g) (Fa o g).toNat) (Fa o g).toNat) 0 e:=by
 obtain⟨sE,oE,pos,_⟩:=aZ hE;have cK:=fun w'=>lB o g w'
 simp only[hE]at cK;obtain⟨a0,h0,x0,a1,h1,x1,a2,h2,x2,hg,⟨m1,m2,m3,m4⟩,⟨m5,m6,m7,m8⟩,m9,m10,m11,m12⟩:=gZ hE;obtain⟨Gp,IG,r0,r1,hb0⟩:=qx o g w;obtain⟨⟨p0,p1,p2⟩,p3,p4,p5⟩:=i5 oE;obtain⟨P1,Np,u1,u2,u3⟩:=SE p2 p3;obtain⟨P2,PT,u4,u5,u6⟩:=SE p5 p0;obtain⟨P3,hP3,u7,u8,u9⟩:=SE p5 p1;obtain⟨P4,hP4,u10,u11,u12⟩:=SE p2 p4;have eN:=AcE o a0 h0 x0 a1 h1 x1 a2 h2 x2;obtain⟨d,hd⟩:∃d:Nat,P3-P4=(d:Int):=⟨(P3-P4).toNat,by rw[hP3,hP4]at pos;omega⟩
 have eD:=qz o a0 h0 x0 a1 h1 x1 a2 h2 x2 d (by rw[hP3,hP4];exact hd);have d0:0<d:=by rw[hP3,hP4]at pos;omega
 have d1:d<=65536:=J;rw[Np,PT,<-hg]at eN;rw[<-hg]at eD;rw[eD];obtain⟨num,qA⟩:=Az (FB o g);rw[qA]at eN ⊢;have HG:=F hg;clear Np PT hP3 hP4 pos qA eD hE sE oE hg;obtain⟨T,hT⟩:=Az (a0*a1*a2);obtain⟨pt1,pt2,pt3⟩:=AcD (a:=a0) (b:=a1) (c:=a2);rw[hT]at pt1 pt2 pt3 ⊢;have OU:0<T:=by rw[<-hT];exact I9 (I9 m1 m5) m9
 have Gh:T<AZ^4:=by rw[<-hT];exact Do (qw m2 m6 m10) AC
 have b1: -65536<=256*o.s2/\256*o.s2<=65536:=J;have b2: -65536<=-256*o.w2/\-256*o.w2<=65536:=J;have b3: -65536<=P1-P2/\P1-P2<=65536:=J;have o1:h1<=4096:=J;have o2:h2<=4096:=J;have o3:h0<=4096:=J;obtain⟨A1,A2,A3⟩:=qy (Xj b1).1 (Xj b2).1 (Xj b3).1 o1 o2 o3 (Xl m2 m10) (Xl m2 m6) (Xl m6 m10);obtain⟨C1,C2,C3⟩:=qy (Xj b1).2 (Xj b2).2 (Xj b3).2 o1 o2 o3 (Xl m2 m10) (Xl m2 m6) (Xl m6 m10);have t1:=gX (x:=0) (y:=0) (num:=0) Q (256*o.s2) h1 (a0*a2);have t2:=gX t1 (-256*o.w2) h2 (a0*a1);have t3:=gX t2 (P1-P2) h0 (a1*a2);have fin:=AcA (D:=T*d) (t3.trans eN.symm);have c1:=fun b w' hS=>gT b 0 0 T (a0*a2) a1 h1 x1 (256*o.s2) w' hS b1 o1 m6 m5 pt1 OU AC AC Gh
 have c2:=fun b w' hS=>gT b _ _ T (a0*a1) a2 h2 x2 (-256*o.w2) w' hS b2 o2 m10 m9 pt2 OU A1 C1 Gh
 have c3:=fun b w' hS=>gT b _ _ T (a1*a2) a0 h0 x0 (P1-P2) w' hS b3 o3 m2 m1 pt3 OU A2 C2 Gh
 have c4:=fun b w' hS=>Acz b _ _ T d w' hS d0 d1 OU A3 C3 Gh
 rw[fin]at c4;have c0:=fun w'=>Aco T OU w'
 have C1':=F c1;have C2':=F c2;have C3':=F c3;have C4':=F c4;have C0':=F c0;clear c1 c2 c3 c4 c0 fin t1 t2 t3 A1 A2 A3 C1 C2 C3 eN b1 b2 b3 o1 o2 o3 pt1 pt2 pt3 OU Gh hT m1 m2 m3 m4 m5 m6 m7 m8 m9 m10 m11 m12 d0 d1 p0 p1 p3 p4;unfold Bw.val Bw.cs Gn.val at*;have Ci:=F Gp;have G5:=F IG;clear Gp IG;go_in;go_upto_region 1 with fail;obtain⟨W,hW⟩:=Az ((Ao (Ao (Ao w (N o 54)) (N g 375)) (N #[R Z 0 0,R Z 0 0] 58)));rw[hW]at hb0 Ci G5 r0 r1 ⊢;clear hW;go_wp2_with(first | (refine qlr 54 Ci underlying54 ?_) | (refine qlr 375 G5 underlying375 ?_));refine gqz (cK _) fun w2 hb2=>?_;have q2:=AH hb0 hb2;have GF:=Ci.out.on hb2;have RP:=F (G5.out.on hb2);have sR:=Ch W _ r0.1;have j0:=AK hb2 r0.1;have j1:=AK hb2 r1.1;have j2:=(hb2.frozen (p:=⟨↑w+1+1,0,Z⟩) sR).trans r0.2;have j3:=(hb2.frozen (p:=⟨↑w+1+1,1,Z⟩) sR).trans r1.2;have sR2:w.heap.size+1+1<w2.heap.size:=Ch w2 _ j0;have x0':=GF.x0;have L8:=qbw w2 fun w' hb=>(GF.on hb).x8
 have L9:=qbw w2 fun w' hb=>(GF.on hb).x9
 have L10:=qbw w2 fun w' hb=>(GF.on hb).x10
 have L11:=qbw w2 fun w' hb=>(GF.on hb).OE
 have L12:=qbw w2 fun w' hb=>(GF.on hb).x12
 have L13:=qbw w2 fun w' hb=>(GF.on hb).Nm
 have L14:=qbw w2 fun w' hb=>(GF.on hb).x14
 have L15:=qbw w2 fun w' hb=>(GF.on hb).x15
 go_upto_region 4 with fail;go_cut [7,8] (fun va vb wx=>∃g h,va=AI (I ⟨g,0,Z⟩)/\vb=AI (I ⟨h,0,Z⟩)/\TC wx g o.w0 o.w1 o.w2 o.w3/\TC wx h o.s0 o.s1 o.s2 o.s3/\Ag w2 w2 wx)
 case first=>
  go_region_held3 (fun w'=>Ag w2 w2 w')
   (first | (exact(Ae _ _).drew) | (refine AB ?_ _;assumption) | (exact AB (AB (Ae _ _).drew _) _) | (exact AB (Ae _ _).drew _))
   (fail)
  all_goals(
   go_wp2;go_meet
   case rel=>first
    | exact⟨_,_,Q,Q,ZP _ _ _ _ _ _ _ _ _ _,ZQ _ _ _ _ _ _ _ _ _ _,(AB (AB (Ae _ _) _) _).drew⟩
    | exact⟨_,_,Q,Q,ZQ _ _ _ _ _ _ _ _ _ _,ZP _ _ _ _ _ _ _ _ _ _,(AB (AB (Ae _ _) _) _).drew⟩)
 obtain⟨p,q,rfl,rfl,R1,R2,DT⟩:=hcut;have q3:=AH q2 DT;have gt3:=F (RP.out.on DT);have i0:=AK DT j0;have i1:=AK DT j1;have i2:=(DT.frozen (p:=⟨↑w+1+1,0,Z⟩) sR2).trans j2;have i3:=(DT.frozen (p:=⟨↑w+1+1,1,Z⟩) sR2).trans j3;have sC:w.heap.size+1+1<wc.heap.size:=Ch wc _ i0;have RR1:=F R1;have RR2:=F R2;clear x0' cK L8 L9 L10 L11 L12 L13 L14 L15 R1 R2 GF j0 j1 j2 j3 r0 r1 RP Ci G5 DT hb2 sR sR2 q2 hb0;go_wp2_with fail;refine(C0'.out wc).mono ?_;rintro e w4⟨b,rfl,S0,lb,Gc⟩;obtain⟨y0,y1,y2,y3⟩:=RR1.out.on Gc;obtain⟨z0,z1,z2,z3⟩:=RR2.out.on Gc;obtain⟨k0,k1,k2,k3,k4,k5,k6,k7,k8⟩:=bh (gt3.out.on Gc) HG;go_wp2_with fail;refine(C1'.out b w4 S0).mono ?_;rintro e w5⟨rfl,S1,hk5⟩;have B5:=Gc.trans (hk5 wc lb);clear y0 y1 y2 y3 z0 z1 z2 z3 k0 k1 k2 k3 k4 k5 k6 k7 k8;obtain⟨y0,y1,y2,y3⟩:=RR1.out.on B5;obtain⟨z0,z1,z2,z3⟩:=RR2.out.on B5;obtain⟨k0,k1,k2,k3,k4,k5,k6,k7,k8⟩:=bh (gt3.out.on B5) HG;go_wp2_with fail;refine(C2'.out b w5 S1).mono ?_;rintro e w6⟨rfl,S2,hk6⟩;have B6:=B5.trans (hk6 wc lb);clear y0 y1 y2 y3 z0 z1 z2 z3 k0 k1 k2 k3 k4 k5 k6 k7 k8;obtain⟨y0,y1,y2,y3⟩:=RR1.out.on B6;obtain⟨z0,z1,z2,z3⟩:=RR2.out.on B6;obtain⟨k0,k1,k2,k3,k4,k5,k6,k7,k8⟩:=bh (gt3.out.on B6) HG;go_wp2_with fail;refine(C3'.out b w6 S2).mono ?_;rintro e w7⟨rfl,S3,hk7⟩;have B7:=B6.trans (hk7 wc lb);clear y0 y1 y2 y3 z0 z1 z2 z3 k0 k1 k2 k3 k4 k5 k6 k7 k8;obtain⟨y0,y1,y2,y3⟩:=RR1.out.on B7;obtain⟨z0,z1,z2,z3⟩:=RR2.out.on B7;go_wp2_with fail;refine(C4'.out b w7 S3).mono ?_;rintro e w8⟨v1,v2,rfl,b1,b2,hk8⟩;obtain⟨A8,a8,rfl,n8⟩:=b1.nt;obtain⟨A9,a9,rfl,n9⟩:=b2.nt;have B8:=B7.trans (hk8 wc lb);have j0:=AK B8 i0;have j1:=AK B8 i1;have j2:=(B8.frozen (p:=⟨↑w+1+1,0,Z⟩) sC).trans i2;have j3:=(B8.frozen (p:=⟨↑w+1+1,1,Z⟩) sC).trans i3;obtain⟨F1,F2,F3⟩:=AcC b1 b2 (rb:=w.heap.size+1+1) (Ck sC B7.size) J (AH q3 B8);clear y0 y1 y2 y3 z0 z1 z2 z3 i0 i1 i2 i3 n8 n9 S0 S1 S2 S3 hk5 hk6 hk7 hk8 B5 B6 B7 B8 Gc RR1 RR2 gt3 C0' C1' C2' C3' C4';go_wp2_with fail;refine qti ?_;refine De (v:= Be #[Ba #[R A8 (AJ (rfN (NN num (T*d)) (T*d))).length a8,R A9 (AJ (BQ (NN num (T*d)) (T*d))).length a9],U O 0]) ?_ Q ⟨_,_,rfl,F1,F2,F3⟩;rw[Jg Q];go_simp
end
def i6{a b A B:Int}(ha: -A<=a/\a<=A)(hb:0<=b/\b<=B)(hA:0<=A)(hAB:A*B<=4611686018427387904):∃P,a*b=P/\(-(A*B)<=P/\P<=A*B)/\wrap64 (a*b)=P:=by
 have h1:=Int.mul_le_mul_of_nonneg_right ha.2 hb.1;have h2:=Int.mul_le_mul_of_nonneg_right ha.1 hb.1;have h3:=Int.mul_le_mul_of_nonneg_left hb.2 hA;rw[Int.neg_mul]at h2;exact⟨a*b,Q,⟨J,J⟩,Lg _ J⟩
def Xd(w:V)(g:Nat)(a b c:Int):Prop:=E w ⟨g,0,Z⟩=I (U O a)/\E w ⟨g,1,Z⟩=I (U O b)/\E w ⟨g,2,Z⟩=I (U O c)
def al2(y:V)(p q:Obj):((Ao (Ao y p) q).drew.heap[y.heap.size]?=I p)/\((Ao (Ao y p) q).drew.heap[y.heap.size+1]?=I q):=⟨Uq y p q,Ur y p q⟩
theorem AcG{f:Nat}{args:Array An}{w:V}{AM num den:Int}(h1:AM=0->AL AE f args w fun e w'=>FrP w w' (rfN (NN num den.toNat) den.toNat) (BQ (NN num den.toNat) den.toNat) 0 e)(h2:AM≠0->AL AE f args w fun e w'=>FrP w w' 0 0 AM e):AL AE f args w fun e w'=>FrP w w' (NQ AM num den) (Lz AM num den) AM e:=by
 grind [FrP,NQ,Lz,rfN,NN,BQ]
def bi(o:Bw)(g:Gn)(w:V):AL AE 301 #[o.val,g.val] w fun e w'=>FrP w w' (NQ (Dw o g) (FB o g) (Fa o g)) (Lz (Dw o g) (FB o g) (Fa o g)) (Dw o g) e:=AcG (AcF o g w) (AcB o g w)
section
variable{a b:Nat}{g:Gn}{o:Bw}
def RQ(o:Bw)(g:Gn)(n:Int):Int:=if Dw o g≠0 then Dw o g else if 0<=n/\n<=512 then 0 else 3
def Pf(o:Bw)(g:Gn)(n:Int):Nat:=if RQ o g n≠0 then 0 else if g.h2=0 then 0 else min n.toNat (NQ 0 (FB o g) (Fa o g)*(n*o.s1*g.a2).toNat / (Lz 0 (FB o g) (Fa o g)*(256*g.h2).toNat))
theorem AcK(hb:0<b):rfN a b / BQ a b=a / b:=by
 unfold rfN BQ;have hg:0<Nat.gcd a b:=Nat.gcd_pos_of_pos_right _ hb;have e1:=Nat.mul_div_cancel' (Nat.gcd_dvd_left a b);have e2:=Nat.mul_div_cancel' (Xh a b);have:=Nat.mul_div_mul_left (a / Nat.gcd a b) (b / Nat.gcd a b) hg
 grind
theorem AcL(h:a<=b):rfN a b<=BQ a b:=by
 unfold rfN BQ;exact Nat.div_le_div_right h
def AcM(h:Dw o g=0):0<(Fa o g).toNat/\(Fa o g).toNat<AZ^4:=by
 obtain⟨_,oE,pos,_⟩:=aZ h;obtain⟨a0,h0,x0,a1,h1,x1,a2,h2,x2,rfl,⟨m1,m2,m3,m4⟩,⟨m5,m6,m7,m8⟩,m9,m10,m11,m12⟩:=gZ h;obtain⟨⟨p0,p1,p2⟩,p3,p4,p5⟩:=i5 oE;obtain⟨P1,Np,u1,u2,u3⟩:=SE p5 p1;obtain⟨P2,PT,u4,u5,u6⟩:=SE p2 p4;rw[Np,PT]at pos;obtain⟨d,hd⟩:∃d:Nat,P1-P2=(d:Int):=⟨(P1-P2).toNat,J⟩
 rw[qz o a0 h0 x0 a1 h1 x1 a2 h2 x2 d J];have b1:=qw m2 m6 m10;have b2:a0*a1*a2*d<=4096*4096*4096*65536:=Nd b1 J;exact⟨I9 (I9 (I9 m1 m5) m9) J,Do b2 AC⟩
theorem AcN(num:Int)(D:Nat):NN num D<=D:=by grind [NN]
theorem AcO(h:Dw o g=0):NQ 0 (FB o g) (Fa o g)<=Lz 0 (FB o g) (Fa o g)/\0<Lz 0 (FB o g) (Fa o g)/\Lz 0 (FB o g) (Fa o g)<AZ^4:=by
 obtain⟨h1,h2⟩:=AcM h;unfold NQ Lz
 grind [rfN,NN,FB,Fa,BQ,Dw,AcL,AcN,Mz,JZ]
def bu{x y:Nat}(hx:x<AZ^4)(hy:y<AZ):(AJ (x*y)).length<=64:=by
 have h1:=Sx hx hy;rw[<-LS]at h1;exact Br (P7 h1) AC
theorem AcP{AP D X H:Nat}(hN:AP<=D)(hD:0<D):AP*X / (D*H)<=X:=by
 rcases Nc H with rfl | hH
 ·grind
 ·refine Nat.div_le_of_le_mul ?_
  have h1:=PX X hN;have h2:=PX X (Vt D hH);omega
def bz(o:Bw)(g:Gn)(w:V):CC (Ao (Ao w (N o 54)) (N g 375)) w o/\FQ (Ao (Ao w (N o 54)) (N g 375)) (w.heap.size+1) g/\Ag w w (Ao (Ao w (N o 54)) (N g 375)):=
 ⟨Uq w _ _,Ur w _ _,AB (AB (Ae w w) _) _⟩
def AcQ(o:Bw)(g:Gn)(n:Int)(w:V)(hE:Dw o g≠0):AL AE 273 #[o.val,g.val,U O n] w fun e w'=>e=AN (Be #[U O 0,U O (Dw o g)])/\Ag w w w':=by
 have cK:=fun w'=>bi o g w'
 unfold Bw.val Bw.cs Gn.val FrP at cK;obtain⟨AM,he⟩:=Az (Dw o g);rw[he]at hE ⊢;simp only[he]at cK;obtain⟨AP,hN⟩:=Az (NQ AM (FB o g) (Fa o g));obtain⟨D,hD⟩:=Az (Lz AM (FB o g) (Fa o g));simp only[hN,hD]at cK;have hne:(AM != 0)=true:=qrf bne_iff_ne hE;clear hE he hN hD;obtain⟨Gp,IG,hb0⟩:=bz o g w;unfold Bw.val Bw.cs Gn.val;have Ci:=F Gp;have G5:=F IG;clear Gp IG;go_in;go_upto_region 1 with fail;obtain⟨W,hW⟩:=Az ((Ao (Ao w (N o 54)) (N g 375)));rw[hW]at hb0 Ci G5 ⊢;clear hW;go_wp2_with(first | (refine qlr 54 Ci underlying54 ?_) | (refine qlr 375 G5 underlying375 ?_));refine(cK _).mono ?_;rintro e w2⟨v1,v2,rfl,b1,b2,hb2⟩;obtain⟨A1,LA,rfl,n1⟩:=b1.nt;obtain⟨A2,LB,rfl,n2⟩:=b2.nt;have q2:=AH hb0 hb2;have al:=AB q2 (N #[R A1 (AJ AP).length LA,R A2 (AJ D).length LB] 58);clear n1 n2 b1 b2 cK;go_wp2_with fail;refine De (v:= Be #[U O 0,U O AM]) ?_ Q ⟨rfl,al⟩;unfold results;go_simp
def AcR(o:Bw)(g:Gn)(n:Int)(w:V)(hE:Dw o g=0)(hn:¬(0<=n/\n<=512)):AL AE 273 #[o.val,g.val,U O n] w fun e w'=>e=AN (Be #[U O 0,U O 3])/\Ag w w w':=by
 have cK:=fun w'=>bi o g w'
 unfold Bw.val Bw.cs Gn.val FrP at cK;simp only[hE]at cK;obtain⟨AP,hN⟩:=Az (NQ 0 (FB o g) (Fa o g));obtain⟨D,hD⟩:=Az (Lz 0 (FB o g) (Fa o g));simp only[hN,hD]at cK;have hb:AR n 0 512=false:=by unfold AR;simp;omega
 clear hE hN hD hn;obtain⟨Gp,IG,hb0⟩:=bz o g w;unfold Bw.val Bw.cs Gn.val;have Ci:=F Gp;have G5:=F IG;clear Gp IG;go_in;go_upto_region 1 with fail;obtain⟨W,hW⟩:=Az ((Ao (Ao w (N o 54)) (N g 375)));rw[hW]at hb0 Ci G5 ⊢;clear hW;go_wp2_with(first | (refine qlr 54 Ci underlying54 ?_) | (refine qlr 375 G5 underlying375 ?_));refine(cK _).mono ?_;rintro e w2⟨v1,v2,rfl,b1,b2,hb2⟩;obtain⟨A1,LA,rfl,n1⟩:=b1.nt;obtain⟨A2,LB,rfl,n2⟩:=b2.nt;have q2:=AH hb0 hb2;have al:=AB q2 (N #[R A1 (AJ AP).length LA,R A2 (AJ D).length LB] 58);clear n1 n2 b1 b2 cK;go_wp2_with(first | (go_at_call 89;refine mqv (DJ n 0 512 _) ?_;rw[hb]));refine De (v:= Be #[U O 0,U O 3]) ?_ Q ⟨rfl,al⟩;unfold results;go_simp
def AcS(o:Bw)(g:Gn)(n:Int)(w:V)(hE:Dw o g=0)(hn:0<=n/\n<=512)(hz:g.h2=0):AL AE 273 #[o.val,g.val,U O n] w fun e w'=>e=AN (Be #[U O 0,U O 0])/\Ag w w w':=by
 have cK:=fun w'=>bi o g w'
 unfold Bw.val Bw.cs Gn.val FrP at cK;simp only[hE]at cK;obtain⟨AP,hN⟩:=Az (NQ 0 (FB o g) (Fa o g));obtain⟨D,hD⟩:=Az (Lz 0 (FB o g) (Fa o g));simp only[hN,hD]at cK;have hb:AR n 0 512=true:=by unfold AR;simp;omega
 have HZ:=F hz;clear hE hN hD hn hz;obtain⟨Gp,IG,hb0⟩:=bz o g w;unfold Bw.val Bw.cs Gn.val;have Ci:=F Gp;have G5:=F IG;clear Gp IG;go_in;go_upto_region 1 with fail;obtain⟨W,hW⟩:=Az ((Ao (Ao w (N o 54)) (N g 375)));rw[hW]at hb0 Ci G5 ⊢;clear hW;go_wp2_with(first | (refine qlr 54 Ci underlying54 ?_) | (refine qlr 375 G5 underlying375 ?_));refine(cK _).mono ?_;rintro e w2⟨v1,v2,rfl,b1,b2,hb2⟩;obtain⟨A1,LA,rfl,n1⟩:=b1.nt;obtain⟨A2,LB,rfl,n2⟩:=b2.nt;have q2:=AH hb0 hb2;have al:=AB q2 (N #[R A1 (AJ AP).length LA,R A2 (AJ D).length LB] 58);have al2:=AB al (N #[U O g.a2,U O g.h2,U O g.x2] 374);have RP:=G5.out.on (hb2.trans (AB (Ae w2 w2) (N #[R A1 (AJ AP).length LA,R A2 (AJ D).length LB] 58) |>.mono hb2.size));have k6:=RP.y6;have k7:=RP.y7;have k8:=RP.y8;clear n1 n2 b1 b2 cK RP hb2 q2;rw[HZ.out]at k7 al2;go_wp2_with(first | (go_at_call 89;refine mqv (DJ n 0 512 _) ?_;rw[hb]));refine De (v:= Be #[U O 0,U O 0]) ?_ Q ⟨rfl,al2⟩;unfold results;go_simp
end
def AgP(x:Ca × Bool):∀u∈RF x,u.oneCell'=true:=by simp[RF,Value.oneCell']
def CA.AgQ(c:CA):Y c.enc=4:=Q
def Aj0:(prog.info? 181).map (fun i=>(i.zero,i.size,i.bytes))=I (I (Ba #[U O 0,U O 0]),2,16):=AG
def Clone_item:ClC 127 181 2 C8.enc:=by
 have uT:=underlying68;have hI:=Aj0;have SH:=C8.BY;have on:=C8.one;have fF:=func127;have Qb:=ntmps127;exact clW
def AgR:(prog.info? 251).map (fun i=>(i.zero,i.size,i.bytes))=I (I (Ba #[U O 0,U O 0,U O 0,Av false]),4,32):=AG
def AgS:ClC 152 251 4 RF:=by
 have uT:=Tryz.underlying243;have hI:=AgR;have SH:=YC;have on:=AgP;have fF:=func152;have Qb:=ntmps152;exact clW
open Go.Maps Go.Sort Go.Shelf
def AgT(mb:Nat)(t:List (Ca × Bool))(w:V)(h:FX w mb t):AL AE 151 #[.map (I mb)] w fun e w'=>∃M,e=AN (.map (I M))/\w.heap.size<=M/\FX w' M t/\Ag w w w':=by
 obtain⟨D,hD⟩:=h;refine(AnyW.maps_Clone_owns cloneQ 245 _ mb (Y t) D w hD.own).mono ?_;rintro e w'⟨rfl,o1,_,hb⟩;exact⟨_,Q,Bg _,⟨D,o1,hD.has,hD.miss,hD.at_,hD.low,hD.nod⟩,hb⟩
def sZ:Array An:=#[Av false,U O 0,U O 0,U AA 0,R Z 0 0,R Z 0 0,R Z 0 0,.map Z,R Z 0 0,U O 0,Av false,U O 0,U O 0,Av false,U O 0,U O 0,U O 0,Av false,U O 0,U O 0,U O 0,Av false]
def BG(w:V)(c:Cas)(m:BP)(M:Mem)(h:Cj w c m M)(hl:Y m.b<=100000)(ht:Y m.told<=3000000000):AL AE 102 #[AI (I ⟨M.g,0,Z⟩)] w fun e w'=>∃M',e=AN (AI (I ⟨M'.g,0,Z⟩))/\Cj w' c m M'/\Ag w w w'/\(∀k,M'.T k->w.heap.size<=k)/\M'.lo=M.lo/\M'.hi=M.hi:=by
 have x0:E w ⟨M.g,0,Z⟩=I (Av true):=h.Cx 0;have cV:=YJ M.g w x0;have hsz:(prog.info? 247).map (·.size)=I (M.cs c m).size:=(qiz 247 22)
 have hC:=fun(j:Nat) (v:An) (hv:(M.cs c m)[j]?=I v)=>(h.Cx j).trans hv
 obtain⟨A,kA,FU,lA,mA,nA,arA⟩:=h.b.form Dk;obtain⟨T,kT,ST,lT,mT,nT,arT⟩:=h.tv.form YC;have FE:(M.cs c m).all (·.oneCell')=true:=by simp[Mem.cs,FU,ST,Value.oneCell']
 go_in;go_upto_region 3 with(go_at_call 150;refine mqv (cV) ?_)
 refine wp_region_lit ?_;go_upto_region 4 with(first | (refine JN 247 _ rfl M.g 0 rfl (M.cs c m) _ (fun j v hv=>by rw[EE];exact hC j v hv) underlying247 rfl hsz (by rfl) ?_) | (refine Great.wpList_allocTo rfl (I 3) rfl (AI (I ⟨w,0,Z⟩)) (N sZ 247) AG ?_) | (refine Mc rfl 247 _ _ rfl w (M.cs c m) AG AG 247 sZ (CB w _) hsz rfl FE ?_))
 rw[World.setRow_alloc_new];refine zp ?_;have q1:=AB (Ae w w) (N (M.cs c m) 247);have R1:(Ao w (N (M.cs c m) 247)).heap[w.heap.size]?=I (N (M.cs c m) 247 (0,0)):=CB w _;have Qd:↑w<(Ao w (N (M.cs c m) 247)).heap.size:=AO;obtain⟨w1,BJ⟩:=Az (Ao w (N (M.cs c m) 247));obtain⟨B,hB⟩:=Az (w.heap.size);rw[BJ]at q1 R1 Qd ⊢;rw[hB]at R1 Qd ⊢;clear BJ x0 cV hC;have h1:=h.on q1;have x6:E w1 ⟨M.g,6,Z⟩=I (R A (Y m.b) kA):=qrb FU (h1.Cx 6);have cC:=Yp A kA m.b w1 (arA.on q1) nA lA mA hl;go_wp2_with fail;refine cC.mono ?_;rintro e w2⟨v1,rfl,Ii,hb2⟩;obtain⟨A1,k1,rfl,-,-,-,-⟩:=Ii.form Dk;have q2:=AH q1 hb2;have R2:=(hb2.block B (Bm.1 R1).1).trans R1;have y6:=AX w2 B 6 _ _ _ R2;have f6:=CJ w2 B 6 _ _ R2;have n1:∀g,(Value.slice A1 (Y m.b) k1).ownBlock=I g->g≠B:=fun g hg=>by have:=(Cp Ii g hg).1;omega
 have R3:=CM w2 B 6 _ _ (R A1 (Y m.b) k1) R2
 have Fm:=Own.keep Ii (Fo w2 B 6 (R A1 (Y m.b) k1)) (by
  cases hg:(Value.slice A1 (Y m.b) k1).ownBlock with
  | none=>exact .inl Q
  | some g=>exact .inr (by have:=n1 g hg;simp;exact this))
 have q3:=q2.setCell (p:=⟨B,6,Z⟩) (by rw[<-hB];exact Bg _) (R A1 (Y m.b) k1);clear x6 cC Ii;go_upto_region 5 with fail;obtain⟨w3,hw3⟩:=Az (Ai w2 ⟨B,6,Z⟩ (R A1 (Y m.b) k1));rw[hw3]at R3 Fm q3 ⊢;clear hw3 y6 f6 R2;have h3:=h.on q3;have x7:E w3 ⟨M.g,7,Z⟩=I (.map (I M.mb)):=h3.Cx 7;have cM:=AgT M.mb m.told w3 h3.kn;go_wp2_with fail;refine cM.mono ?_;rintro e w4⟨m2,rfl,Nh,kn4,hb4⟩;have q4:=AH q3 hb4;have R4:=(hb4.block B (Bm.1 R3).1).trans R3;have y7:=AX w4 B 7 _ _ _ R4;have f7:=CJ w4 B 7 _ _ R4;have hB3:=(Bm.1 R3).1;have R5:=CM w4 B 7 _ _ (.map (I m2)) R4
 have NC:=Own.keep (Own.below Fm hb4) (Fo w4 B 7 (.map (I m2))) (by
  cases hg:(Value.slice A1 (Y m.b) k1).ownBlock with
  | none=>exact .inl Q
  | some g=>exact .inr (by have:=n1 g hg;simp;exact this))
 have kn5:=kn4.kept (Fo w4 B 7 (.map (I m2))) qsm;have q5:=q4.setCell (p:=⟨B,7,Z⟩) (by rw[<-hB];exact Bg _) (.map (I m2));clear x7 cM Fm kn4;go_upto_region 6 with fail;obtain⟨w5,Ct⟩:=Az (Ai w4 ⟨B,7,Z⟩ (.map (I m2)));rw[Ct]at R5 NC q5 kn5 ⊢;clear Ct y7 f7 R4 R3;have h5:=h.on q5;have x8:E w5 ⟨M.g,8,Z⟩=I (R T (Y m.told) kT):=qrb ST (h5.Cx 8);have cT:=AgS T kT m.told w5 (arT.on q5) nT lT ht;go_wp2_with fail;refine cT.mono ?_;rintro e w6⟨v3,rfl,ow6,BV⟩;obtain⟨T1,k3,rfl,-,-,-,-⟩:=ow6.form YC;have q6:=AH q5 BV;have R6:=(BV.block B (Bm.1 R5).1).trans R5;have y8:=AX w6 B 8 _ _ _ R6;have f8:=CJ w6 B 8 _ _ R6;have R7:=CM w6 B 8 _ _ (R T1 (Y m.told) k3) R6;have hB5:=(Bm.1 R5).1;have n3:∀g,(Value.slice T1 (Y m.told) k3).ownBlock=I g->w5.heap.size<=g:=fun g hg=>(Cp ow6 g hg).1
 have g8:=Fo w6 B 8 (R T1 (Y m.told) k3)
 have OY:=Own.keep (Own.below NC BV) g8 (by
  cases hg:(Value.slice A1 (Y m.b) k1).ownBlock with
  | none=>exact .inl Q
  | some g=>exact .inr (by have:=n1 g hg;simp;exact this))
 have ow8:=Own.keep ow6 g8 (by
  cases hg:(Value.slice T1 (Y m.told) k3).ownBlock with
  | none=>exact .inl Q
  | some g=>exact .inr (by have:=n3 g hg;simp;omega))
 have kn7:=(kn5.kept (Db BV) AO).kept g8 qsm;have q7:=q6.setCell (p:=⟨B,8,Z⟩) (by rw[<-hB];exact Bg _) (R T1 (Y m.told) k3);have hm3:B<m2:=J;have l1:∀g,(Value.slice A1 (Y m.b) k1).ownBlock=I g->w.heap.size<=g:=fun g hg=>by have:=(Cp OY g hg).1;omega
 have hh:=h.rows.hi;go_wp2;go_ret;have rr:=h.rows.keep (S:=fun _=>False) (AT.of q7) (fun k hk=>hk.elim);refine⟨{M with g:=B,bv:= R A1 (Y m.b) k1,mb:=m2,tv:= R T1 (Y m.told) k3},Q,⟨R7,⟨rr.hi,rr.ob,rr.kb,rr.oc,rr.kc,rr.ord,rr.blk⟩,OY.lift (BM _),ow8.lift (BM _),kn7,.inr (by show M.hi<=B;omega),.inr (by show M.hi<=m2;omega),fun k hk=> .inr (by have:=l1 k hk;show M.hi<=k;omega),fun k hk=> .inr (by have:=n3 k hk;have:=q5.size;show M.hi<=k;omega)⟩,q7,fun k hk=>?_,Q,Q⟩;rcases hk with hk | hk | hk | hk
 ·exact Nat.le_of_eq (hB.trans hk.symm)
 ·exact l1 k hk
 ·have hk2:k=m2:=hk
  omega
 ·have:=n3 k hk
  have:=q5.size;omega
def AgU(w:V):AL AE 102 #[AI Z] w fun e w'=>e=AN (AI Z)/\w=w':=by
 go_in;go_wp2;go_ret;exact⟨Q,Q⟩
def dC{a b:Int}(h:wrap64 a=b):IntKind.i64.wrap a=b:=by rw[IntKind.wrap_i64];unfold wrap64 at h;omega
def Big.AhQ{w:V}{B n b:Nat}{A:Option AS}{k c:Nat}(h:Big w B (R A k c) n)(hb:↑w<=b):Ke A b:=fun a ha=>by
 subst ha;have:=(Cp h a.block Q).2;omega
def uj{y:V}{q X H a3 a4:Nat}{A3 A4:Option AS}{u0 u1:An}(n3:Nt y A3 a3 (AJ X))(n4:Nt y A4 a4 (AJ H))(f3:Ke A3 q)(f4:Ke A4 q)(e0:E y ⟨q,0,Z⟩=I u0)(e1:E y ⟨q,1,Z⟩=I u1):
  E (Ai (Ai y ⟨q,0,Z⟩ (R A3 (AJ X).length a3)) ⟨q,1,Z⟩ (R A4 (AJ H).length a4)) ⟨q,0,Z⟩=I (R A3 (AJ X).length a3)/\E (Ai (Ai y ⟨q,0,Z⟩ (R A3 (AJ X).length a3)) ⟨q,1,Z⟩ (R A4 (AJ H).length a4)) ⟨q,1,Z⟩=I (R A4 (AJ H).length a4)/\Nt (Ai (Ai y ⟨q,0,Z⟩ (R A3 (AJ X).length a3)) ⟨q,1,Z⟩ (R A4 (AJ H).length a4)) A3 a3 (AJ X)/\Nt (Ai (Ai y ⟨q,0,Z⟩ (R A3 (AJ X).length a3)) ⟨q,1,Z⟩ (R A4 (AJ H).length a4)) A4 a4 (AJ H):=by
 refine⟨?_,?_,(n3.Du f3 _ _).Du f3 _ _,(n4.Du f4 _ _).Du f4 _ _⟩ <;> go_simp
def AhR{K X:Nat}(h:K<=X)(hX:X<=536870912):IntKind.i64.wrap (K:Int)=(K:Int):=by rw[IntKind.wrap_i64];omega
def AhS(o:Bw)(g:Gn)(n:Int)(w:V)(hE:Dw o g=0)(hn:0<=n/\n<=512)(hz:g.h2≠0):AL AE 273 #[o.val,g.val,U O n] w fun e w'=>e=AN (Be #[U O ((min n.toNat (NQ 0 (FB o g) (Fa o g)*(n*o.s1*g.a2).toNat / (Lz 0 (FB o g) (Fa o g)*(256*g.h2).toNat)):Nat):Int),U O 0])/\Ag w w w':=by
 have cK:=fun w'=>bi o g w'
 obtain⟨ys1,ys2,ys3⟩:=AcO hE;obtain⟨sE,oE,pos,_⟩:=aZ hE;obtain⟨_,q3,q4,q5⟩:=i5 oE;obtain⟨a0,h0,x0,a1,h1,x1,a2,h2,x2,hg,⟨m1,m2,m3,m4⟩,⟨m5,m6,m7,m8⟩,m9,m10,m11,m12⟩:=gZ hE;have e1:g.a2=(a2:Int):=by rw[hg]
 have e2:g.h2=(h2:Int):=by rw[hg]
 have h2p:0<h2:=J;obtain⟨m,rfl⟩:=DV hn.1;have hm:m<=512:=J;have ca2:0<=(a2:Int)/\(a2:Int)<=4096:=J;have ch2:0<=(h2:Int)/\(h2:Int)<=4096:=J;obtain⟨P1,Np,v1,i1⟩:=i6 (a:=(m:Int)) (b:=o.s1) (A:=512) (B:=256) J q4 AC AC;obtain⟨P2,PT,v2,i2⟩:=i6 (a:=P1) (b:=(a2:Int)) (A:=512*256) (B:=4096) v1 ca2 AC AC;obtain⟨P3,hP3,v3,i3⟩:=i6 (a:=256) (b:=(h2:Int)) (A:=256) (B:=4096) AC ch2 AC AC;have hX0:0<=P2:=by rw[<-PT,<-Np];exact Int.mul_nonneg (Int.mul_nonneg J q4.1) ca2.1
 obtain⟨X,hX⟩:=DV hX0;obtain⟨H,hH⟩:∃H:Nat,P3=(H:Int):=⟨P3.toNat,J⟩
 have bX:X<=536870912:=J;have bH:0<H/\H<=1048576:=J;have eX:((m:Int)*o.s1*g.a2).toNat=X:=by rw[e1,Np,PT,hX];rfl
 have eH:(256*g.h2).toNat=H:=by rw[e2,hP3,hH];rfl
 rw[eX,eH,show((m:Int)).toNat=m from rfl];rw[hX]at i2;rw[hH]at i3;have j1:IntKind.i64.wrap ((m:Int)*o.s1)=P1:=dC i1;have j2:IntKind.i64.wrap (P1*(a2:Int))=(X:Int):=dC i2;have j3:IntKind.i64.wrap (256*(h2:Int))=(H:Int):=dC i3;unfold Bw.val Bw.cs Gn.val FrP at cK;simp only[hE]at cK;obtain⟨AP,hN⟩:=Az (NQ 0 (FB o g) (Fa o g));obtain⟨D,hD⟩:=Az (Lz 0 (FB o g) (Fa o g));simp only[hN,hD]at cK;rw[hN,hD]at ys1 ⊢;rw[hD]at ys2 ys3;have hN4:AP<AZ^4:=Do ys1 ys3;have hXb:X<AZ:=by unfold AZ;omega
 have hHb:H<AZ:=by unfold AZ;omega
 have hb:AR (m:Int) 0 512=true:=by unfold AR;simp;omega
 have HG:=F hg;have hz':((h2:Int) == 0)=false:=by simp;omega
 clear Np PT hP3 hX hH hX0 eX eH v1 v2 v3 hE hN hD sE oE pos hz hg e1 e2 m1 m2 m3 m4 m5 m6 m7 m8 m9 m10 m11 m12 ca2 ch2 q3 q4 q5 hn;have cV1:=fun w'=>Lh X w' J
 have cV2:=fun w'=>Lh H w' J
 have cM:=fun w' A a C c AM e AY f' (h1:Nt w' A a (AJ AP)) (h2:Nt w' C c (AJ D)) (h3:Nt w' AM e (AJ X)) (h4:Nt w' AY f' (AJ H))=>aU ⟨A,a,AJ AP,C,c,AJ D⟩ ⟨AM,e,AJ X,AY,f',AJ H⟩ w' ⟨h1,h2⟩ ⟨h3,h4⟩ (TP (H9 hN4) (H9 ys3) (Br (P7 (k:=1) (by rw[Nat.pow_one];exact hXb)) AC) (Br (P7 (k:=1) (by rw[Nat.pow_one];exact hHb)) AC) (by simp only[Bu];exact ys2) (by simp only[Bu];exact bH.1)) (by simp only[Bu];exact bu hN4 hXb) (by simp only[Bu];exact bu ys3 hHb) (by simp only[Bu];exact I9 ys2 bH.1)
 unfold Pa BA.val at cM;simp only[Bu]at cM;have DH:0<D*H:=I9 ys2 bH.1;obtain⟨N1,Me⟩:=Az (rfN (AP*X) (D*H));obtain⟨D1,hD1⟩:=Az (BQ (AP*X) (D*H));have rl:=JZ (AP*X) (D*H);have rp:=(Mz (a:=AP*X) DH).2.2.2.2;have rq:=AcK (a:=AP*X) DH;simp only[Me,hD1]at cM rl rq;rw[hD1]at rp;have lN1:(AJ N1).length<=64:=Br (Il rl.1) (bu hN4 hXb);have lD1:(AJ D1).length<=64:=Br (Il rl.2) (bu ys3 hHb);have cD:=fun w' A a C c (h1:Nt w' A a (AJ N1)) (h2:Nt w' C c (AJ D1))=>AcH A a (AJ N1) C c (AJ D1) w' h1 h2 lN1 lD1 (qrf Bu rp)
 simp only[Bu,rq]at cD;have kle:AP*X / (D*H)<=X:=AcP ys1 ys2;obtain⟨K,hK⟩:=Az (AP*X / (D*H));simp only[hK]at cD kle ⊢;have cS:=fun A a w' (h1:Nt w' A a (AJ K))=>AcJ A a K w' h1 (Do (Br kle bX) AC)
 have wm:IntKind.u64.wrap (m:Int)=(m:Int):=JL Q J;have wK:=AhR kle bX;have XB:=F bX;have KLE:=F kle;clear Me hD1 rl rp rq lN1 lD1 hK kle hN4 hXb hHb bX bH DH ys1 ys2 ys3;obtain⟨Gp,IG,hb0⟩:=bz o g w;unfold Bw.val Bw.cs Gn.val;have Ci:=F Gp;have G5:=F IG;clear Gp IG;go_in;go_upto_region 1 with fail;obtain⟨W,hW⟩:=Az ((Ao (Ao w (N o 54)) (N g 375)));rw[hW]at hb0 Ci G5 ⊢;clear hW;go_wp2_with(first | (refine qlr 54 Ci underlying54 ?_) | (refine qlr 375 G5 underlying375 ?_));refine(cK _).mono ?_;rintro e w2⟨v1,v2,rfl,b1,b2,hb2⟩;obtain⟨A1,LA,rfl,n1⟩:=b1.nt;obtain⟨A2,LB,rfl,n2⟩:=b2.nt;have q2:=AH hb0 hb2;have GF:=Ci.out.on hb2;have RP:=G5.out.on hb2;have al:=AB (Ae w2 w2) (N #[R A1 (AJ AP).length LA,R A2 (AJ D).length LB] 58);have al2:=AB al (N #[U O a2,U O h2,U O x2] 374);obtain⟨k0,k1,k2,k3,k4,k5,k6,k7,k8⟩:=bh (RP.on al) HG;clear b1 b2 cK;go_upto_region 9 with(first | (go_at_call 89;refine mqv (DJ (m:Int) 0 512 _) ?_;rw[hb]))
 have gt5:=(RP.on al).on (AB (Ae _ _) (N #[U O a2,U O h2,U O x2] 374));have f0:E (Ao (Ao w2 (N #[R A1 (AJ AP).length LA,R A2 (AJ D).length LB] 58)) (N #[U O a2,U O h2,U O x2] 374)) ⟨w2,0,Z⟩=I (R A1 (AJ AP).length LA):=by go_simp
 have f1:E (Ao (Ao w2 (N #[R A1 (AJ AP).length LA,R A2 (AJ D).length LB] 58)) (N #[U O a2,U O h2,U O x2] 374)) ⟨w2,1,Z⟩=I (R A2 (AJ D).length LB):=by go_simp
 have f2:E (Ao (Ao w2 (N #[R A1 (AJ AP).length LA,R A2 (AJ D).length LB] 58)) (N #[U O a2,U O h2,U O x2] 374)) ⟨↑w2+1,0,Z⟩=I (U O a2):=by go_simp
 have f3:E (Ao (Ao w2 (N #[R A1 (AJ AP).length LA,R A2 (AJ D).length LB] 58)) (N #[U O a2,U O h2,U O x2] 374)) ⟨↑w2+1,1,Z⟩=I (U O h2):=by go_simp
 have Nm:E (Ao (Ao w2 (N #[R A1 (AJ AP).length LA,R A2 (AJ D).length LB] 58)) (N #[U O a2,U O h2,U O x2] 374)) ⟨w,13,Z⟩=I (U O o.s1):=(GF.on al2).Nm;have nn1:=n1.on al2;have nn2:=n2.on al2;have q5:=AH q2 al2;obtain⟨w5,Ct⟩:=Az (Ao (Ao w2 (N #[R A1 (AJ AP).length LA,R A2 (AJ D).length LB] 58)) (N #[U O a2,U O h2,U O x2] 374));rw[Ct]at f0 f1 f2 f3 Nm nn1 nn2 q5 ⊢;clear Ct al al2 gt5 RP GF k0 k1 k2 k3 k4 k5 k6 k7 k8 n1 n2 q2 hb2 hb0 Ci G5;have L2:=qbc f2;have L3:=qbc f3;have L4:=qbc Nm;have F0:=F f0;have F1:=F f1;clear f0 f1 f2 f3 Nm;go_cut [11] (fun va wx=>∃q A3 a3 A4 a4,va=AI (I ⟨q,0,Z⟩)/\E wx ⟨q,0,Z⟩=I (R A3 (AJ X).length a3)/\E wx ⟨q,1,Z⟩=I (R A4 (AJ H).length a4)/\Nt wx A3 a3 (AJ X)/\Nt wx A4 a4 (AJ H)/\Ag w5 w5 wx)
 case first=>
  refine qrh w5 (Ae _ _).drew fun hHeld=>?_
  have B0:Ag w5 w5 w5.drew:=(Ae _ _).drew;refine tQ4 0 ?_;refine tQ4 4 ?_;refine tQ 8 ?_;refine tQ2 10 ?_;refine tQ 12 ?_;refine I8 [9,15] ?_;refine Dj Q (fun K1 BS=>?_) (Dj Q (fun K1 BS=>?_) GQ)
  ·go_simp
   refine(cV1 _).mono ?_;rintro e y6⟨vv,rfl,bb,hx9⟩;obtain⟨A3,a3',rfl,n3⟩:=bb.nt;have B6:=AH B0 hx9;have bn3:=F bb;clear bb;go_wp2_with fail;refine BS.out _ _ B6 (fun IM=>?_);clear BS K1;refine zp ?_;refine I8 [13,15] ?_;refine Dj Q (fun K1 BS=>?_) (Dj Q (fun K1 BS=>?_) GQ)
   ·go_simp
    refine(cV2 _).mono ?_;rintro e y7⟨vv,rfl,bb,PD⟩;obtain⟨A4,a4',rfl,n4⟩:=bb.nt;have B7:=AH B6 PD;clear bb;go_wp2_with fail;refine BS.out _ _ B7 (fun IM=>?_);clear BS K1;refine zp ?_;refine tQ 14 ?_;refine url 15 (fun K1 BS=>?_);go_simp;have B8:=AB B7 (N #[R Z 0 0,R Z 0 0] 58);refine BS.out _ _ B8 (fun IM=>?_);clear BS K1;refine zp ?_;refine url 16 (fun K1 BS=>?_);have e0:E (y7.alloc (N #[R Z 0 0,R Z 0 0] 58)) ⟨y7,0,Z⟩=I (R Z 0 0):=by go_simp
    have e1:E (y7.alloc (N #[R Z 0 0,R Z 0 0] 58)) ⟨y7,1,Z⟩=I (R Z 0 0):=by go_simp
    have e2:Bo (y7.alloc (N #[R Z 0 0,R Z 0 0] 58)) ⟨y7,0,Z⟩=false:=by go_simp
    have e3:Bo (y7.alloc (N #[R Z 0 0,R Z 0 0] 58)) ⟨y7,1,Z⟩=false:=by go_simp
    have B9:=AB B7 (N #[R A3 (AJ X).length a3',R A4 (AJ H).length a4'] 58);have M3:=(n3.on PD).on (AB (Ae y7 y7) (N #[R A3 (AJ X).length a3',R A4 (AJ H).length a4'] 58));have M4:=n4.on (AB (Ae y7 y7) (N #[R A3 (AJ X).length a3',R A4 (AJ H).length a4'] 58));go_simp;refine BS.out _ _ B9 (fun IM=>?_);clear BS K1;refine zp ?_;refine zp ?_;refine Ce ?_;go_wp2;go_meet;exact⟨y7,_,_,_,_,rfl,Cb rfl,Cb rfl,M3,M4,B9⟩
   ·go_simp
    have B7:=AB B6 (N #[R Z 0 0,R Z 0 0] 58);refine BS.out _ _ B7 (fun IM=>?_);clear BS K1;refine zp ?_;refine url 13 (fun K1 BS=>?_);go_simp;refine(cV2 _).mono ?_;rintro e y8⟨vv,rfl,bb,PD⟩;obtain⟨A4,a4',rfl,n4⟩:=bb.nt;have B8:=AH B7 PD;have bn4:=F bb;clear bb;go_wp2_with fail;refine BS.out _ _ B8 (fun IM=>?_);clear BS K1;refine zp ?_;refine tQ 14 ?_;refine url 16 (fun K1 BS=>?_);have s6:↑y6<(y6.alloc (N #[R Z 0 0,R Z 0 0] 58)).heap.size:=AO;have e0:E y8 ⟨y6,0,Z⟩=I (R Z 0 0):=AK PD (by go_simp);have e1:E y8 ⟨y6,1,Z⟩=I (R Z 0 0):=AK PD (by go_simp);have e2:Bo y8 ⟨y6,0,Z⟩=false:=(PD.frozen (p:=⟨y6,0,Z⟩) s6).trans (by go_simp);have e3:Bo y8 ⟨y6,1,Z⟩=false:=(PD.frozen (p:=⟨y6,1,Z⟩) s6).trans (by go_simp);have pb:=uj (q:=y6.heap.size) ((n3.on (AB (Ae y6 y6) (N #[R Z 0 0,R Z 0 0] 58))).on PD) n4 (Big.AhQ bn3 (Bg _)) (Big.Du bn4 s6) e0 e1;have B9:=(B8.setCell (p:=⟨y6,0,Z⟩) B6.size (R A3 (AJ X).length a3')).setCell (p:=⟨y6,1,Z⟩) B6.size (R A4 (AJ H).length a4');have PB:=F pb;clear pb;go_simp;refine BS.out _ _ B9 (fun IM=>?_);clear BS K1;refine zp ?_;refine zp ?_;refine Ce ?_;go_wp2;go_meet;exact⟨y6,_,_,_,_,rfl,PB.out.1,PB.out.2.1,PB.out.2.2.1,PB.out.2.2.2,B9⟩
  ·go_simp
   have B1:Ag w5 w5 (Ao w5 (N #[R Z 0 0,R Z 0 0] 58)).drew:=(AB (Ae w5 w5) _).drew;have s6:↑w5<(Ao w5 (N #[R Z 0 0,R Z 0 0] 58)).drew.heap.size:=AO;have g0:E (Ao w5 (N #[R Z 0 0,R Z 0 0] 58)).drew ⟨w5,0,Z⟩=I (R Z 0 0):=by go_simp
   have g1:E (Ao w5 (N #[R Z 0 0,R Z 0 0] 58)).drew ⟨w5,1,Z⟩=I (R Z 0 0):=by go_simp
   have g2:Bo (Ao w5 (N #[R Z 0 0,R Z 0 0] 58)).drew ⟨w5,0,Z⟩=false:=by go_simp
   have g3:Bo (Ao w5 (N #[R Z 0 0,R Z 0 0] 58)).drew ⟨w5,1,Z⟩=false:=by go_simp
   refine BS.out _ _ B1 (fun IM=>?_);clear BS K1;refine zp ?_;refine url 9 (fun K1 BS=>?_);go_simp;refine(cV1 _).mono ?_;rintro e y6⟨vv,rfl,bb,hx9⟩;obtain⟨A3,a3',rfl,n3⟩:=bb.nt;have B6:=AH B1 hx9;have bn3:=F bb;clear bb;go_wp2_with fail;refine BS.out _ _ B6 (fun IM=>?_);clear BS K1;refine zp ?_;refine url 13 (fun K1 BS=>?_);go_simp;refine(cV2 _).mono ?_;rintro e y8⟨vv,rfl,bb,PD⟩;obtain⟨A4,a4',rfl,n4⟩:=bb.nt;have B8:=AH B6 PD;have bn4:=F bb;clear bb;go_wp2_with fail;refine BS.out _ _ B8 (fun IM=>?_);clear BS K1;refine zp ?_;refine tQ 14 ?_;refine url 16 (fun K1 BS=>?_);have dD:=AH hx9 PD;have e0:=AK dD g0;have e1:=AK dD g1;have e2:=(dD.frozen (p:=⟨w5,0,Z⟩) s6).trans g2;have e3:=(dD.frozen (p:=⟨w5,1,Z⟩) s6).trans g3;have pb:=uj (q:=w5.heap.size) (n3.on PD) n4 (Big.Du bn3 s6) (Big.Du bn4 (Ck s6 hx9.size)) e0 e1;have B9:=(B8.setCell (p:=⟨w5,0,Z⟩) (Bg _) (R A3 (AJ X).length a3')).setCell (p:=⟨w5,1,Z⟩) (Bg _) (R A4 (AJ H).length a4');have PB:=F pb;clear pb g0 g1 g2 g3;go_simp;refine BS.out _ _ B9 (fun IM=>?_);clear BS K1;refine zp ?_;refine zp ?_;refine Ce ?_;go_wp2;go_meet;exact⟨w5,_,_,_,_,rfl,PB.out.1,PB.out.2.1,PB.out.2.2.1,PB.out.2.2.2,B9⟩
 obtain⟨q,A3,a3,A4,a4,rfl,f2,f3,n3,n4,DT⟩:=hcut;have f0:=AK DT F0;have f1:=AK DT F1;have nx1:=nn1.on DT;have nx2:=nn2.on DT;have q6:=AH q5 DT;clear L2 L3 L4 F0 F1 DT nn1 nn2 q5 j1 j2 j3 i1 i2 i3 cV1 cV2;go_wp2_with fail;refine(cM wc A1 LA A2 LB A3 a3 A4 a4 nx1 nx2 n3 n4).mono ?_;rintro e w7⟨v1,v2,rfl,b1,b2,hx7⟩;obtain⟨A5,a5,rfl,n5⟩:=b1.nt;obtain⟨A6,a6,rfl,n6⟩:=b2.nt;have q7:=AH q6 hx7;have al7:=AB (Ae w7 w7) (N #[R A5 (AJ N1).length a5,R A6 (AJ D1).length a6] 58);have m5:=n5.on al7;have m6:=n6.on al7;clear b1 b2 hx7 n5 n6 cM nx1 nx2 n3 n4 f0 f1 f2 f3;go_wp2_with fail;refine(cD _ A5 a5 A6 a6 m5 m6).mono ?_;rintro e w8⟨v3,v4,rfl,b3,hx8⟩;obtain⟨A7,a7,rfl,n7⟩:=b3.nt;have q8:=AH (AH q7 al7) hx8;clear b3 hx8 m5 m6 cD;have cS':=cS A7 a7 w8 n7;clear cS;have KL:=KLE;by_cases hlt:m<K
 ·have Xa:min m K=m:=Oo (EO hlt)
  have HM:=F Xa;clear Xa;go_wp2_with(first | (go_at_call 304;refine mqv (cS') ?_));refine De (v:= Be #[U O m,U O 0]) ?_ Q ⟨by rw[HM.out],q8⟩;unfold results;go_simp
 ·have Xa:min m K=K:=Nat.min_eq_right (Nat.le_of_not_lt hlt)
  have HM:=F Xa;clear Xa;go_wp2_with(first | (go_at_call 304;refine mqv (cS') ?_));refine De (v:= Be #[U O K,U O 0]) ?_ Q ⟨by rw[HM.out],q8⟩;unfold results;go_simp
theorem AhT{f:Nat}{args:Array An}{w:V}{o:Bw}{g:Gn}{n:Int}
  (h1:Dw o g≠0->AL AE f args w fun e w'=>e=AN (Be #[U O 0,U O (Dw o g)])/\Ag w w w')
  (h2:Dw o g=0->¬(0<=n/\n<=512)->AL AE f args w fun e w'=>e=AN (Be #[U O 0,U O 3])/\Ag w w w')
  (h3:Dw o g=0->0<=n/\n<=512->g.h2=0->AL AE f args w fun e w'=>e=AN (Be #[U O 0,U O 0])/\Ag w w w')
  (h4:Dw o g=0->0<=n/\n<=512->g.h2≠0->AL AE f args w fun e w'=>e=AN (Be #[U O ((min n.toNat (NQ 0 (FB o g) (Fa o g)*(n*o.s1*g.a2).toNat / (Lz 0 (FB o g) (Fa o g)*(256*g.h2).toNat)):Nat):Int),U O 0])/\Ag w w w'):
  AL AE f args w fun e w'=>e=AN (Be #[U O (Pf o g n:Int),U O (RQ o g n)])/\Ag w w w':=by
 by_cases hE:Dw o g=0
 ·by_cases hn:0<=n/\n<=512
  ·have e1:RQ o g n=0:=by grind [RQ,Dw,NQ,FB,Fa,Lz]
   by_cases hz:g.h2=0
   ·have e2:Pf o g n=0:=by unfold Pf;grind
    grind
   ·unfold Pf
    grind
  ·have e1:RQ o g n=3:=by grind [RQ,Dw,NQ,FB,Fa,Lz]
   have e2:Pf o g n=0:=by unfold Pf;grind
   rw[e1,e2]
   grind
 ·have e1:RQ o g n=Dw o g:=by unfold RQ;omega
  have e2:Pf o g n=0:=by unfold Pf;grind
  rw[e1,e2]
  grind
def AhU(o:Bw)(g:Gn)(n:Int)(w:V):AL AE 273 #[o.val,g.val,U O n] w fun e w'=>e=AN (Be #[U O (Pf o g n:Int),U O (RQ o g n)])/\Ag w w w':=AhT (AcQ o g n w) (AcR o g n w) (AcS o g n w) (AhS o g n w)
end Go.Proofs.YtjpidgffdkjjeaaGreat
