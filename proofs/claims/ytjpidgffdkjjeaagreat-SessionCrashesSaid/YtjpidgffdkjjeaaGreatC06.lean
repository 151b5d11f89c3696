/- Contracts and plain laws. No condition. -/
import Derived.Test.YtjpidgffdkjjeaaGreatCA
import Derived.Test.YtjpidgffdkjjeaaGreatC01
import Derived.Test.YtjpidgffdkjjeaaGreatC02
import Derived.Test.YtjpidgffdkjjeaaGreatC04
set_option linter.all false
set_option maxHeartbeats 16000000
namespace Go.Proofs.YtjpidgffdkjjeaaGreat
open Go.Proofs.Tryz
open Go.Proofs.Tryz renaming prog->AE
open List renaming length->Y
open Go.World renaming cell?->E,setCell->Ai,alloc->Ao,frozen?->Bo
open Go.Value renaming int->U,slice->R,pointer->AI,agg->Ba,tuple->Be,nilFunc->Bl,bool->Av
open Go.IntKind renaming i64->O,u64->AA,u32->BF,u8->Cd
open Option renaming none->Z,some->I
open Go.Ending renaming returned->AN
open Go.Obj renaming cells->N
open Go renaming World->V,Value->An,Calls->AL,Addr->AS
open Go.RowKit renaming Below->Ag,Hid->Aj
set_option maxRecDepth 100000
open Go.RowKit
def hL:List Nat->List Nat
 | []=>[]
 | [x]=>[x / 2]
 | x::y::t=>(x / 2+y%2*2147483648)::hL (y::t)
theorem YO:∀l:List Nat,(hL l).length=Y l
 | []=>rfl
 | [x]=>rfl
 | x::y::t=>by simp[hL,YO (y::t)]
theorem pQ:∀l:List Nat,AF (hL l)=AF l / 2
 | []=>rfl
 | [x]=>by simp[hL,AF,BH]
 | x::y::t=>by
  have h1:AF (hL (x::y::t))=(x / 2+y%2*2147483648)+AZ*AF (hL (y::t)):=Q;have h2:AF (x::y::t)=x+AZ*AF (y::t):=Q;have h3:AF (y::t)=y+AZ*AF t:=Q;rw[h1,pQ (y::t),h2];simp only[AZ]at*;omega
theorem pR:∀{l:List Nat},BZ AZ l->BZ AZ (hL l)
 | [],h=>h
 | [x],h=>fun y hy=>by
  have:=h x AO
  grind [BZ,hL]
 | x::y::t,h=>by
  have h1:=h x AO;refine BZ.cons ?_ (pR h.tail);simp only[AZ]at*;omega
theorem pS:∀{l:List Nat} {k x y:Nat},l[k]?=I x->l[k+1]?=I y->(hL l)[k]?=I (x / 2+y%2*2147483648)
 | [],k,x,y,h,_=>by simp at h
 | [z],k,x,y,_,h=>by simp at h
 | z::u::t,0,x,y,h1,h2=>by
  grind [hL]
 | z::u::t,k+1,x,y,h1,h2=>by
  have:=pS (l:=u::t) (k:=k) (x:=x) (y:=y) (qsu h1) (qsu h2);simpa[hL]using this
theorem pT:∀{l:List Nat} {k x:Nat},l[k]?=I x->Y l=k+1->(hL l)[k]?=I (x / 2)
 | [],k,x,h,_=>by simp at h
 | [z],k,x,h,hl=>by
  grind [hL]
 | z::u::t,0,x,_,hl=>by simp at hl
 | z::u::t,k+1,x,h,hl=>by
  have:=pT (l:=u::t) (k:=k) (x:=x) (qsu h) (qsu hl);simpa[hL]using this
def RN(l:List Nat)(k:Nat):List Nat:=(hL l).take k++ l.drop k
theorem Ab8(l:List Nat){k:Nat}(h:k<=Y l):(RN l k).length=Y l:=by grind [RN,YO]
theorem pU{l:List Nat}{k j:Nat}(hk:k<=Y l)(hj:k<=j):(RN l k)[j]?=l[j]?:=by
 have hl:((hL l).take k).length=k:=by simp[YO];omega
 grind [RN,hL]
theorem pV{l:List Nat}{k z:Nat}(hk:k<Y l)(hz:(hL l)[k]?=I z):(RN l k).set k z=RN l (k+1):=by
 have hl:((hL l).take k).length=k:=by grind
 unfold RN;rw[List.set_append,AU J,hl,Lc,N8 hz,PI hk,List.set_cons_zero];simp
theorem Ab9(l:List Nat):RN l (Y l)=hL l:=by
 grind [RN,hL,YO]
def Aca{x y:Nat}(hx:x<4294967296)(hy:y<4294967296):∃q r:Nat,(x:Int) / 2=(q:Int)/\bits .or .u32 (q:Int) ((y:Int)*2147483648%4294967296)=(r:Int)/\q<4294967296/\Aj (q=x / 2/\r=x / 2+y%2*2147483648):=by
 refine⟨x / 2,x / 2+y%2*2147483648,J,?_,J,F ⟨rfl,rfl⟩⟩;have e:(y:Int)*2147483648%4294967296=((y%2*2147483648:Nat):Int):=J;rw[e];have h1:=u32_or_nat (y%2*2147483648) (x / 2) J J;rw[nat_join 31 _ _ J J]at h1
 have h2:bits .or .u32 ((x / 2:Nat):Int) ((y%2*2147483648:Nat):Int)=bits .or .u32 ((y%2*2147483648:Nat):Int) ((x / 2:Nat):Int):=by
  rw[u32_or_nat (x / 2) (y%2*2147483648) J J,u32_or_nat (y%2*2147483648) (x / 2) J J,Nat.or_comm]
 omega
def Acb(g c n base:Nat)(l:List Nat)(w:V)(hA:Own w base 132 1 CR (R (I ⟨g,0,Z⟩) n c) l)(hn:Y l=n)(hd:BZ AZ l)(hl:n<=1000000):
  AL AE 329 #[R (I ⟨g,0,Z⟩) n c] w fun e w'=>∃v,e=AN v/\Big w' base v (AF l / 2)/\v.ownBlock=I g/\w.grownBy w' (I g):=by
 have Hn:=F hn;have Hd:=F hd
 have hnc:n<=c/\c<=maxLen:=by
  obtain⟨A,c',h1,h2,h3,_,_⟩:=hA.form Sw;simp at h1;omega
 obtain⟨hnc,hcm⟩:=hnc;unfold maxLen at hcm;clear hn hd;go_in;go_wp2;go_loopw [6] (fun i wr=>∃(k:Nat),k<=n/\i=U O k/\Own wr base 132 1 CR (R (I ⟨g,0,Z⟩) n c) (RN l k)/\w.grownBy wr (I g)) (fun i _=>n-(intOf i).toNat);exact⟨0,BM _,rfl,hA,dY _ _⟩
 obtain⟨k,hk,rfl,hown,hgr⟩:=hrel;obtain⟨w6,rfl⟩:=qgn wr;have Tl:=F ((Ab8 l (k:=k) (qrf Hn.out hk)).trans Hn.out);by_cases hlt:k<n
 ·obtain⟨x,hx⟩:∃x,l[k]?=I x:=⟨_,CH (qrf Hn.out hlt)⟩
  have x1:x<4294967296:=Hd.out.get hx;have d0:=Own.Eg (f:=fun n:Nat=>Value.int .u32 n) hown Tl ((pU (qrf Hn.out hk) (Bg k)).trans hx);have d1:=Own.Dc (f:=fun n:Nat=>Value.int .u32 n) hown Tl k;have Hx:=F hx;clear hx;by_cases Qp:k+1<n
  ·obtain⟨y,hy⟩:∃y,l[k+1]?=I y:=⟨_,CH (qrf Hn.out Qp)⟩
   have y1:y<4294967296:=Hd.out.get hy;have d2:=Own.Eg (f:=fun n:Nat=>Value.int .u32 n) hown Tl ((pU (qrf Hn.out hk) (OD k)).trans hy);obtain⟨q,r,e1,e2,q1,Fu⟩:=Aca x1 y1;have ht:=pV (l:=l) (k:=k) (qrf Hn.out hlt) (pS Hx hy);rw[<-Fu.out.2]at ht;have s1:=Own.Ft (f:=fun n:Nat=>Value.int .u32 n) hown Tl k q;have s2:=Own.Ft (f:=fun n:Nat=>Value.int .u32 n) s1 (by rw[LN];exact Tl.out) k r;rw[List.set_set,ht]at s2;have S2:=F s2;have klt:(k:Int)+1<(n:Int):=J;clear hy ht s1 s2 Fu;go_wp2_with fail;go_region
   all_goals(go_wp2_with fail)
   all_goals exact⟨⟨k+1,J,qgm,S2.out.drew,Fj (Fj hgr (Fj (Le _ _ _ _) (Le _ _ _ _))) ⟨rfl,rfl,rfl,Bg _,fun _ _ _=>rfl⟩⟩,qio⟩
  ·have PK:k+1=n:=J
   have ht:=pV (l:=l) (k:=k) (qrf Hn.out hlt) (pT Hx (by rw[Hn.out];omega));obtain⟨q,e1⟩:∃q:Nat,(x:Int) / 2=(q:Int):=⟨x / 2,J⟩
   rw[show x / 2=q from by omega]at ht;have s1:=Own.Ft (f:=fun n:Nat=>Value.int .u32 n) hown Tl k q;rw[ht]at s1;have S1:=F s1;have klt:¬(k:Int)+1<(n:Int):=J;clear ht s1;go_wp2_with fail;exact⟨⟨k+1,J,qgm,S1.out,Fj hgr (Le _ _ _ _)⟩,qio⟩
 ·obtain rfl:k=n:=J
  have e1:RN l k=hL l:=qrb Hn.out (Ab9 l);rw[e1]at hown;have Cm:=(YO l).trans Hn.out;have ht:=Own.trim hown (pR Hd);rw[pQ]at ht;obtain⟨A2,c2,hv2,_,_,_,Nv⟩:=hown.form Sw;rw[Cm]at hv2;obtain⟨rfl,rfl⟩:I ⟨g,0,Z⟩=A2/\c=c2:=qsu hv2;have cT:=Tv (I ⟨g,0,Z⟩) c (hL l) w6 Nv (qrf Cm hnc) (by unfold maxLen;omega);rw[Cm]at cT;have Ht:=F ht;clear ht hv2 e1 Cm;go_wp2_with(go_at_call 129;refine mqv (cT) ?_);go_ret;exact⟨_,Q,Ht.out,Q,hgr⟩
section
variable{B G Bp X k n t x y:Nat}{w:V}
theorem UX{v:An}(h:Big w B v x)(hx:0<x):∃g c,v=R (I ⟨g,0,Z⟩) (AJ x).length c/\B<=g/\0<(AJ x).length:=by
 have hl:(AJ x)≠[]:=fun e=>by
  have:=Bu x;rw[e]at this;simp[AF,BH]at this;omega
 have hl2:=List.length_pos_iff.2 hl;rcases h.2 with⟨_,h0⟩ | ⟨g,cap,cur,hv,hb,_⟩
 all_goals grind
theorem aQ(h:(AJ x).length=0):x=0:=by
 have:=Bu x;rw[WC h]at this;simpa[AF,BH]using this.symm
theorem Xi:AJ 0=[]:=by grind [AJ,Vv]
def P7(h:x<AZ^k):(AJ x).length<=k:=Uj IC h
theorem Il(h:x<=y):(AJ x).length<=(AJ y).length:=by
 refine P7 ?_;have:=Wx IC y
 grind [AJ,G4]
structure Jv(w:V)(B:Nat)(va vb:An)(x y:Nat):Prop where
 a:Big w B va x
 b:Big w B vb y
 ap:Ap va vb
def Jv.swap{va vb:An}(h:Jv w B va vb x y):Jv w B vb va y x:=⟨h.b,h.a,h.ap.symm⟩
theorem aR(B:Nat)(va vb:An)(x y:Nat)(w:V)(h:Jv w B va vb x y)(hx:0<x)(hl:(AJ x).length<=1000000):
  AL AE 329 #[va] w fun e w'=>∃v,e=AN v/\Jv w' B v vb (x / 2) y/\(∀K,K<=B->Ag K w w'):=by
 obtain⟨g,c,rfl,hg,hp⟩:=UX h.a hx;have c1:=Acb g c _ B (AJ x) w h.a Q (Ul x) hl;rw[Bu]at c1;refine c1.mono ?_;rintro e w'⟨v,rfl,b1,hv,gr⟩;refine⟨v,Q,⟨b1,Ys h.b h.ap.symm gr,?_⟩,fun K hK=>?_⟩
 ·have:=h.ap
  unfold Ap at*;rw[hv];rcases this with h0 | h0
  ·exact .inl (by simp[Value.ownBlock]at h0)
  ·exact .inr h0
 ·have:=(Cp h.a g Q).2
  exact(Ae K w).grown gr J (fun q hq=>by grind)
def Acc{L:Nat}{l':List Nat}{h:Nat}{l:List Nat}(hl:Y l'=n)(hv:AF l'+AZ^n*h=2*AF l+0)(hr:2*AF l<AZ^n):AF l'=2*AF l:=by
 rcases Nc h with rfl | h0
 ·omega
 ·have:AZ^n*1<=AZ^n*h:=LQ _ h0
  omega
def Dbl(G t k v n:Nat):Prop:=v=G*2^k/\G*2^t<AZ^n
theorem Dbl.next{v:Nat}(h:Dbl G t k v n)(hk:k<t):2*v<AZ^n/\Dbl G t (k+1) (2*v) n:=by
 obtain⟨h1,h2⟩:=h;have e:2*v=G*2^(k+1):=by grind
 refine⟨?_,e,h2⟩;rw[e];exact Do (LQ _ (LT AC hk)) h2
def Acd{q:Nat}(hn:n=(AJ G).length+q+1)(hq:q=t / 32):Dbl G t 0 G n:=by
 refine⟨AO,?_⟩;have h1:G<AZ^(AJ G).length:=Wx IC G
 have h2:2^t<=AZ^(q+1):=by
  rw[Ty];exact LT AC J
 have h3:0<2^t:=Ow AC;rw[hn,Nat.add_assoc,Ou];exact Ck (WK h1 h3) (LQ _ h2)
def Tw(X Bp x y t:Nat):Prop:=Nat.gcd X Bp=2^t*Nat.gcd x y/\X=2^t*x
theorem Tw.next(h:Tw X Bp x y t)(hx:x%2=0)(hy:y%2=0):Tw X Bp (x / 2) (y / 2) (t+1):=by
 obtain⟨h1,h2⟩:=h;refine⟨?_,?_⟩
 ·grind [gcd_both]
 ·rw[h2,LS,Nat.mul_assoc]
  congr 1;omega
theorem Tw.lt(h:Tw X Bp x y t)(hx:0<x)(hX:X<AZ^n):t<32*n:=by
 refine Xg fun hc=>?_
 have h1:2^(32*n)<=2^t:=LT AC J;have h2:2^t*1<=2^t*x:=LQ _ hx
 grind [Tw,Ty]
end
section
variable{B c g x:Nat}{w:V}
def P9(w:V)(v:An):Nat:=
 match v with
 | .slice (I a) n _=>
  match w.heap[a.block]? with
  | some (N cur _ _)=>AF ((cur.toList.take n).map fun u=>match u with | .int _ z=>z.toNat | _=>0)
  | _=>0
 | _=>0
theorem SZ{v:An}(h:Big w B v x):P9 w v=x:=by
 rcases h.2 with⟨hv,h0⟩ | ⟨g,cap,cur,hv,_,hg,_,_,_,ht⟩
 ·grind [P9,Big,AJ,aQ]
 ·subst hv
  have e:cur.toList.take (AJ x).length=(AJ x).flatMap CR:=by grind
  simp only[P9,hg];rw[e]
  have:((AJ x).flatMap CR).map (fun u=>match u with | Value.int _ z=>z.toNat | _=>0)=AJ x:=by
   induction AJ x with
   | nil=>rfl
   | cons y t ih=>simp[CR]at ih ⊢;exact ih
  rw[this,Bu]
theorem pW{n:Nat}(h:Big w B (R (I ⟨g,0,Z⟩) n c) x):n=(AJ x).length/\Nt w (I ⟨g,0,Z⟩) c (AJ x):=by
 obtain⟨A1,c1,hv,hn⟩:=h.nt
 grind
theorem pX(B:Nat)(va vb:An)(x y:Nat)(w:V)(h:Jv w B va vb x y)(hle:y<=x)(hx:(AJ x).length<=1000)(hB:B<=↑w):
  AL AE 177 #[va,vb] w fun e w'=>∃v,e=AN v/\Jv w' B v vb (x-y) y/\Ag w w w':=by
 obtain⟨A1,c1,rfl,n1⟩:=h.a.nt;obtain⟨A2,c2,rfl,n2⟩:=h.b.nt;have hy:=Il hle;have c:=dV A1 c1 _ A2 c2 _ w n1 n2 J J (by grind [AF,AJ,Bu]);rw[Bu,Bu]at c;refine c.mono ?_;rintro e w'⟨v,rfl,b1,hb⟩;exact⟨v,Q,⟨b1.down hB,h.b.below hb,mQ h.b b1⟩,hb⟩
def Ace(B:Nat)(va vb:An)(x y:Nat)(w:V)(h:Jv w B va vb x y):
  AL AE 137 #[va,vb] w fun e w'=>e=AN (U O (Ey x y))/\Ag w w w':=by
 obtain⟨A1,c1,rfl,n1⟩:=h.a.nt;obtain⟨A2,c2,rfl,n2⟩:=h.b.nt;have c:=Uk A1 c1 _ A2 c2 _ w n1.arr n2.arr n1.len n1.cap n2.len n2.cap n1.dig n2.dig;rw[Bu,Bu]at c;exact c
def Jv.on{w':V}{va vb:An}{y:Nat}(h:Jv w B va vb x y)(hb:Ag w w w'):Jv w' B va vb x y:=⟨h.a.below hb,h.b.below hb,h.ap⟩
theorem aS{p:Nat}(h:Big w B (R (I ⟨g,0,Z⟩) (AJ x).length c) x)(hx:0<(AJ x).length)(hl:(AJ x).length<=1000000)(hp:x%2=p):
  AL AE 176 #[R (I ⟨g,0,Z⟩) (AJ x).length c,U O 0] w fun e w'=>e=AN (U BF p)/\w=w':=by
 have hb:=jQ _ c (AJ x) 0 w (pW h).2 hl J
 grind [AJ,Big,AF,Bu]
def Acf(A:Option AS)(c:Nat)(l:List Nat)(C:Option AS)(d:Nat)(m:List Nat)(w:V)(hA:Nt w A c l)(hC:Nt w C d m)(hl:Y l<=1000)(hm:Y m<=1000):
  AL AE 323 #[R A (Y l) c,R C (Y m) d] w fun e w'=>∃v,e=AN v/\Big w' w v (Nat.gcd (AF l) (AF m))/\Ag w w w':=by
 have cA:=WA A c l w hA J;have cC:=fun w' hb=>WA C d m w' (hC.on hb) J
 have kX:=Zz hA.dig;have kY:=Zz hC.dig;have bX:=jY hA.dig;obtain⟨X,hX⟩:=Az (AF l);obtain⟨Bp,hY⟩:=Az (AF m);rw[hX]at cA kX bX;rw[hX,hY];simp only[hY]at cC kY;go_in;go_wp2_with fail;refine cA.mono ?_;rintro e w1⟨va,rfl,ba,hb1⟩;go_wp2_with fail;refine(cC w1 hb1).mono ?_;rintro e w2⟨vb,rfl,bb,hb2⟩;have pY:=(mQ ba bb).symm;have two:Jv w2 w va vb X Bp:=⟨ba.below hb2,bb.down hb1.size,pY⟩
 have aT:=AH hb1 hb2;obtain⟨A1,c1,hva,_⟩:=ba.nt;obtain⟨A2,c2,hvb,_⟩:=bb.nt;clear ba bb pY cA cC hb1 hb2;by_cases x0:(AJ X).length=0
 ·have x00:=aQ x0
  have gP:=F two;subst hva hvb;rw[x0];clear two;go_wp2;go_ret;subst x00;rw[Nat.gcd_zero_left];exact⟨_,Q,gP.out.b,aT⟩
 by_cases y0:(AJ Bp).length=0
 ·have y00:=aQ y0
  have gP:=F two;subst hva hvb;clear two;rw[y0];go_wp2;go_ret;subst y00;rw[Nat.gcd_zero_right];exact⟨_,Q,gP.out.a,aT⟩
 have xp:0<X:=Nat.pos_of_ne_zero fun h=>x0 (by rw[h,Xi];rfl)
 have x0b:(((AJ X).length:Int) == 0)=false:=by rw[YP];omega
 have y0b:(((AJ Bp).length:Int) == 0)=false:=by rw[YP];omega
 have yp:0<Bp:=Nat.pos_of_ne_zero fun h=>y0 (by rw[h,Xi];rfl)
 have kX2:(AJ X).length<=1000:=J;have kY2:(AJ Bp).length<=1000:=J;obtain⟨G,hG⟩:=Az (Nat.gcd X Bp);have hTw:Tw X Bp X Bp 0:=⟨AO,AO⟩
 subst hva hvb;have XLT:Aj (X<AZ^Y l):=F (qrb hX (LP hA.dig));clear bX hX hY;clear hG;go_upto_block 0 with fail;go_cut [0,1,5] (fun va vb i wr=>∃(x y t:Nat),i=U O t/\t<=32000/\Aj (Tw X Bp x y t)/\Aj (¬(x%2=0/\y%2=0))/\0<x/\0<y/\x<=X/\y<=Bp/\Jv wr w va vb x y/\Ag w w wr)
 case first=>
  go_wp2_with fail;go_loopw [0,1,5] (fun va vb i wr=>∃(x y t:Nat),i=U O t/\t<=32000/\Aj (Tw X Bp x y t)/\0<x/\0<y/\x<=X/\y<=Bp/\Jv wr w va vb x y/\Ag w w wr) (fun _ _ i _=>32001-(intOf i).toNat);exact⟨X,Bp,0,rfl,J,F hTw,xp,yp,Bg _,Bg _,two,aT⟩
  obtain⟨x,y,t,rfl,ht,tw,x1,y1,xX,yY,tt,hb⟩:=hrel;obtain⟨g1,c1',rfl,ER,lx⟩:=UX tt.a x1;obtain⟨g2,c2',rfl,hg2,ly⟩:=UX tt.b y1;have kx:=Il xX;have ky:=Il yY;obtain⟨p,hp⟩:=Az (x%2);obtain⟨q,hq⟩:=Az (y%2);have cBx:=aS tt.a lx J hp;have cBy:=aS tt.b ly J hq;have Nf:p=0\/p=1:=J;have Et:q=0\/q=1:=J;have Hp:=F hp;have Hq:=F hq;have Tt:=F tt;clear hp hq tt;rcases Nf with rfl | rfl
  ·rcases Et with rfl | rfl
   ·have cH:=aR w _ _ x y wr Tt x1 J
    have t32:=tw.out.lt x1 XLT;have tw':=F (tw.out.next Hp Hq);have x2:0<x / 2:=by have:=Hp.out;omega
    have y2:0<y / 2:=by have:=Hq.out;omega
    have Q1:=F (show x / 2<=X by omega);have Q2:=F (show y / 2<=Bp by omega)
    go_wp2_with(first
     | (go_at_call 176;refine Calls.on (FD:=#[R (I ⟨g1,0,Z⟩) (AJ x).length c1',U O 0]) Q ?_;refine cBx.mono ?_;rintro e w' ⟨rfl,rfl⟩)
     | (go_at_call 176;refine Calls.on (FD:=#[R (I ⟨g2,0,Z⟩) (AJ y).length c2',U O 0]) Q ?_;refine cBy.mono ?_;rintro e w' ⟨rfl,rfl⟩))
    refine cH.mono ?_;rintro e w5⟨v5,rfl,t5,Bh⟩;have b5:=Bh w (Bg _);go_wp2_with fail;refine(aR w _ _ y (x / 2) w5 t5.swap y1 J).mono ?_;rintro e w6⟨v6,rfl,t6,BV⟩;have b6:=BV w (Bg _);go_wp2_with fail;go_roundw;exact⟨x / 2,y / 2,t+1,qgm,J,tw',x2,y2,Q1.out,Q2.out,t6.swap,(hb.trans b5).trans b6⟩;(simp[intOf] <;> omega)
   ·go_wp2_with(first
     | (go_at_call 176;refine Calls.on (FD:=#[R (I ⟨g1,0,Z⟩) (AJ x).length c1',U O 0]) Q ?_;refine cBx.mono ?_;rintro e w' ⟨rfl,rfl⟩)
     | (go_at_call 176;refine Calls.on (FD:=#[R (I ⟨g2,0,Z⟩) (AJ y).length c2',U O 0]) Q ?_;refine cBy.mono ?_;rintro e w' ⟨rfl,rfl⟩))
    go_meet;exact⟨x,y,t,rfl,ht,tw,F (by have:=Hq.out;omega),x1,y1,xX,yY,Tt.out,hb⟩
  ·go_wp2_with(first
     | (go_at_call 176;refine Calls.on (FD:=#[R (I ⟨g1,0,Z⟩) (AJ x).length c1',U O 0]) Q ?_;refine cBx.mono ?_;rintro e w' ⟨rfl,rfl⟩)
     | (go_at_call 176;refine Calls.on (FD:=#[R (I ⟨g2,0,Z⟩) (AJ y).length c2',U O 0]) Q ?_;refine cBy.mono ?_;rintro e w' ⟨rfl,rfl⟩))
   go_meet;exact⟨x,y,t,rfl,ht,tw,F (by have:=Hp.out;omega),x1,y1,xX,yY,Tt.out,hb⟩
 obtain⟨x,y,t,rfl,ht,tw,hno,x1,y1,xX,yY,tt,hb⟩:=hcut
 obtain⟨M,kM,xM,yM⟩:∃M,(AJ M).length<=1000/\X<=M/\Bp<=M:=by
  rcases Nat.le_total X Bp with h | h
  ·exact⟨Bp,kY2,h,Bg _⟩
  ·exact⟨X,kX2,Bg _,h⟩
 have xM2:=Br xX xM;have yM2:=Br yY yM;obtain⟨D,hD⟩:=Az (Nat.gcd x y);have gQ:=Ab0 hno;rw[hD]at gQ;have gR:=F gQ;have HD:=F hD;have hGD:Aj (Nat.gcd X Bp=2^t*D):=F (by rw[tw.out.1,hD]);clear gQ hD hno tw xX yY hTw two aT;obtain⟨w3,rfl⟩:=qgn wc;go_upto_block 2 with fail;go_cut [0,1] (fun va vb wr=>Big wr w vb D/\Ag w w wr)
 case first=>
  go_wp2_with fail;go_loopw [0,1] (fun va vb wr=>∃(x2 y2:Nat),Aj (Nat.gcd x2 y2=D)/\0<y2/\x2<=M/\y2<=M/\Jv wr w va vb x2 y2/\Ag w w wr) (fun va vb wr=>P9 wr va+P9 wr vb);exact⟨x,y,HD,y1,xM2,yM2,tt,hb⟩
  obtain⟨x2,y2,hg,Jr,x2M,y2M,t2,hb2⟩:=hrel;obtain⟨w4,rfl⟩:=qgn wr;by_cases x00:x2=0
  ·subst x00
   have e0:(AJ 0).length=0:=by rw[Xi];rfl
   obtain⟨A3,c3,hv3,_⟩:=t2.a.nt;rw[e0]at hv3;have eD:y2=D:=by have:=hg.out;rwa [Nat.gcd_zero_left]at this
   subst eD;have T2:=F t2.b;clear t2;subst hv3;go_wp2;go_meet;exact⟨T2.out,hb2⟩
  ·have M1:=SZ t2.a
   have M2:=SZ t2.b;have pZ:=F (show P9 w4 u0+P9 w4 u1=x2+y2 by rw[M1,M2]);clear M1 M2;have Nr:0<x2:=J;obtain⟨g1,c1',hu0,ER,lx⟩:=UX t2.a Nr;obtain⟨g2,c2',hu1,hg2,ly⟩:=UX t2.b Jr;subst hu0 hu1;have kx:=Il x2M;have ky:=Il y2M;go_upto_block 4 with fail;go_cut [0] (fun va wr=>∃x3,Aj (Nat.gcd x3 y2=D)/\Aj (x3%2=1)/\0<x3/\x3<=x2/\Jv wr w va (R (I ⟨g2,0,Z⟩) (AJ y2).length c2') x3 y2/\Ag w w wr)
   case first=>
    go_wp2_with fail;go_loopw [0] (fun va wr=>∃x3,Aj (Nat.gcd x3 y2=D)/\0<x3/\x3<=x2/\Jv wr w va (R (I ⟨g2,0,Z⟩) (AJ y2).length c2') x3 y2/\Ag w w wr) (fun va wr=>P9 wr va);exact⟨x2,hg,Nr,Bg _,t2,hb2⟩
    obtain⟨x3,hg3,x30,Ri,t3,hb3⟩:=hrel;have M1:=F (SZ t3.a);obtain⟨g3,c3',rfl,hg3',lx3⟩:=UX t3.a x30;have k3:=Il Ri;obtain⟨p,hp⟩:=Az (x3%2);have cB:=aS t3.a lx3 J hp;have Nf:p=0\/p=1:=J;have Hp:=F hp;have T3:=F t3;clear hp t3;rcases Nf with rfl | rfl
    ·go_wp2_with(go_at_call 176;refine cB.mono ?_;rintro e w' ⟨rfl,rfl⟩)
     refine(aR w _ _ x3 y2 wr T3 x30 J).mono ?_;rintro e w5⟨v5,rfl,t5,Bh⟩;have b5:=Bh w (Bg _);have hg5:Aj (Nat.gcd (x3 / 2) y2=D):=F (by rw[pM (qrf hg3.out gR) Hp];exact hg3.out);have x5:0<x3 / 2:=by have:=Hp.out;omega
     have Q1:=F (show x3 / 2<=x2 by omega);have M5:=F (SZ t5.a);go_wp2_with fail;go_roundw;exact⟨x3 / 2,hg5,x5,Q1.out,t5,hb3.trans b5⟩;rw[M1.out,M5.out];omega
    ·go_wp2_with(go_at_call 176;refine cB.mono ?_;rintro e w' ⟨rfl,rfl⟩)
     go_meet;exact⟨x3,hg3,Hp,x30,Ri,T3.out,hb3⟩
   obtain⟨x3,hg3,ho3,x30,Ri,t3,hb3⟩:=hcut;obtain⟨w5,rfl⟩:=qgn wc;go_upto_block 6 with fail;go_cut [1] (fun vb wr=>∃y3,Aj (Nat.gcd x3 y3=D)/\0<y3/\y3<=y2/\Jv wr w u0 vb x3 y3/\Ag w w wr)
   case first=>
    go_wp2_with fail;go_loopw [1] (fun vb wr=>∃y3,Aj (Nat.gcd x3 y3=D)/\0<y3/\y3<=y2/\Jv wr w u0 vb x3 y3/\Ag w w wr) (fun vb wr=>P9 wr vb);exact⟨y2,hg3,Jr,Bg _,t3,hb3⟩
    obtain⟨y3,hg4,y30,y32,t4,hb4⟩:=hrel;have M1:=F (SZ t4.b);obtain⟨g4,c4',rfl,Ajp,ly4⟩:=UX t4.b y30;have k3:=Il y32;obtain⟨p,hp⟩:=Az (y3%2);have cB:=aS t4.b ly4 J hp;have Nf:p=0\/p=1:=J;have Hp:=F hp;have T4:=F t4;clear hp t4;rcases Nf with rfl | rfl
    ·go_wp2_with(go_at_call 176;refine cB.mono ?_;rintro e w' ⟨rfl,rfl⟩)
     refine(aR w _ _ y3 x3 wr T4.out.swap y30 J).mono ?_;rintro e w7⟨v5,rfl,t5,Bh⟩;have b5:=Bh w (Bg _);have hg5:Aj (Nat.gcd x3 (y3 / 2)=D):=F (by rw[Ab2 (qrf hg4.out gR) Hp];exact hg4.out);have x5:0<y3 / 2:=by have:=Hp.out;omega
     have Q1:=F (show y3 / 2<=y2 by omega);have M5:=F (SZ t5.a);go_wp2_with fail;go_roundw;exact⟨y3 / 2,hg5,x5,Q1.out,t5.swap,hb4.trans b5⟩;rw[M1.out,M5.out];omega
    ·go_wp2_with(go_at_call 176;refine cB.mono ?_;rintro e w' ⟨rfl,rfl⟩)
     go_meet;exact⟨y3,hg4,y30,y32,T4.out,hb4⟩
   obtain⟨y3,hg4,y30,y32,t4,hb4⟩:=hcut;obtain⟨w6,rfl⟩:=qgn wc;have k3:=Il Ri;have k4:=Il y32;have cO:=Ace _ _ _ _ _ _ t4;by_cases hlt:x3<y3
   ·rw[XX hlt]at cO
    have T4:=F t4;clear t4;go_wp2_with(go_at_call 137;refine gqz cO fun w7 Cl=>?_);have hg7:Aj (Nat.gcd (y3-x3) x3=D):=F (by rw[pN (EO hlt),Nat.gcd_comm];exact hg4.out);have b67:=hb4.trans (Cl.mono hb4.size);have Q1:=F (show y3-x3<=M/\x3<=M/\y3-x3+x3<x2+y2 by omega);refine(pX w _ _ y3 x3 w7 (T4.out.swap.on Cl) (EO hlt) J b67.size).mono ?_;rintro e w8⟨v8,rfl,t8,Cv⟩;have b8:=b67.trans (Cv.mono b67.size);have Ms:=F (show P9 w8 v8+P9 w8 u0=y3-x3+x3 by rw[SZ t8.a,SZ t8.b]);go_wp2_with fail;go_roundw;exact⟨y3-x3,x3,hg7,x30,Q1.out.1,Q1.out.2.1,t8,b8⟩;rw[pZ.out,Ms.out];exact Q1.out.2.2
   ·obtain⟨o,ho,ho0⟩:∃o,Ey x3 y3=o/\0<=o:=by
     refine⟨_,Q,?_⟩;unfold Ey;rw[AU hlt];split <;> decide
    rw[ho]at cO;have hle:y3<=x3:=J;have T4:=F t4;clear t4 ho;go_wp2_with(go_at_call 137;refine gqz cO fun w7 Cl=>?_);have hg7:Aj (Nat.gcd (x3-y3) y3=D):=F (by rw[pN hle];exact hg4.out);have b67:=hb4.trans (Cl.mono hb4.size);have Q1:=F (show x3-y3<=M/\y3<=M/\x3-y3+y3<x2+y2 by omega);refine(pX w _ _ x3 y3 w7 (T4.out.on Cl) hle J b67.size).mono ?_;rintro e w8⟨v8,rfl,t8,Cv⟩;have b8:=b67.trans (Cv.mono b67.size);have Ms:=F (show P9 w8 v8+P9 w8 u1=x3-y3+y3 by rw[SZ t8.a,SZ t8.b]);go_wp2_with fail;go_roundw;exact⟨x3-y3,y3,hg7,y30,Q1.out.1,Q1.out.2.1,t8,b8⟩;rw[pZ.out,Ms.out];exact Q1.out.2.2
 obtain⟨bD,BC⟩:=hcut;obtain⟨w9,rfl⟩:=qgn wc;have D0:0<D:=by have:=gR.out;omega
 have kD:(AJ D).length<=1000:=by
  have h1:D<=y:=Nat.le_of_dvd y1 (by rw[<-HD.out];exact Xh _ _);have:=Il (Br h1 yM2);omega
 obtain⟨g9,c9,rfl,hg9,lD⟩:=UX bD D0;obtain⟨_,nD⟩:=pW bD;obtain⟨q,hq⟩:∃q:Nat,(t:Int) / 32=(q:Int):=⟨t / 32,J⟩
 obtain⟨AP,hN⟩:∃AP:Nat,((AJ D).length:Int)+(q:Int)+1=(AP:Int):=⟨(AJ D).length+q+1,J⟩
 have HN:Aj (AP=(AJ D).length+q+1):=F J;have Hq:Aj (q=t / 32):=F J;have n3:AP<=3000:=J;have n4:(AJ D).length<=AP:=J
 go_wp2_with(first
  | (at_make;refine Nb underlying56 Um (fun n:Nat=>Value.int .u32 n) 0 AP ?_;intro Bs qa CP)
  | (refine jK Q _ _ 56 56 Q 132 underlying56 dO (f:=fun n:Nat=>Value.int .u32 n) (fun _=>rfl) (m:=AJ D) Q Q qa AO (nD.arr.on CP) n4 CP ?_;intro FW Acg GH))
 have v11:AF (AJ D++ List.drop (AJ D).length (List.replicate AP 0))=D:=by
  rw[List.drop_replicate,jZ,ZB,Bu,Nat.mul_zero,Sz]
 have d11:BZ AZ (AJ D++ List.drop (AJ D).length (List.replicate AP 0)):=(Ul D).app (fun x hx=>BZ.rep (b:=AZ) AC AP x (List.mem_of_mem_drop hx))
 have l11:(AJ D++ List.drop (AJ D).length (List.replicate AP 0)).length=AP:=by
  rw[KZ,SI,Ue];omega
 have b9:=BC.trans (GH.mono BC.size);have st:=Acd HN Hq;have sz9:=BC.size;generalize AJ D++ List.drop (AJ D).length (List.replicate AP 0)=L0 at*;have St:Aj (Dbl D t 0 (AF L0) AP):=F (qrf v11 st);have D11:=F d11;have L11:=F l11;clear v11 d11 l11 st hN hq qa;go_loopw [66] (fun i wr=>∃(k:Nat) (L:List Nat),k<=t/\i=U O k/\Aj (Y L=AP)/\Aj (BZ AZ L)/\Aj (Dbl D t k (AF L) AP)/\Own wr w9 132 1 CR (R (I ⟨w9,0,Z⟩) AP AP) L/\Ag w w wr) (fun i _=>t-(intOf i).toNat);exact⟨0,L0,BM _,rfl,L11,D11,St,Acg,b9⟩
 obtain⟨k,L,hk,rfl,hL,hd,hD,own,hbr⟩:=hrel;by_cases hlt:k<t
 ·have cD:=jR w9 L 0 w9 AP wr own hL hd J AC
  obtain⟨r1,r2⟩:=hD.out.next hlt;have R1:=F r1;have R2:=F r2;clear r1 r2;go_wp2_with fail;refine cD.mono ?_;rintro e E7⟨rfl,L',h,hL',hd',hv',T7,gr'⟩;have eV:=Acc (L:=AP) (l:=L) hL' hv' R1;have bb:=hbr.grown gr' hbr.size (fun q hq=>by cases hq;omega);have HL':=F hL';have Hd':=F hd';have R3:Aj (Dbl D t (k+1) (AF L') AP):=F (qrf eV R2);clear hL' hd' hv' eV;go_wp2_with fail;go_roundw;exact⟨k+1,L',J,qgm,HL',Hd',R3,T7,bb⟩;simp[intOf];omega
 ·obtain rfl:k=t:=J
  have nt:=Zy own hd;have cT:=ZA nt;rw[hL.out]at cT;have bT:=Own.trim own hd;rw[QM hd]at bT;have eV:AF L=Nat.gcd X Bp:=by rw[hD.out.1,hGD.out,Om]
  rw[eV]at cT bT;have BT:=F (Big.down bT sz9);clear bT eV nt;go_wp2_with(go_at_call 129;refine mqv (cT) ?_);go_ret;exact⟨_,Q,BT.out,hbr⟩
end
def ix{α:Type}{l:List α}{k n:Nat}(h:Y l=n)(hk:k<n):∃x,l[k]?=I x:=⟨l[k]'(by omega),CH J⟩
theorem Ad1(A:Option AS)(n:Nat)(p:List AQ)(C:Option AS)(m:Nat)(s:List Int)(D:Option AS)(o:Nat)(b:List Bool)(f:Int)(w:V)(hA:Arr 5 AQ.enc w w A p)(hC:Arr 1 BD w w C s)(hD:Arr 1 C4 w w D b)
  (hs:Y s<=4096) (h0:Bz AQ.ok p=0) (h1:AR f 0 4096=true) (h2:Cz s 0 (Y p-1)=0) (h3:s.all (NV f)=true) (h4:Y s=Y b):
  AL AE 272 #[R A (Y p) n,R C (Y s) m,R D (Y b) o,U O f] w fun e w'=>e=AN (Be #[Xq (GL p s b f),U O (Gw p s b f)])/\Ag w w w':=by
 have hb0:=AB (AB (Ae w w) (N #[U O 0,U O 0,U O 0,U O 0,U O 0,U O 0,U O 0,U O 0,U O 0] 375)) (N #[U O 0,U O 0,U O 0,U O 0,U O 0,U O 0,U O 0,U O 0,U O 0] 375);have hlen:=(Lb.1 h0).1;have H0:=F h0;have H1:=F h1;have H2:=F h2;have H6:=F (fun h5=>gn6 h0 h1 h2 h3 h4 h5);have H7:=F (fun h5=>gn7 h0 h1 h2 h3 h4 h5);have H4:=F h4;have g4:((Y s:Int) != (Y b:Int))=false:=by simp[h4]
 have r9:Aj (∀(k:Nat) (x:AQ),p[k]?=I x->0<=x.cls/\x.cls<=2):=F (fun k x hx=>AdW h0 hx);simp only[AR,decide_eq_true_eq]at h1;obtain⟨f1,f2⟩:=h1
 have eF:(0<Y s/\∃bk off x,C=I ⟨bk,off,Z⟩/\E w ⟨bk,off,Z⟩=I (U O x)/\decide (x<f)=false)\/¬0<Y s:=by
  by_cases hs0:0<Y s
  ·obtain⟨bk,off,x,rfl,BN,hq,d0⟩:=hC.int hs0 (Ae _ _)
   rw[Sz]at d0;rw[EA]at h3;have:=h3 x (DI hq);simp only[NV,decide_eq_true_eq]at this;exact .inl ⟨hs0,bk,off,x,rfl,d0,Ds J⟩
  ·exact .inr hs0
 clear h0 h2 h3 h4;rcases eF with⟨hs0,bkc,AjB,xc,hCe,d0,hx0⟩ | hs0
 all_goals
  try subst hCe
  go_in
  go_wp2_with(first
   | (go_at_call 139;refine gqz (IF A n p _ (hA.on hb0) J) fun w2 hb2=>?_;rw[H0.out];(try have d1:=AK (AH hb0 hb2) d0);(try clear d0);have oA:=Own.below (Own.alloc (KR w w w 375 (Bg _) Q) _) hb2;have oB:=Own.below (KR (Ao w _) w (w.heap.size+1) 375 AO AO) hb2;obtain⟨a0,a1,a2,a3,a4,a5,a6,a7,a8⟩:=LD oA;obtain⟨b0,b1,b2,b3,b4,b5,b6,b7,b8⟩:=V4 oA Q;obtain⟨c0,c1,c2,c3,c4,c5,c6,c7,c8⟩:=LD oB)
   | (go_at_call 89;refine mqv (DJ _ _ _ _) ?_;rw[H1.out])
   | (go_at_call 269;refine mqv (RV _ m s 0 _ _ (hC.on (AH hb0 hb2)) J) ?_;rw[H2.out]))
  clear hs0
  try clear hx0 d1
  have q2:=AH hb0 hb2;go_loop [58] (fun i=>∃k:Nat,k<=Y s/\i=U O k/\(s.take k).all (Xp p)=true) (fun i=>Y s-(intOf i).toNat);exact⟨0,BM _,rfl,AO⟩
  obtain⟨k,hk,rfl,hall⟩:=hrel;have Ea:=F hall;clear hall;by_cases hlt:k<Y s
  ·obtain⟨bk,off,x,hCC,BN,hq,e0⟩:=hC.int hlt q2
   (first | cases hCC | subst hCC)
   have hr:=UZ H2 hq;obtain⟨j,rfl⟩:∃j:Nat,x=(j:Int):=⟨x.toNat,by simp[Ip]at hr;omega⟩
   have GD:j<Y p:=by simp[Ip]at hr;omega
   clear hr;obtain⟨bk2,TQ,pb,BK,pc,Cf,ps,rfl,VY,hp,p0,p1,p2,p3,p4⟩:=hA.pls GD q2;have Hse:=F (AdU hp);cases ps
   ·have Hg:=F (H6.out (ve hq Hse))
    go_wp2;refine qti ?_;refine De (v:= Be #[Ba #[U O 0,U O 0,U O 0,U O 0,U O 0,U O 0,U O 0,U O 0,U O 0],U O (11)]) ?_ Q ⟨by rw[Hg.out.1,Hg.out.2];rfl,Wf (q2) (Bg _)⟩;rw[Jg Q];go_simp
   ·go_wp2
    go_round;exact⟨k+1,J,qgm,Vu hq Ea Hse⟩;simp[intOf];omega
  ·have Hg:=F (H7.out (by have:=Ea.out;rw[EG J]at this;exact this))
   clear Ea a0 a1 a2 a3 a4 a5 a6 a7 a8 b0 b1 b2 b3 b4 b5 b6 b7 b8 c0 c1 c2 c3 c4 c5 c6 c7 c8 H6 H7;go_wp2;go_loopw [72] (fun i wr=>∃k:Nat,k<=Y p/\i=U O k/\Own wr w 375 1 (fun x=>[Df x]) (R (I ⟨w,0,Z⟩) 9 9) ML/\Own wr w 375 1 (fun x=>[Df x]) (R (I ⟨↑w+1,0,Z⟩) 9 9) (GJ p f k)/\Ag w w wr) (fun i _=>Y p-(intOf i).toNat);exact⟨0,BM _,rfl,oA,oB,q2⟩
   clear oA oB hlt hk;obtain⟨k,hk,rfl,oA,oB,hb⟩:=hrel;have RY:=F (qX p f k);by_cases hlt:k<Y p
   ·obtain⟨bk,off,pb,BK,pc,Cf,ps,rfl,BN,hq,p0,p1,p2,p3,p4⟩:=hA.pls hlt hb
    by_cases hf:f<=(k:Int)
    ·cases ps
     ·go_wp2
      go_roundw
      case rel=>exact⟨k+1,J,qgm,oA.alloc _,by rw[AdQ hq rfl];exact oB.alloc _,AB hb _⟩
      case measure=>simp[intOf];omega
     ·have hc:=r9.out k _ hq
      simp only at hc;obtain⟨j,rfl⟩:∃j:Nat,pc=(j:Int):=⟨pc.toNat,J⟩
      have hj3:j<3:=J;clear hc;obtain⟨x,hx⟩:=ix RY (k:=j*3) J;have hbd:=qY p f k _ _ hx;have Hn:Aj (GJ p f (k+1)=(GJ p f k).set (j*3) (x+1)):=F (by rw[AdP hq hf Q];exact Xo hx);have oB2:=oB.alloc (N #[U O pb,Av BK,U O j,U O Cf,Av true] 154);have e0:=Own.Eg (f:=Df) oB2 RY hx;have e1:=Own.Dc (f:=Df) oB2 RY (j*3);have Hs:=F (Own.Ft (f:=Df) oB2 RY (j*3) (x+1));have Ho:=F (Own.other (k:=j*3) (x:=Df (x+1)) (oA.alloc (N #[U O pb,Av BK,U O j,U O Cf,Av true] 154)) oB2 RY J);unfold Df at e0;clear oB2 hx;go_wp2;go_roundw;exact⟨k+1,J,qgm,Ho.out,qrf Hn.out Hs,(AB hb _).setCell (OD _) _⟩;simp[intOf];omega
    ·go_wp2
     go_roundw
     case rel=>exact⟨k+1,J,qgm,oA.alloc _,by rw[AdR hq hf];exact oB.alloc _,AB hb _⟩
     case measure=>simp[intOf];omega
   ·obtain rfl:k=Y p:=J
    have HGb:=F (qY p f (Y p));obtain⟨G,hG⟩:=Az (GJ p f (Y p));rw[hG]at oB Hg HGb RY;clear hG;go_wp2;go_loopw [95] (fun i wr=>∃k:Nat,k<=Y s/\i=U O k/\Own wr w 375 1 (fun x=>[Df x]) (R (I ⟨w,0,Z⟩) 9 9) ML/\Own wr w 375 1 (fun x=>[Df x]) (R (I ⟨↑w+1,0,Z⟩) 9 9) (GK p s b G k)/\Ag w w wr) (fun i _=>Y s-(intOf i).toNat);exact⟨0,BM _,rfl,oA,oB,hb⟩
    clear oA oB hb hlt hk;obtain⟨k,hk,rfl,oA,oB,hb⟩:=hrel;have hhl:=F ((qZ p s b G k).trans RY.out);by_cases hlt:k<Y s
    ·obtain⟨bk,off,x,hCC,BN,hq,c0⟩:=hC.int hlt hb
     (first | cases hCC | subst hCC)
     have hr:=UZ H2 hq;obtain⟨i,rfl⟩:∃i:Nat,x=(i:Int):=⟨x.toNat,by simp[Ip]at hr;omega⟩
     have hil:i<Y p:=by simp[Ip]at hr;omega
     clear hr;obtain⟨bk2,TQ,pb,BK,pc,Cf,ps,rfl,VY,hp,p0,p1,p2,p3,p4⟩:=hA.pls hil hb;have hc:=r9.out i _ hp;simp only at hc;obtain⟨j,rfl⟩:∃j:Nat,pc=(j:Int):=⟨pc.toNat,J⟩
     have hj3:j<3:=J;clear hc;obtain⟨x,hx⟩:=ix hhl (k:=j*3+1) J;have hbd:=r7 p s b G HGb k _ _ hx;have hlB:Aj (((GK p s b G k).set (j*3+1) (x+1)).length=9):=F (by rw[LN];exact hhl.out);obtain⟨y,hy⟩:=ix hlB (k:=j*3+2) J
     have AjC:0<=y/\y<=((Y p+2*k+1:Nat):Int):=by
      rw[<-Xo hx]at hy;exact((r7 p s b G HGb k).bE (j*3+1)) _ _ hy
     have AjD:=oB.dK;have hkb:k<Y b:=by have:=H4.out;omega
     have oB2:=oB.alloc (N #[U O pb,Av BK,U O j,U O Cf,Av ps] 154);have e0:=Own.Eg (f:=Df) oB2 hhl hx;have e1:=Own.Dc (f:=Df) oB2 hhl (j*3+1);have Hs:=F ((Own.Ft (f:=Df) oB hhl (j*3+1) (x+1)).alloc (N #[U O pb,Av BK,U O j,U O Cf,Av ps] 154));have Ho:=F ((Own.other (k:=j*3+1) (x:=Df (x+1)) oA oB hhl J).alloc (N #[U O pb,Av BK,U O j,U O Cf,Av ps] 154));have hbW:Ag w w (Ao (Ai wr ⟨↑w+1,j*3+1,Z⟩ (U O (x+1))) (N #[U O pb,Av BK,U O j,U O Cf,Av ps] 154)):=AB (hb.setCell (OD _) _) _;obtain⟨bk3,Yx,bb,rfl,AjE,hbq,f0⟩:=hD.bool (k:=k) hkb hbW;have hsz:(Ai wr ⟨↑w+1,j*3+1,Z⟩ (U O (x+1))).heap.size=wr.heap.size:=AO
     have f1:E (Ao (Ai wr ⟨↑w+1,j*3+1,Z⟩ (U O (x+1))) (N #[U O pb,Av BK,U O j,U O Cf,Av ps] 154)) ⟨wr,1,Z⟩=I (Av BK):=by
      rw[<-hsz];exact Cb Q
     have f2:E (Ao (Ai wr ⟨↑w+1,j*3+1,Z⟩ (U O (x+1))) (N #[U O pb,Av BK,U O j,U O Cf,Av ps] 154)) ⟨wr,2,Z⟩=I (U O j):=by
      rw[<-hsz];exact Cb Q
     clear hsz;have l0:=Di f0;have l1:=Di f1;have F2:=F f2;have Hy:=F hy;have Hp:Aj (p[((i:Int)).toNat]?=I ⟨pb,BK,(j:Int),Cf,ps⟩):=F hp.out;have Hx:=F hx;unfold Df at e0;clear oB2 hx hy f0 f1 f2;by_cases VO:BK=bb
     ·have Hn:Aj (GK p s b G (k+1)=(GK p s b G k).set (j*3+1) (x+1)):=F (by rw[AdS hq hbq Hp VO];exact Xo Hx)
      subst VO;go_wp2;refine qrl ?_;rintro w4⟨⟨_,hb4⟩,rfl⟩;go_wp2;go_roundw;exact⟨k+1,J,qgm,Ho.out.below hb4,qrf Hn.out (Hs.out.below hb4),hbW.trans (hb4.mono hbW.size)⟩;simp[intOf];omega
     ·have Hn:Aj (GK p s b G (k+1)=((GK p s b G k).set (j*3+1) (x+1)).set (j*3+2) (y+1)):=F (by rw[AdT hq hbq Hp VO,<-Xo Hx];exact Xo (G:=Jy (GK p s b G k) (j*3+1)) (i:=j*3+2) (by rw[Xo Hx];exact Hy.out))
      obtain rfl:bb = !BK:=by cases BK <;> cases bb <;> simp_all
      clear VO;go_wp2;refine qrl ?_;rintro w4⟨⟨_,hb4⟩,rfl⟩;have m0:=AK hb4 F2;have oB4:=Hs.out.below hb4;have m1:=Own.Eg (f:=Df) oB4 hlB Hy;have m2:=Own.Dc (f:=Df) oB4 hlB (j*3+2);have Hs2:=F (Own.Ft (f:=Df) oB4 hlB (j*3+2) (y+1));have Ho2:=F (Own.other (k:=j*3+2) (x:=Df (y+1)) (Ho.out.below hb4) oB4 hlB J);unfold Df at m1;clear oB4;go_wp2;go_roundw;exact⟨k+1,J,qgm,Ho2.out,qrf Hn.out Hs2,(hbW.trans (hb4.mono hbW.size)).setCell (OD _) _⟩;simp[intOf];omega
    ·obtain rfl:k=Y s:=J
     obtain⟨g0,g1,g2,g3,g4',g5,g6,g7,g8,hG9⟩:=AdX hhl;rw[hG9]at oB Hg;obtain⟨a0,a1,a2,a3,a4,a5,a6,a7,a8⟩:=LD oA;obtain⟨b0,b1,b2,b3,b4,b5,b6,b7,b8⟩:=V4 oA Q;obtain⟨c0,c1,c2,c3,c4,c5,c6,c7,c8⟩:=LD oB;clear hG9;go_wp2;refine qti ?_;refine De (v:= Be #[Ba #[U O g0,U O g1,U O g2,U O g3,U O g4',U O g5,U O g6,U O g7,U O g8],U O 0]) ?_ Q ⟨by rw[Hg.out.1,Hg.out.2];rfl,Wf hb (Bg _)⟩;rw[Jg Q];go_simp
theorem Ad2(A:Option AS)(n:Nat)(p:List AQ)(C:Option AS)(m:Nat)(s:List Int)(D:Option AS)(o:Nat)(b:List Bool)(f:Int)(w:V)(hA:Arr 5 AQ.enc w w A p)(hC:Arr 1 BD w w C s)(hD:Arr 1 C4 w w D b)
  (hp:Y p<=4611686018427387904) (hs:Y s<=4096) (hd:Y b<=4611686018427387904):
  AL AE 272 #[R A (Y p) n,R C (Y s) m,R D (Y b) o,U O f] w fun e w'=>e=AN (Be #[Xq (GL p s b f),U O (Gw p s b f)])/\Ag w w w':=by
 grind [Xq,GL,Gw,Arr,AQ.enc,BD,C4,Ad1,AdY]
def Of(p:List AQ)(c:List Bf)(s:Int)(i:Nat):Bool:=match p[i]? with
 | none=>false
 | some x=>if 0<=(i:Int)+s then(match c[((i:Int)+s).toNat]? with | none=>false | some q=>x.seen&&(x.basis == q.basis)&&GR q.kind)else false
def MZ(p:List AQ)(c:List Bf)(s:Int):Nat->List Int
 | 0=>[]
 | k+1=>MZ p c s k++ (if Of p c s k=true then[(k:Int)]else[])
def Wo(p:List AQ)(c:List Bf)(s:Int)(x:Int):Bool:=V0 p x != W7 c s x
def N6(p:List AQ)(c:List Bf)(s:Int)(k:Nat):List Int:=(MZ p c s k).filter (Wo p c s)
theorem ji(p:List AQ)(c:List Bf)(s:Int):∀n,(MZ p c s n).length<=n
 | 0=>Bg _
 | n+1=>by
  have:=ji p c s n;rw[MZ,KZ];split <;> simp <;> omega
def Ahg(p:List AQ)(c:List Bf)(s:Int)(n:Nat):(N6 p c s n).length<=n:=
 Br (dq _ _) (ji p c s n)
section
variable {p:List AQ} {c:List Bf} {s:Int} {k:Nat}
theorem Zd(h:Of p c s k=false):MZ p c s (k+1)=MZ p c s k/\N6 p c s (k+1)=N6 p c s k:=by
 grind [MZ,N6,Of]
theorem dr(h:Of p c s k=true):MZ p c s (k+1)=MZ p c s k++ [(k:Int)]:=by rw[MZ,h];simp
theorem tG(h:Of p c s k=true)(h2:Wo p c s k=true):N6 p c s (k+1)=N6 p c s k++ [(k:Int)]:=by
 grind [N6,Of,Wo,dr]
theorem tH(h:Of p c s k=true)(h2:Wo p c s k=false):N6 p c s (k+1)=N6 p c s k:=by
 grind [N6,Of,Wo,dr]
end
end Go.Proofs.YtjpidgffdkjjeaaGreat
