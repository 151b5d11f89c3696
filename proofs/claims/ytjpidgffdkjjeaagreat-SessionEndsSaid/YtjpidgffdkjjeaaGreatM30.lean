/- Contracts and plain laws. No condition. -/
import Derived.Deep.Onto
import Derived.Test.YtjpidgffdkjjeaaGreatMA
import Derived.Test.YtjpidgffdkjjeaaGreatM19
import Derived.Test.YtjpidgffdkjjeaaGreatM28
import Derived.Test.YtjpidgffdkjjeaaGreatM29
set_option linter.all false
set_option maxHeartbeats 16000000
namespace Go.Proofs.YtjpidgffdkjjeaaGreat
open Go.Proofs.Tryz
open Go.Proofs.Tryz renaming prog->AE
open List renaming length->Y
open Go.World renaming cell?->E,setCell->Ai,alloc->Ao,frozen?->Bo
open Go.Value renaming int->U,slice->R,pointer->AI,agg->Ba,tuple->Be,nilFunc->Bl,bool->Av
open Go.IntKind renaming i64->O,u64->AA,u32->BF,u8->Cd
open Option renaming none->Z,some->I
open Go.Ending renaming returned->AN
open Go.Obj renaming cells->N
open Go renaming World->V,Value->An,Calls->AL,Addr->AS
open Go.RowKit renaming Below->Ag,Hid->Aj
open Go.RowKit Go.Maps
set_option maxRecDepth 100000
section
variable{M:Dg}{q:Bt}{st:BX}{v:Bj}{w:V}{τ:Nat->Nat}
def uP(h:CO τ w M v q)(fr:BU τ w)(hv:Gm v)(hk:Oh v st)(iv:Dv v q)(k a c:Int):
  AL AE 15 #[AI (I ⟨M.b,0,Z⟩),Ba #[U O k,U O a,U O c]] w (DoR τ w M v (v.CI q ⟨k,a,c⟩)):=by
 by_cases hh:(k<1\/8<k)\/k=1\/6<=k\/a<0\/Y q.way<=a
 ·exact AhB h fr hv hk iv k a c hh
 ·obtain⟨n,rfl⟩:=DV (show 0<=a by omega)
  have hn:n<Y q.way:=J;exact AiS h fr hv iv k n c (CH hn) J
def Bj.PF(v:Bj)(q:Bt)(m:Int):Bt × Int × Int:=if m<0\/100000<m then(q,0,3)else((v.GB m.toNat q).1,(v.GB m.toNat q).2,0)
structure uQ(τ:Nat->Nat)(w:V)(M:Dg)(v:Bj)(q:Bt)(m:Nat)(k:Nat)(τ':Nat->Nat)(wr:V)(M':Dg)(q':Bt):Prop where
 le:k<=m
 f:EN M.T τ τ' w wr
 fr:BU τ' wr
 p:CO τ' wr M' v q'
 x:GO M M'
 iv:Dv v q'
 e:v.GB m q=((v.GB (m-k) q').1,(v.GB (m-k) q').2+k)
def SH(h:CO τ w M v q)(fr:BU τ w)(hv:Gm v)(hk:Oh v st)(iv:Dv v q)(m:Int):
  AL AE 29 #[AI (I ⟨M.b,0,Z⟩),U O m] w fun e w'=>e=AN (Be #[U O (v.PF q m).2.1,U O (v.PF q m).2.2])/\Dh τ w M v (v.PF q m).1 w':=by
 have cV:=Zc h;obtain⟨AW,hR⟩:=Az (v.PF q m);have HR:=F hR;rw[hR];clear hR;go_enter func29,ntmps29;by_cases g0:m<0
 ·have hr:Aj (AW=(q,0,3)):=F (by rw[<-HR.out];unfold Bj.PF;rw[Bd (.inl g0)])
  go_wp2_with(go_at_call 56;refine mqv (cV) ?_);go_ret2;rw[hr.out];exact⟨Q,Dh.stay h fr (Ae _ _)⟩
 by_cases g1:100000<m
 ·have hr:Aj (AW=(q,0,3)):=F (by rw[<-HR.out];unfold Bj.PF;rw[Bd (.inr g1)])
  go_wp2_with(go_at_call 56;refine mqv (cV) ?_);go_ret2;rw[hr.out];exact⟨Q,Dh.stay h fr (Ae _ _)⟩
 obtain⟨mn,rfl⟩:=DV (Int.not_lt.1 g0);have hr:Aj (AW=((v.GB mn q).1,((v.GB mn q).2:Int),0)):=F (by rw[<-HR.out];unfold Bj.PF;rw[AU J,Ro]);go_wp2_with(go_at_call 56;refine mqv (cV) ?_);go_loopw [6] (fun nv wr=>∃(k:Nat) (τ':Nat->Nat) (M':Dg) (q':Bt),nv=U O k/\uQ τ w M v q mn k τ' wr M' q') (fun nv _=>mn-(intOf nv).toNat)
 case atStart=>exact⟨0,τ,M,q,rfl,⟨BM _,EN.refl _ _ _,fr,h,GO.refl M,iv,AO⟩⟩
 case round=>
  obtain⟨k,τ',M',q',rfl,C0⟩:=hrel;obtain⟨fv,f1,f2,f3,f4⟩:=C0.p.way;obtain⟨A,c,CZ,_,_,_,_⟩:=f2.form BW.BY;have Cm:Y fv=Y q'.way:=by rw[<-f1,Dz]
  have IK:E wr ⟨M.b,39,Z⟩=I (R A (Y q'.way) c):=by rw[<-C0.x.b,<-Cm,<-CZ];exact C0.p.row.c 39
  have cD:=uP C0.p C0.fr hv hk C0.iv 2 0 0;rw[C0.x.b]at cD;clear f1 f2 f3 f4 CZ Cm h cV HR;by_cases hkm:k<mn
  ·by_cases hw:Y q'.way=0
   ·have hE:Aj (v.GB mn q=(q',k)):=F (by
     rw[C0.e];obtain⟨j,hj⟩:∃j,mn-k=j+1:=⟨mn-k-1,J⟩
     rw[hj];unfold Bj.GB;rw[Bd hw];simp)
    rw[hw]at IK;go_wp2_with fail;go_ret2;rw[hr.out,hE.out];exact⟨Q,τ',M',C0.f,C0.fr,C0.p,C0.x⟩
   ·have g5:(0:Int)<(Y q'.way:Int):=J
    go_wp2_with fail;refine cD.mono ?_;rintro e w2⟨rfl,pe⟩;obtain⟨τ2,M2,F2,Ej,P2,px2⟩:=pe;rw[C0.x.T]at F2
    have Bi:uQ τ w M v q mn (k+1) τ2 w2 M2 (v.CI q' ⟨2,0,0⟩).1:=⟨hkm,C0.f.trans F2,Ej,P2,C0.x.trans px2,de hv C0.iv _,by
     rw[C0.e];obtain⟨j,hj⟩:∃j,mn-k=j+1:=⟨mn-k-1,J⟩
     have hj2:mn-(k+1)=j:=J;rw[hj,hj2]
     conv=>lhs;unfold Bj.GB
     rw[AU hw];simp only[Nat.add_assoc,Nat.add_comm]⟩
    clear cD C0;go_wp2_with fail;exact⟨⟨k+1,τ2,M2,_,qgm,Bi⟩,qio⟩
  ·have hE:Aj (v.GB mn q=(q',k)):=F (by
    rw[C0.e];have e0:mn-k=0:=J;rw[e0];unfold Bj.GB;simp)
   have hkk:k=mn:=by have:=C0.le;omega
   subst hkk;go_wp2_with fail;go_ret2;rw[hr.out,hE.out];exact⟨Q,τ',M',C0.f,C0.fr,C0.p,C0.x⟩
end
def AiT(n s:Nat)(w:V)(hn:n<=65536):AL AE 55 #[U O n,U AA s] w fun e w'=>∃v,e=AN v/\Own w' w 4 1 C4 v (GW s n)/\Ag w w w':=by
 have cN:=TJ s w;have c0:E (Ao w (N #[U AA s,Av true] 219)) ⟨w,0,Z⟩=I (U AA s):=Cb Q;have c1:E (Ao w (N #[U AA s,Av true] 219)) ⟨w,1,Z⟩=I (Av true):=Cb Q;have fz:Bo (Ao w (N #[U AA s,Av true] 219)) ⟨w,0,Z⟩=false:=CJ _ _ 0 _ _ (CB w _);have cB:=mF w s n (Ao w (N #[U AA s,Av true] 219)) c0 fz c1 hn;have q1:=AB (Ae w w) (N #[U AA s,Av true] 219);go_enter func55,ntmps55;go_wp2_with fail;refine cN.mono ?_;rintro e w1⟨rfl,rfl⟩;go_wp2_with fail;refine cB.mono ?_;rintro e w2⟨v,rfl,own,gr,-,-,-⟩;have hb:=q1.grown gr q1.size (fun k hk=>by cases hk;exact Bg _);go_wp2_with fail;go_ret;exact⟨v,Q,World.ownsRow.mono own q1.size,hb⟩
structure L7(w:V)(v:Bj)(b0:Nat)(τ:Nat->Nat)(wr:V)(M:Dg)(q:Bt):Prop where
 b:Ag w w wr
 fr:BU τ wr
 z:∀k,k<↑w->τ k=0
 p:CO τ wr M v q
 iv:Dv v q
 mb:M.b=b0
section
variable {w wr w':V} {v:Bj} {b0:Nat} {τ:Nat→Nat} {M:Dg} {q q':Bt}
def Kpz(τ τ':Nat->Nat)(w w':V):Prop:=∀g,g<↑w->τ g=0->τ' g=0/\w'.heap[g]?=w.heap[g]?
def L7.go(h:L7 w v b0 τ wr M q)(pe:Dh τ wr M v q' w')(iv:Dv v q'):∃τ' M',L7 w v b0 τ' w' M' q'/\Kpz τ τ' wr w':=by
 obtain⟨τ',M',AY,fr,P,px⟩:=pe;have hb:Ag w wr w':=⟨AY.out.os,AY.out.tape,AY.out.output,AY.out.size,fun k hk=>AY.out.block k (Ck hk h.b.size) (fun e=>by rw[h.z k hk]at e;exact h.p.tags.zero e)⟩
 exact⟨τ',M',⟨h.b.trans hb,fr,fun k hk=>(AY.tag k (Ck hk h.b.size)).trans (h.z k hk),P,iv,px.b.trans h.mb⟩,fun g hg h0=>⟨(AY.tag g hg).trans h0,AY.out.block g hg (fun e=>by rw[h0]at e;exact h.p.tags.zero e)⟩⟩
def L7.on(h:L7 w v b0 τ wr M q)(hb:Ag wr wr w'):L7 w v b0 τ w' M q:=
 ⟨AH h.b hb,h.fr.on hb.size,h.z,h.p.on hb,h.iv,h.mb⟩
theorem BO.cs{z:AV}{a:Bb}(h:BO z a):∀c m,a.course=I (c,m)->Y m.b<=100000/\Y m.told<=3000000000:=fun c m e=>by
 obtain⟨h1,h2,h3⟩:=h.crs c m e;refine⟨J,?_⟩;have h4:=h2.1.few;have h5:=h1.P;have h6:=h1.n;have h7:(c.n+1)*(c.n+1)<=513*513:=Nd J J;have h8:=Nd h5.2 h7;omega
theorem L7.XM(h:L7 w v b0 τ wr M q)(i:Int)(hi:i=0\/i=1):AL AE 19 #[AI (I ⟨b0,0,Z⟩),U O i] wr fun e w'=>
  ∃τ' x nb mb,e=AN (AI (I ⟨wr,0,Z⟩))/\Ag wr wr w'/\BU τ' w'/\Bx τ' w' 4 wr x v.W nb mb v.bits (q.at i)/\x.z v.W v.bits=v.z i:=by
 have hc:=AgY h.p h.fr i hi h.iv.x.cs h.iv.y.cs (by have:=h.iv.x.few;omega) (by have:=h.iv.y.few;omega) 4;rw[h.mb]at hc;refine hc.mono ?_;rintro e w' (⟨rfl,τ',x,nb,mb,he,hb,_,_,fr,st,h1,h2⟩ | ⟨rfl,τ',x,nb,mb,he,hb,_,_,fr,st,h1,h2⟩)
 ·exact⟨τ',x,nb,mb,he,hb,fr,st,by rw[<-h.p.z0];unfold BR.z;grind⟩
 ·exact⟨τ',x,nb,mb,he,hb,fr,st,by rw[<-h.p.z1];unfold BR.z;grind⟩
def L7.does(h:L7 w v b0 τ wr M q)(hv:Gm v){st:BX}(hk:Oh v st)(k a c:Int):AL AE 15 #[AI (I ⟨b0,0,Z⟩),Ba #[U O k,U O a,U O c]] wr fun e w'=>
  e=AN (U O (v.CI q ⟨k,a,c⟩).2)/\∃τ' M',L7 w v b0 τ' w' M' (v.CI q ⟨k,a,c⟩).1/\Kpz τ τ' wr w':=by
 have hc:=uP h.p h.fr hv hk h.iv k a c;rw[h.mb]at hc;refine hc.mono ?_;rintro e w'⟨he,pe⟩;exact⟨he,h.go pe (de hv h.iv _)⟩
def L7.AiZ(h:L7 w v b0 τ wr M q)(hv:Gm v){st:BX}(hk:Oh v st)(m:Int):AL AE 29 #[AI (I ⟨b0,0,Z⟩),U O m] wr fun e w'=>
  e=AN (Be #[U O (v.PF q m).2.1,U O (v.PF q m).2.2])/\∃τ' M',L7 w v b0 τ' w' M' (v.PF q m).1/\Kpz τ τ' wr w':=by
 have hc:=SH h.p h.fr hv hk h.iv m;rw[h.mb]at hc;refine hc.mono ?_;rintro e w'⟨he,pe⟩;refine⟨he,h.go pe ?_⟩;unfold Bj.PF;split
 ·exact h.iv
 ·exact sY hv _ h.iv
def L7.Ai0(h:L7 w v b0 τ wr M q):AL AE 13 #[AI (I ⟨b0,0,Z⟩)] wr fun e w'=>
  ∃vl fv,e=AN vl/\Own w' wr 41 6 BW.enc vl fv/\fv.map BW.f=q.way/\(∀x∈fv,x.Im τ w')/\Ag wr wr w':=by
 have hc:=AiX h.p h.fr h.iv;rw[h.mb]at hc;exact hc
end
def G7.s7(x:G7):jh:=⟨⟨x.k,x.a,x.b⟩,x.n⟩
def Bj.Sr(v:Bj):Bt->List G7->Bt
 | q,[]=>q
 | q,s::l=>v.Sr (v.QJ q s.s7) l
theorem uR(v:Bj):∀(l:List G7) (q:Bt) (s:G7),v.Sr q (l++ [s])=v.QJ (v.Sr q l) s.s7
 | [],_,_=>rfl
 | x::l,q,s=>uR v l (v.QJ q x.s7) s
def Ai1(v:Bj)(q:Bt){l:List G7}{k:Nat}{s:G7}(h:l[k]?=I s):v.Sr q (l.take (k+1))=v.QJ (v.Sr q (l.take k)) s.s7:=by
 rw[GU,h];exact uR v _ q s
theorem uS(v:Bj):∀(l:List G7) (q:Bt),(v.Sr q l).CE<=q.CE+Y l
 | [],q=>by simp[Bj.Sr]
 | x::l,q=>by
  have h1:=uS v l (v.QJ q x.s7);have h2:=Ahc v q x.s7
  grind [Bt.CE,Bj.Sr,Bj.QJ,G7.s7]
theorem uU(v:Bj)(i:Int):∀(n:Nat) (q:Bt),v.Je i (n+1) q=(v.CI (v.Je i n q) ⟨6,i,0⟩).1
 | 0,_=>rfl
 | n+1,q=>uU v i n (v.CI q ⟨6,i,0⟩).1
theorem drop_one{v:Bj}{q:Bt}(h:q.way≠[]):v.CI q ⟨3,0,0⟩=({q with way:=q.way.tail},0):=by
 cases hw:q.way with
 | nil=>grind
 | cons f l=>
  grind [Bj.CI]
def Ai2{w wr:V}{v:Bj}{b0:Nat}{τ:Nat->Nat}{M:Dg}{q:Bt}(h:L7 w v b0 τ wr M q)(hv:Gm v){st:BX}(hk:Oh v st)(x:G7)(hx:x.n<65536):
  AL AE 12 #[AI (I ⟨b0,0,Z⟩),Ba #[U O x.k,U O x.a,U O x.b,.int .u16 (x.n:Int)]] wr fun e w'=>e=AN (Be #[])/\∃τ' M',L7 w v b0 τ' w' M' (v.QJ q x.s7):=by
 obtain⟨xk,xa,xb,xn⟩:=x;simp only at hx ⊢;have b1:=AB (Ae wr wr) (N #[U O xk,U O xa,U O xb,.int .u16 (xn:Int)] 32);have r0:(Ao wr (N #[U O xk,U O xa,U O xb,.int .u16 (xn:Int)] 32)).heap[wr.heap.size]?=I (N #[U O xk,U O xa,U O xb,.int .u16 (xn:Int)] 32 (0,0)):=CB _ _;go_enter func12,ntmps12;go_upto_region 1 with fail;obtain⟨w1,BJ⟩:=Az (Ao wr (N #[U O xk,U O xa,U O xb,.int .u16 (xn:Int)] 32));rw[BJ]at b1 r0 ⊢;clear BJ;have c3:E w1 ⟨wr,3,Z⟩=I (.int .u16 (xn:Int)):=AX _ _ 3 _ _ _ r0;have L:=h.on b1;have cD:=L.does hv hk xk xa xb;have cS:=L.AiZ hv hk ((xn%700:Nat):Int)
 have hS:Aj (v.PF q ((xn%700:Nat):Int)=((v.GB (xn%700) q).1,((v.GB (xn%700) q).2:Int),0)):=F (by
  unfold Bj.PF;rw[AU J,Ro])
 have e7:(xn:Int)%700=((xn%700:Nat):Int):=J;obtain⟨Cr,hZ⟩:∃Cr:Int,((xn%700:Nat):Int)=Cr:=⟨_,Q⟩
 rw[hZ]at cS hS e7;have AM:=F (show v.QJ q (⟨xk,xa,xb,xn⟩:G7).s7=if 0<xn then(v.GB (xn%700) q).1 else(v.CI q ⟨xk,xa,xb⟩).1 from rfl);clear hZ L b1 h;by_cases h0:0<xn
 ·have g0:(0:Int)<(xn:Int):=J
  have E1:Aj (v.QJ q (⟨xk,xa,xb,xn⟩:G7).s7=(v.GB (xn%700) q).1):=F (by rw[AM.out,Bd h0]);clear cD r0;go_wp2_with fail;refine cS.mono ?_;rintro e w2⟨rfl,τ',M',L2,-⟩;rw[hS.out]at L2;go_wp2_with fail;go_end0;rw[E1.out];exact⟨Q,τ',M',L2⟩
 ·have g0:¬(0:Int)<(xn:Int):=J
  have E1:Aj (v.QJ q (⟨xk,xa,xb,xn⟩:G7).s7=(v.CI q ⟨xk,xa,xb⟩).1):=F (by rw[AM.out,AU h0])
  have cc:∀(j:Nat) (u:An),(#[U O xk,U O xa,U O xb]:Array An)[j]?=I u->E w1 ⟨wr,0+j,Z⟩=I u:=fun j u hu=>by
   rw[EE,AX _ _ j _ _ _ r0]
   match j,hu with
   | 0,hu=>exact hu
   | 1,hu=>exact hu
   | 2,hu=>exact hu
  have Cc:=F cc;clear cS r0 cc;go_wp2_with(refine JN 29 _ Q wr 0 Q #[U O xk,U O xa,U O xb] _ Cc.out underlying29 Q (qiz 29 3) (by rfl) ?_);refine cD.mono ?_;rintro e w2⟨rfl,τ',M',L2,-⟩;go_wp2_with fail;go_end0;rw[E1.out];exact⟨Q,τ',M',L2⟩
def uV(m:Min)(w:V)(e:Ending)(w':V):Prop:=
 ∃τ M v f,e=AN (AI (I ⟨M.b,0,Z⟩))/\L7 w v M.b τ w' M U6/\Gm v/\Oh v (m.Dx f)/\v.W=m.W/\v.rules=m.rules/\v.light=m.light/\v.bits=GW ((m.seed+m.light)%18446744073709551616) 65536
def Ai3(m:Min)(hm:m.Ok)(hu:m.U8)(w:V):AL AE 11 #[m.val] w (uV m w):=by
 have b1:=AB (Ae w w) (N m.cs 24);have r0:(Ao w (N m.cs 24)).heap[w.heap.size]?=I (N m.cs 24 (0,0)):=CB _ _;show AL AE 11 #[Ba m] w _;go_enter func11,ntmps11;go_upto_region 1 with fail;change Code.wp _ _ _ _ (Ao w (N m.cs 24));obtain⟨w1,BJ⟩:=Az (Ao w (N m.cs 24));rw[BJ]at b1 r0 ⊢;clear BJ;have c18:E w1 ⟨w,18,Z⟩=I (U AA m.seed):=AX _ _ 18 _ _ _ r0;have c19:E w1 ⟨w,19,Z⟩=I (U AA m.light):=AX _ _ 19 _ _ _ r0;obtain⟨K,hK⟩:∃K:Nat,(m.seed+m.light)%18446744073709551616=K:=⟨_,Q⟩
 have eK:IntKind.u64.wrap ((m.seed:Int)+(m.light:Int))=(K:Int):=by
  have h9:IntKind.u64.wrap ((m.seed:Int)+(m.light:Int))=((m.seed:Int)+(m.light:Int))%18446744073709551616:=by simp[IntKind.wrap,IntKind.signed,IntKind.bits]
  rw[h9,<-hK];omega
 have HK:=F hK;have hz:(prog.info? 24).map (·.size)=I m.cs.size:=(qiz 24 20)
 have R0:=F r0;have Hz:=F hz;clear r0 hz hK;refine qrh w1 ((Ae w1 w1).drew) fun hHeld=>?_
 obtain⟨wd,hwd⟩:=Az (w1.drew);rw[hwd]at hHeld ⊢;clear hwd;have yM:=qbw w1 fun w' hS (j:Nat) (u:An) (hu:m.cs[j]?=I u)=>(show E w' ⟨w,0+j,Z⟩=I u by rw[EE];exact AK hS ((AX w1 _ j _ _ _ R0.out).trans hu))
 have YM:=F yM;clear yM;refine G3 (i:=0) (v:= Ba m.cs) Q AG AG AG (fun _ _ _ h=>h) (gh Q 24 _ (by rfl) w 0 (by rfl) m.cs _ YM.out underlying24 Q Hz.out) hHeld ?_;refine zp ?_;refine G3 (i:=2) (v:= Ba m.cs) Q AG AG AG (fun _ _ _ h=>h) (gh Q 24 _ (by rfl) w 0 (by rfl) m.cs _ YM.out underlying24 Q Hz.out) hHeld ?_;refine zp ?_;have d18:∀w',Ag w1 w1 w'->E w' ⟨w,18,Z⟩=I (U AA m.seed):=fun w' hS=>AK hS c18
 have d19:∀w',Ag w1 w1 w'->E w' ⟨w,19,Z⟩=I (U AA m.light):=fun w' hS=>AK hS c19
 clear c18 c19;refine tQ4 4 ?_;refine tQ 8 ?_;refine tQ2 10 ?_;refine url 1 (fun KU Bc=>?_);go_simp;refine(nZ m hm hu wd).mono ?_;rintro e w2⟨f,rfl,hf,hb2⟩;have q2:=hHeld.trans (hb2.mono hHeld.size);refine Bc.out _ _ q2 (fun _=>?_);refine zp ?_;refine url 3 (fun KU Bc=>?_);go_simp;refine(AiU m hm hu w2).mono ?_;rintro e w3⟨vr,rfl,owr,hb3⟩;have q3:=q2.trans (hb3.mono q2.size);refine Bc.out _ _ q3 (fun _=>?_);refine zp ?_;refine url 9 (fun KU Bc=>?_);go_simp;refine(AiT 65536 K w3 AC).mono ?_;rintro e w4⟨vb,rfl,owb,hb4⟩;have q4:=q3.trans (hb4.mono q3.size);obtain⟨AW,cr,rfl,r1,r2,r3,ar⟩:=(owr.below hb4).form C5.BY;obtain⟨A,ca,rfl,a1,a2,a3,aa⟩:=owb.form Dk;have hlb:(GW K 65536).length=65536:=Rm _ _;have ok:=Min.yi hm
 have cN:=AgL (m.Dx f) AW cr m.rules A ca (GW K 65536) m.light w4 ((hf.on hb3).on hb4) ar r3 r1 ok aa a3 a1 a2 (by rw[hlb];exact Bg _) ⟨by simp[Min.Dx],by simp[Min.Dx],by simp[Min.Dx],by simp[Min.Dx]⟩ (Min.yh hm f) m.W Q m.wd hm.seed hm.light
  (fun _=>0) (fun _ _=>rfl) 1 2 3 AC AC AC AC AC AC
 rw[hlb]at cN a1 ⊢;have Q4:=F q4;have B1:=F b1;clear hlb ok owr owb hf hb2 hb3 hb4 q2 q3 q4 r1 r2 r3 ar a1 a2 a3 aa d18 d19 b1 eK;refine Bc.out _ _ Q4.out (fun _=>?_);refine zp ?_;refine url 12 (fun KU Bc=>?_);go_simp;refine cN.mono ?_;rintro e w5⟨τ',M,v,rfl,Bh,old,Is,P5,hv,-,⟨k1,k2,k3⟩,e1,e2,e3,e4⟩;have q5:=Q4.out.trans (Bh.mono Q4.out.size);have hz:∀k,k<↑w->τ' k=0:=fun k hk=>old k (Ck hk (Br B1.out.size Q4.out.size))
 have Fin:Aj (uV m w (AN (AI (I ⟨M.b,0,Z⟩))) w5):=F ⟨τ',M,v,f,rfl,⟨AH B1.out q5,Is,hz,P5,Dv.init v,rfl⟩,hv,⟨k1,k2,k3⟩,e3,e1,e2,by rw[e4,HK.out]⟩;clear cN hz e1 e2 e3 e4 k1 k2 k3 P5 Is old hv Bh;refine Bc.out _ _ (q5) (fun _=>?_);refine zp ?_;refine tQ4 13 ?_;refine tQ 17 ?_;refine Ce ?_;go_wp2_with fail;go_ret;exact Fin.out
section
variable{k n:Nat}{q:Bt}{v:Bj}{w:V}
theorem Arr.stq{w':V}{C:Option AS}{st:List G7}(h:Arr 4 G7.enc w w C st)(hb:Ag w w w'){x:G7}(hx:st[k]?=I x):
  ∃b off,C=I ⟨b,off,Z⟩/\∀(j:Nat) (u:An),(#[U O x.k,U O x.a,U O x.b,.int .u16 (x.n:Int)]:Array An)[j]?=I u->E w' ⟨b,off+k*4+j,Z⟩=I u:=by
 have hl:st≠[]:=fun e=>by grind
 obtain⟨b,off,rfl,hlt,hc⟩:=h hl;refine⟨b,off,Q,fun j u hu=>?_⟩;have h1:=hc k x hx j u (by grind [G7.enc,Arr]);exact AK hb h1
def Ai4{l:List G7}(h:Y l<=n):(v.Sr U6 l).CE<=n:=by
 have h1:=uS v l U6;have h2:U6.CE=0:=Q;omega
structure EnI(v:Bj)(T:Int)(n:Nat)(q:Bt):Prop where
 a:1<=n->(q.at 0).ph≠1
 b:2<=n->(q.at 1).ph≠1
 m:q.CE<=60
structure EnJ(n:Nat)(q:Bt):Prop where
 a:1<=n->(q.at 0).ph≠4
 b:2<=n->(q.at 1).ph≠4
 m:q.CE<=60
def EnI.next(hv:Gm v){st:BX}(hk:Oh v st)(iv:Dv v q)(hn:n<2)(h:EnI v st.tries n q)(h9:st.tries<k):EnI v st.tries (n+1) (v.Je (n:Int) k q):=by
 have ht:(v.st (n:Int)).tries<k:=by have:=(hk.st (n:Int)).eqs;omega
 have hi:=Ahq hv iv (i:=(n:Int)) J ht;obtain⟨l1,l2⟩:=tV v (n:Int) k q;have hm:=h.m;rcases(show n=0\/n=1 by omega)with rfl | rfl
 ·exact⟨fun _=>hi,fun e=>absurd e AC,by unfold Bt.CE at*;omega⟩
 ·refine⟨fun _=>?_,fun _=>hi,by unfold Bt.CE at*;omega⟩
  have e:=tU (v:=v) (i:=((1:Nat):Int)) (j:=0) (.inr Q) (.inl Q) AC k q;rw[e];exact h.a AC
theorem Ai5(i:Int):(v.CI q ⟨8,i,0⟩).1.CE=q.CE:=by
 grind [Bt.CE,Bj.CI,do8,jg]
def EnJ.next(hn:n<2)(h:EnJ n q):EnJ (n+1) (v.CI q ⟨8,(n:Int),0⟩).1:=by
 obtain⟨_,h2,h3⟩:=tW (v:=v) (q:=q) (i:=(n:Int)) J;have hm:=h.m;rw[<-Ai5 (v:=v) (n:Int)]at hm;rcases(show n=0\/n=1 by omega)with rfl | rfl
 ·exact⟨fun _=>h2,fun e=>absurd e AC,hm⟩
 ·exact⟨fun _=>by rw[h3 0 (.inl Q) AC];exact h.a AC,fun _=>h2,hm⟩
def AjX(m:Min)(hm:m.Ok)(hu:m.U8)(C:Option AS)(cC:Nat)(st:List G7)(hC:Arr 4 G7.enc w w C st)(hl:Y st<=cC)(hc:cC<=maxLen)(hx:∀x∈st,x.n<65536):
  AL AE 5 #[m.val,R C (Y st) cC] w fun e w'=>e=AN (Av true)/\Ag w w w':=by
 have b1:=AB (Ae w w) (N m.cs 24);have r0:(Ao w (N m.cs 24)).heap[w.heap.size]?=I (N m.cs 24 (0,0)):=CB _ _;have cM:=fun w'=>Ai3 m hm hu w'
 have cS:=fun w'=>nZ m hm hu w'
 have HX:=F hx;have HC:=F hC;clear hx hC;show AL AE 5 #[Ba m,R C (Y st) cC] w _;go_enter func5,ntmps5;go_upto_region 1 with fail;change Code.wp _ _ _ _ (Ao w (N m.cs 24));obtain⟨w1,BJ⟩:=Az (Ao w (N m.cs 24));rw[BJ]at b1 r0 ⊢;clear BJ;have R0:=F r0;have hsz:=(Bm.1 r0).1;have Hsz:=F hsz;clear r0 hsz;go_wp2_with(refine wpList_load_row Q 24 _ Q w Q 24 m.cs (0,0) _ R0.out underlying24 Q (qiz 24 20) ?_);refine(cM w1).mono ?_;rintro e w2⟨τ,M,v,f,rfl,L0,hv,hk,-⟩;obtain⟨b0,hb0⟩:=Az (M.b);rw[hb0]at L0 ⊢;clear hb0 cM;have R2:=fun(τ:Nat->Nat) (wr:V) (M:Dg) (q:Bt) (L:L7 w1 v b0 τ wr M q)=>((L.b.block _ Hsz.out).trans R0.out:wr.heap[w.heap.size]?=I (N m.cs 24 (0,0)))
 have B2:=fun(τ:Nat->Nat) (wr:V) (M:Dg) (q:Bt) (L:L7 w1 v b0 τ wr M q)=>(AH b1 L.b:Ag w w wr)
 have R2:=F R2;have B2:=F B2;clear b1;go_upto_block 0 with fail;go_cut [] (fun wr=>∃τ M q,L7 w1 v b0 τ wr M q/\q.CE<=60)
 case first=>
  go_wp2_with fail;go_loopw [6] (fun i wr=>∃(k:Nat) (τ:Nat->Nat) (M:Dg),i=U O k/\k<=Y st/\k<=60/\L7 w1 v b0 τ wr M (v.Sr U6 (st.take k))) (fun i _=>Y st-(intOf i).toNat)
  case atStart=>exact⟨0,τ,M,rfl,BM _,BM _,L0⟩
  case round=>
   obtain⟨k,τ1,M1,rfl,GT,hk2,L1⟩:=hrel;obtain⟨w3,rfl⟩:=qgn wr;clear L0 cS;have Fin:Aj (∃τ M q,L7 w1 v b0 τ w3 M q/\q.CE<=60):=F ⟨_,_,_,L1,by have:=Ai4 (v:=v) (n:=k) (l:=st.take k) (by rw[DC];exact Nat.min_le_left _ _);omega⟩;by_cases h1:k<Y st
   ·by_cases h2:k<60
    ·obtain⟨x,hx⟩:∃x,st[k]?=I x:=⟨_,CH h1⟩
     have hxn:=HX.out x (DI hx);obtain⟨bb,off,hCe,hcs⟩:=Arr.stq HC.out (B2.out _ _ _ _ L1) hx;subst hCe;have cT:=Ai2 L1 hv hk x hxn;have Hcs:=F hcs;have Hx:=F hx;clear hcs hx hxn L1 Fin;go_wp2_with(refine JN 32 _ Q bb (off+k*4) (by go_simp) #[U O x.k,U O x.a,U O x.b,.int .u16 (x.n:Int)] _ Hcs.out underlying32 Q (qiz 32 4) (by rfl) ?_);refine cT.mono ?_;rintro e w4⟨rfl,τ4,M4,L4⟩;have L5:=F (show L7 w1 v b0 τ4 w4 M4 (v.Sr U6 (st.take (k+1)))by rw[Ai1 v U6 Hx.out];exact L4);clear L4 cT;go_wp2_with fail;go_roundw
     case rel=>first | exact⟨k+1,τ4,M4,qgm,h1,h2,L5.out⟩ | ((repeat apply PQ);exact⟨⟨k+1,τ4,M4,qgm,h1,h2,L5.out⟩,Q⟩)
     case measure=>(simp[intOf] <;> omega)
    ·clear L1
     go_wp2_with fail;go_meet;exact Fin.out
   ·clear L1
    go_wp2_with fail;go_meet;exact Fin.out
 obtain⟨τ2,M2,q2,L2,Et⟩:=hcut;obtain⟨w5,rfl⟩:=qgn wc;clear L0 HX HC;go_upto_block 2 with fail;go_cut [] (fun wr=>∃τ M q,L7 w1 v b0 τ wr M q/\q.CE<=60)
 case first=>
  go_wp2_with fail;go_loopg [33] (Y q2.way) (fun n _ wr=>∃τ M q,L7 w1 v b0 τ wr M q/\q.CE<=60/\Aj (Y q.way=n))
  case atStart=>exact⟨_,_,_,L2,Et,F rfl⟩
  case round=>
   obtain⟨τ3,M3,q3,L3,hq3,hn⟩:=hrel;obtain⟨w6,rfl⟩:=qgn wr;clear L2 cS;have cF:=L3.Ai0;go_wp2_with fail;refine cF.mono ?_;rintro e w7⟨vl,fv,rfl,ow,hf,-,Cl⟩;obtain⟨A7,c7,rfl,-,-,-,-⟩:=ow.form BW.BY;have JI:=L3.on Cl;have Cw:Y fv=Y q3.way:=by rw[<-hf,Dz]
   have Fin:Aj (∃τ M q,L7 w1 v b0 τ w7 M q/\q.CE<=60):=F ⟨_,_,_,JI,hq3⟩;have cD:=JI.does hv hk 3 0 0;by_cases h0:q3.way=[]
   ·have h1:Y fv=0:=by rw[Cw,h0];rfl
    clear cF cD L3 JI ow hf Cw;rw[h1];go_wp2_with fail;go_meet;exact Fin.out
   ·have h1:(0:Int)<(Y fv:Int):=by
     have:=List.length_pos_iff.2 h0;omega
    rw[drop_one h0]at cD;have HN:=F (show Y q3.way.tail<Y q3.way by rw[List.length_tail];have:=List.length_pos_iff.2 h0;omega);have HQ:=F hq3;clear cF L3 JI ow hf Cw h0 Fin hq3;go_wp2_with fail;refine cD.mono ?_;rintro e w8⟨rfl,τ8,M8,L8,-⟩;clear cD;go_wp2_with fail;go_roundg (Y q3.way.tail)
    case measure=>rw[<-hn.out];exact HN.out
    case rel=>exact⟨_,_,_,L8,HQ.out,F rfl⟩
 obtain⟨τ3,M3,q3,L3,hq3⟩:=hcut;obtain⟨w6,rfl⟩:=qgn wc;clear L2 Et;go_upto_region 11 with fail;have c6:=R2.out _ _ _ _ L3;have C6:=F c6;clear c6;go_wp2_with(refine wpList_load_row Q 24 _ Q w Q 24 m.cs (0,0) _ C6.out underlying24 Q (qiz 24 20) ?_);refine(cS w6).mono ?_;rintro e w7⟨f2,rfl,-,Cl⟩;have L4:=L3.on Cl;have b8:=AB (Ae w7 w7) (N (m.Dx f2).cs 62);have r8:(Ao w7 (N (m.Dx f2).cs 62)).heap[w7.heap.size]?=I (N (m.Dx f2).cs 62 (0,0)):=CB _ _;have t8:=L4.fr _ (Bg _);have L5:=L4.on b8;unfold BX.val;obtain⟨Mw,Zm⟩:=Az ((m.Dx f2).cs);have Ri:Mw[32]?=I (U O (m.Dx f).tries):=by rw[<-Zm];rfl
 have Wn:Mw.all (·.oneCell')=true:=by rw[<-Zm];kernel_rfl
 have Nw:Mw.size=34:=by rw[<-Zm];rfl
 rw[Zm]at b8 r8 L5 ⊢;have X32:=F Ri;have uX:=F Wn;have Sz2:=F Nw;clear Zm Ri Wn Nw L3 L4 Cl cS
 go_upto_region 12 with(first
  | (refine Great.wpList_allocTo Q (I 7) Q (AI (I ⟨w7,0,Z⟩)) (N Es.cs 62) AG ?_)
  | (refine Mc Q 62 _ _ Q w7 Mw AG AG 62 Es.cs (CB w7 _) (show(prog.info? 62).map (·.size)=I Mw.size by rw[Sz2.out];kernel_rfl) Sz2.out.symm uX.out ?_))
 rw[World.setRow_alloc_new];refine zp ?_;obtain⟨g,hg⟩:=Az (w7.heap.size);obtain⟨w8,RA⟩:=Az (Ao w7 (N Mw 62));rw[RA]at r8 L5 ⊢;rw[hg]at r8 t8 ⊢;clear RA hg b8;obtain⟨T,hT⟩:=Az ((m.Dx f).tries);have OU:1<=T/\T<=5:=by rw[<-hT];show 1<=1+((m.tries%5:Nat):Int)/\1+((m.tries%5:Nat):Int)<=5;omega
 have hTn:(m.Dx f).tries<((T.toNat+1:Nat):Int):=by rw[hT];omega
 rw[hT]at X32;have HT:=F hTn;clear hTn;go_upto_block 4 with fail;go_cut [] (fun wr=>∃τ M q,L7 w1 v b0 τ wr M q/\Aj (EnI v (m.Dx f).tries 2 q))
 case first=>
  go_wp2_with fail;go_loopw [8] (fun i wr=>∃(n:Nat) (τ:Nat->Nat) (M:Dg) (q:Bt),i=U O n/\n<=2/\L7 w1 v b0 τ wr M q/\τ g=0/\Aj (wr.heap[g]?=I (N Mw 62 (0,0)))/\Aj (EnI v (m.Dx f).tries n q)) (fun i _=>2-(intOf i).toNat)
  case atStart=>exact⟨0,τ3,M3,q3,rfl,J,L5,t8,F r8,F ⟨fun e=>absurd e AC,fun e=>absurd e AC,hq3⟩⟩
  case round=>
   obtain⟨n,τ4,M4,q4,rfl,hn,L6,t4,r4,I4⟩:=hrel;obtain⟨w9,rfl⟩:=qgn wr;clear L5 r8 t8;by_cases EU:n<2
   ·have iv4:=L6.iv
    have g2:(n:Int)<2:=J;go_upto_block 6 with fail;go_cut [] (fun wr=>∃τ M,L7 w1 v b0 τ wr M (v.Je (n:Int) (T.toNat+1) q4)/\τ g=0/\Aj (wr.heap[g]?=I (N Mw 62 (0,0))))
    case first=>
     go_wp2_with fail;go_loopw [9] (fun i wr=>∃(k:Nat) (τ:Nat->Nat) (M:Dg),i=U O k/\k<=T.toNat+1/\L7 w1 v b0 τ wr M (v.Je (n:Int) k q4)/\τ g=0/\Aj (wr.heap[g]?=I (N Mw 62 (0,0)))) (fun i _=>T.toNat+1-(intOf i).toNat)
     case atStart=>exact⟨0,τ4,M4,rfl,J,L6,t4,r4⟩
     case round=>
      obtain⟨k,τ5,M5,rfl,hk5,JI,t5,r5⟩:=hrel;obtain⟨Bs,rfl⟩:=qgn wr;clear L6 t4 r4 iv4;have c32:=(AX _ _ 32 _ _ _ r5.out).trans X32.out;have gl:=(Bm.1 r5.out).1;by_cases hkT:(k:Int)<=T
      ·have cD:=JI.does hv hk 6 (n:Int) 0
       have hk6:k+1<=T.toNat+1:=J;have Gl:=F gl;clear gl JI;go_wp2_with fail;refine cD.mono ?_;rintro e FW⟨rfl,τ6,M6,L8,kz⟩;rw[<-uU]at L8;obtain⟨t6,e6⟩:=kz g Gl.out t5;have r6:=F (e6.trans r5.out);clear kz e6 cD c32;go_wp2_with fail;go_roundw
       case rel=>first | exact⟨k+1,τ6,M6,qgm,hk6,L8,t6,r6⟩ | ((repeat apply PQ);exact⟨⟨k+1,τ6,M6,qgm,hk6,L8,t6,r6⟩,Q⟩)
       case measure=>(simp[intOf] <;> omega)
      ·have hkk:k=T.toNat+1:=J
       subst hkk;go_wp2_with fail;go_meet;exact⟨τ5,M5,JI,t5,r5⟩
    obtain⟨τ5,M5,L8,t5,r5⟩:=hcut;obtain⟨Bs,rfl⟩:=qgn wc;have I5:=F (I4.out.next hv hk iv4 EU HT.out);have gl:=(Bm.1 r5.out).1;have cS:=L8.XM (n:Int) J
    have ph:(((v.Je (n:Int) (T.toNat+1) q4).at (n:Int)).ph == 1)=false:=by
     rcases(show n=0\/n=1 by omega)with rfl | rfl
     ·simpa using I5.out.a AC
     ·simpa using I5.out.b AC
    have Gl:=F gl;clear gl L6 t4 r4 iv4;go_wp2_with fail;refine cS.mono ?_;rintro e FW⟨τ6,x6,nb6,mb6,rfl,hb,-,s6,-⟩;have L9:=L8.on hb;have cP:=pI s6;have r6:=F ((hb.block _ Gl.out).trans r5.out);obtain⟨ph6,uY⟩:=Az (((v.Je (n:Int) (T.toNat+1) q4).at (n:Int)).ph);rw[uY]at ph cP;clear cS L8 hb s6 uY;go_wp2_with fail;refine cP.mono ?_;rintro e E7⟨rfl,rfl⟩;go_wp2_with fail;go_roundw
    case rel=>first | exact⟨n+1,τ5,M5,_,qgm,EU,L9,t5,r6,I5⟩ | ((repeat apply PQ);exact⟨⟨n+1,τ5,M5,_,qgm,EU,L9,t5,r6,I5⟩,Q⟩)
    case measure=>(simp[intOf] <;> omega)
   ·have h2:n=2:=J
    subst h2;go_wp2_with fail;go_meet;exact⟨τ4,M4,q4,L6,I4⟩
 obtain⟨τ4,M4,q4,L6,I4⟩:=hcut;obtain⟨w9,rfl⟩:=qgn wc;clear L5 r8 t8 hq3 X32 uX Sz2 hT OU HT;go_upto_block 8 with fail;go_cut [] (fun wr=>∃τ M q,L7 w1 v b0 τ wr M q/\Aj (EnJ 2 q))
 case first=>
  go_wp2_with fail;go_loopw [10] (fun i wr=>∃(n:Nat) (τ:Nat->Nat) (M:Dg) (q:Bt),i=U O n/\n<=2/\L7 w1 v b0 τ wr M q/\Aj (EnJ n q)) (fun i _=>2-(intOf i).toNat)
  case atStart=>exact⟨0,τ4,M4,q4,rfl,J,L6,F ⟨fun e=>absurd e AC,fun e=>absurd e AC,I4.out.m⟩⟩
  case round=>
   obtain⟨n,τ5,M5,q5,rfl,hn,JI,J5⟩:=hrel;obtain⟨Bs,rfl⟩:=qgn wr;clear L6 I4;by_cases EU:n<2
   ·have cS:=JI.XM (n:Int) J
    have g2:(n:Int)<2:=J;have rd:=tW (v:=v) (q:=q5) (i:=(n:Int)) J;have J6:=F (J5.out.next (v:=v) EU);obtain⟨AM,hE⟩:=Az ((v.CI q5 ⟨8,(n:Int),0⟩).2);have h1:=rd.1;rw[hE]at h1;obtain⟨ph,Gd⟩:=Az ((q5.at (n:Int)).ph);rw[Gd]at h1;have HE:=F hE;have Hph:=F Gd;clear rd hE Gd;by_cases h4:ph=4
    case' pos=>
     have h5:=h1.2 h4;subst h4 h5
    case' neg=>
     have g4:(ph == 4)=false:=qsu h4
     have g5:(AM == 0)=false:=by
      have h5:¬AM=0:=fun e=>h4 (h1.1 e)
      simpa using h5
     clear h4
    all_goals(
     clear h1;go_wp2_with fail;refine cS.mono ?_;rintro e FW⟨τ6,x6,nb6,mb6,rfl,hb,-,s6,-⟩;have L9:=JI.on hb;have cP:=pI s6;rw[Hph.out]at cP;have cD:=L9.does hv hk 8 (n:Int) 0;rw[HE.out]at cD;clear cS JI hb s6 L9;go_wp2_with fail;refine cP.mono ?_;rintro e E7⟨rfl,rfl⟩;go_wp2_with fail;refine cD.mono ?_;rintro e DB⟨rfl,τ7,M7,L10,-⟩;clear cD cP;go_wp2_with fail;go_roundw
     case rel=>first | exact⟨n+1,τ7,M7,_,qgm,EU,L10,J6⟩ | ((repeat apply PQ);exact⟨⟨n+1,τ7,M7,_,qgm,EU,L10,J6⟩,Q⟩)
     case measure=>(simp[intOf] <;> omega)
     )
   ·have h2:n=2:=J
    subst h2;go_wp2_with fail;go_meet;exact⟨τ5,M5,q5,JI,J5⟩
 obtain⟨τ5,M5,q5,JI,J5⟩:=hcut;obtain⟨Bs,rfl⟩:=qgn wc;clear L6 I4;have cS:=JI.XM 0 (.inl Q);obtain⟨X,hX⟩:=Az (q5.x.last);obtain⟨Bp,hY⟩:=Az (q5.y.last);have go1:=Aht hv hk JI.iv (J5.out.a AC) (J5.out.b AC) (by have:=J5.out.m;omega);obtain⟨AP,hN⟩:=Az (max X Bp);have Oq:q5.CE=AP:=by unfold Bt.CE;rw[hX,hY,hN]
 rw[Oq]at go1;have nb0:0<=AP:=by have:=JI.iv.x.last;rw[<-hN,<-hX];omega
 have nb1:AP<=60:=by have:=J5.out.m;omega
 have Go1:=F go1;have HX:=F hX;have HY:=F hY;have HN:=F hN;clear hX hY hN Oq go1;go_wp2_with fail;refine cS.mono ?_;rintro e FW⟨τ6,x6,nb6,mb6,rfl,GH,-,s6,-⟩;have L9:=JI.on GH;have cP:=aP s6;rw[show(q5.at 0).last=X from HX.out]at cP;have cS2:=L9.XM 1 (.inr Q);clear cS JI GH s6;go_wp2_with fail;refine cP.mono ?_;rintro e E7⟨rfl,rfl⟩;go_wp2_with fail;refine cS2.mono ?_;rintro e DB⟨τ7,x7,nb7,mb7,rfl,jq,-,s7,-⟩;have L10:=L9.on jq;have cP2:=aP s7;rw[show(q5.at 1).last=Bp from HY.out]at cP2;have cD:=L10.does hv hk 1 0 0;rw[Go1.out.1]at cD;clear cS2 cP L9 jq s7;go_wp2_with fail;refine cP2.mono ?_;rintro e Mr⟨rfl,rfl⟩;go_upto_region 28 with fail;rw[HN.out];go_wp2_with fail;refine cD.mono ?_;rintro e Mt⟨rfl,τ8,M8,L12,-⟩;obtain⟨q9,hq9⟩:=Az ((v.CI q5 ⟨1,0,0⟩).1);rw[hq9]at L12;have X9:Aj (q9.x.last=AP+1):=F (qrb hq9 Go1.out.2.1);have Y9:Aj (q9.y.last=AP+1):=F (qrb hq9 Go1.out.2.2);have cS3:=L12.XM 0 (.inl Q);clear cD hq9 L10 cP2;go_wp2_with fail;refine cS3.mono ?_;rintro e w16⟨τ9,x9,nb9,mb9,rfl,bU,-,s9,-⟩;have L13:=L12.on bU;have cP3:=aP s9;rw[show(q9.at 0).last=AP+1 from X9.out]at cP3;have cS4:=L13.XM 1 (.inr Q);clear cS3 L12 bU s9;go_wp2_with fail;refine cP3.mono ?_;rintro e QL⟨rfl,rfl⟩;go_wp2_with fail;refine cS4.mono ?_;rintro e w18⟨τa,xa,nba,mba,rfl,vc,-,sa,-⟩;have L14:=L13.on vc;have cP4:=aP sa;rw[show(q9.at 1).last=AP+1 from Y9.out]at cP4;have cW:=AaE w18;clear cS4 L13 vc sa cP3;go_wp2_with fail;refine cP4.mono ?_;rintro e w19⟨rfl,rfl⟩;go_wp2_with fail;refine cW.mono ?_;rintro e w20⟨rfl,vd⟩;have Fin:=F (AH (B2.out _ _ _ _ L14) vd);clear L14 vd cW cP4;go_wp2_with fail;go_ret;exact⟨Q,Fin.out⟩
end
end Go.Proofs.YtjpidgffdkjjeaaGreat
