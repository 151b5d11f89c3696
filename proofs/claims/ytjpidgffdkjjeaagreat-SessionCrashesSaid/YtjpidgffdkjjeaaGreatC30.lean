/- Contracts and plain laws. No condition. -/
import Derived.Deep.Onto
import Derived.Laws.IdiomArrays
import Derived.Test.YtjpidgffdkjjeaaGreatCA
import Derived.Test.YtjpidgffdkjjeaaGreatC20
import Derived.Test.YtjpidgffdkjjeaaGreatC29
set_option linter.all false
set_option maxHeartbeats 16000000
namespace Go.Proofs.YtjpidgffdkjjeaaGreat
open Go.Proofs.Tryz
open Go.Proofs.Tryz renaming prog->AE
open List renaming length->Y
open Go.World renaming cell?->E,setCell->Ai,alloc->Ao,frozen?->Bo
open Go.Value renaming int->U,slice->R,pointer->AI,agg->Ba,tuple->Be,nilFunc->Bl,bool->Av
open Go.IntKind renaming i64->O,u64->AA,u32->BF,u8->Cd
open Option renaming none->Z,some->I
open Go.Ending renaming returned->AN
open Go.Obj renaming cells->N
open Go renaming World->V,Value->An,Calls->AL,Addr->AS
open Go.RowKit renaming Below->Ag,Hid->Aj
set_option maxRecDepth 100000
open Go.RowKit Go.Maps
section
variable{M:Dg}{q:Bt}{st:BX}{v:Bj}{w:V}{τ:Nat->Nat}
def uP(h:CO τ w M v q)(fr:BU τ w)(hv:Gm v)(hk:Oh v st)(iv:Dv v q)(k a c:Int):
  AL AE 15 #[AI (I ⟨M.b,0,Z⟩),Ba #[U O k,U O a,U O c]] w (DoR τ w M v (v.CI q ⟨k,a,c⟩)):=by
 by_cases hh:(k<1\/8<k)\/k=1\/6<=k\/a<0\/Y q.way<=a
 ·exact AhB h fr hv hk iv k a c hh
 ·obtain⟨n,rfl⟩:=DV (show 0<=a by omega)
  have hn:n<Y q.way:=J;exact AiS h fr hv iv k n c (CH hn) J
def Bj.PF(v:Bj)(q:Bt)(m:Int):Bt × Int × Int:=if m<0\/100000<m then(q,0,3)else((v.GB m.toNat q).1,(v.GB m.toNat q).2,0)
structure uQ(τ:Nat->Nat)(w:V)(M:Dg)(v:Bj)(q:Bt)(m:Nat)(k:Nat)(τ':Nat->Nat)(wr:V)(M':Dg)(q':Bt):Prop where
 le:k<=m
 f:EN M.T τ τ' w wr
 fr:BU τ' wr
 p:CO τ' wr M' v q'
 x:GO M M'
 iv:Dv v q'
 e:v.GB m q=((v.GB (m-k) q').1,(v.GB (m-k) q').2+k)
def SH(h:CO τ w M v q)(fr:BU τ w)(hv:Gm v)(hk:Oh v st)(iv:Dv v q)(m:Int):
  AL AE 29 #[AI (I ⟨M.b,0,Z⟩),U O m] w fun e w'=>e=AN (Be #[U O (v.PF q m).2.1,U O (v.PF q m).2.2])/\Dh τ w M v (v.PF q m).1 w':=by
 have cV:=Zc h;obtain⟨AW,hR⟩:=Az (v.PF q m);have HR:=F hR;rw[hR];clear hR;go_in;by_cases g0:m<0
 ·have hr:Aj (AW=(q,0,3)):=F (by rw[<-HR.out];unfold Bj.PF;rw[Bd (.inl g0)])
  go_wp2_with(go_at_call 56;refine mqv (cV) ?_);go_ret2;rw[hr.out];exact⟨Q,Dh.stay h fr (Ae _ _)⟩
 by_cases g1:100000<m
 ·have hr:Aj (AW=(q,0,3)):=F (by rw[<-HR.out];unfold Bj.PF;rw[Bd (.inr g1)])
  go_wp2_with(go_at_call 56;refine mqv (cV) ?_);go_ret2;rw[hr.out];exact⟨Q,Dh.stay h fr (Ae _ _)⟩
 obtain⟨mn,rfl⟩:=DV (Int.not_lt.1 g0);have hr:Aj (AW=((v.GB mn q).1,((v.GB mn q).2:Int),0)):=F (by rw[<-HR.out];unfold Bj.PF;rw[AU J,Ro]);go_wp2_with(go_at_call 56;refine mqv (cV) ?_);go_loopw [6] (fun nv wr=>∃(k:Nat) (τ':Nat->Nat) (M':Dg) (q':Bt),nv=U O k/\uQ τ w M v q mn k τ' wr M' q') (fun nv _=>mn-(intOf nv).toNat);exact⟨0,τ,M,q,rfl,⟨BM _,EN.refl _ _ _,fr,h,GO.refl M,iv,AO⟩⟩
 obtain⟨k,τ',M',q',rfl,C0⟩:=hrel;obtain⟨fv,f1,f2,f3,f4⟩:=C0.p.way;obtain⟨A,c,CZ,_,_,_,_⟩:=f2.form BW.BY;have Cm:Y fv=Y q'.way:=by rw[<-f1,Dz]
 have IK:E wr ⟨M.b,39,Z⟩=I (R A (Y q'.way) c):=by rw[<-C0.x.b,<-Cm,<-CZ];exact C0.p.row.c 39
 have cD:=uP C0.p C0.fr hv hk C0.iv 2 0 0;rw[C0.x.b]at cD;clear f1 f2 f3 f4 CZ Cm h cV HR;by_cases hkm:k<mn
 ·by_cases hw:Y q'.way=0
  ·have hE:Aj (v.GB mn q=(q',k)):=F (by
    rw[C0.e];obtain⟨j,hj⟩:∃j,mn-k=j+1:=⟨mn-k-1,J⟩
    rw[hj];unfold Bj.GB;rw[Bd hw];simp)
   rw[hw]at IK;go_wp2;go_ret2;rw[hr.out,hE.out];exact⟨Q,τ',M',C0.f,C0.fr,C0.p,C0.x⟩
  ·have g5:(0:Int)<(Y q'.way:Int):=J
   go_wp2_with fail;refine gqz cD fun w2 pe=>?_;obtain⟨τ2,M2,F2,Ej,P2,px2⟩:=pe;rw[C0.x.T]at F2
   have Bi:uQ τ w M v q mn (k+1) τ2 w2 M2 (v.CI q' ⟨2,0,0⟩).1:=⟨hkm,C0.f.trans F2,Ej,P2,C0.x.trans px2,de hv C0.iv _,by
    rw[C0.e];obtain⟨j,hj⟩:∃j,mn-k=j+1:=⟨mn-k-1,J⟩
    have hj2:mn-(k+1)=j:=J;rw[hj,hj2]
    conv=>lhs;unfold Bj.GB
    rw[AU hw];simp only[Nat.add_assoc,Nat.add_comm]⟩
   clear cD C0;go_wp2_with fail;exact⟨⟨k+1,τ2,M2,_,qgm,Bi⟩,qio⟩
 ·have hE:Aj (v.GB mn q=(q',k)):=F (by
   rw[C0.e];have e0:mn-k=0:=J;rw[e0];unfold Bj.GB;simp)
  have hkk:k=mn:=by have:=C0.le;omega
  subst hkk;go_wp2;go_ret2;rw[hr.out,hE.out];exact⟨Q,τ',M',C0.f,C0.fr,C0.p,C0.x⟩
end
def AiT(n s:Nat)(w:V)(hn:n<=65536):AL AE 55 #[U O n,U AA s] w fun e w'=>∃v,e=AN v/\Own w' w 4 1 C4 v (GW s n)/\Ag w w w':=by
 have cN:=TJ s w;have c0:E (Ao w (N #[U AA s,Av true] 219)) ⟨w,0,Z⟩=I (U AA s):=Cb Q;have c1:E (Ao w (N #[U AA s,Av true] 219)) ⟨w,1,Z⟩=I (Av true):=Cb Q;have fz:Bo (Ao w (N #[U AA s,Av true] 219)) ⟨w,0,Z⟩=false:=CJ _ _ 0 _ _ (CB w _);have cB:=mF w s n (Ao w (N #[U AA s,Av true] 219)) c0 fz c1 hn;have q1:=AB (Ae w w) (N #[U AA s,Av true] 219);go_in;go_wp2_with fail;refine cN.mono ?_;rintro e w1⟨rfl,rfl⟩;go_wp2_with fail;refine cB.mono ?_;rintro e w2⟨v,rfl,own,gr,-,-,-⟩;have hb:=q1.grown gr q1.size (fun k hk=>by cases hk;exact Bg _);go_wp2;go_ret;exact⟨v,Q,World.ownsRow.mono own q1.size,hb⟩
structure L7(w:V)(v:Bj)(b0:Nat)(τ:Nat->Nat)(wr:V)(M:Dg)(q:Bt):Prop where
 b:Ag w w wr
 fr:BU τ wr
 z:∀k,k<↑w->τ k=0
 p:CO τ wr M v q
 iv:Dv v q
 mb:M.b=b0
section
variable {w wr w':V} {v:Bj} {b0:Nat} {τ:Nat→Nat} {M:Dg} {q q':Bt}
def Kpz(τ τ':Nat->Nat)(w w':V):Prop:=∀g,g<↑w->τ g=0->τ' g=0/\w'.heap[g]?=w.heap[g]?
def L7.go(h:L7 w v b0 τ wr M q)(pe:Dh τ wr M v q' w')(iv:Dv v q'):∃τ' M',L7 w v b0 τ' w' M' q'/\Kpz τ τ' wr w':=by
 obtain⟨τ',M',AY,fr,P,px⟩:=pe;have hb:Ag w wr w':=⟨AY.out.os,AY.out.tape,AY.out.output,AY.out.size,fun k hk=>AY.out.block k (Ck hk h.b.size) (fun e=>by rw[h.z k hk]at e;exact h.p.tags.zero e)⟩
 exact⟨τ',M',⟨h.b.trans hb,fr,fun k hk=>(AY.tag k (Ck hk h.b.size)).trans (h.z k hk),P,iv,px.b.trans h.mb⟩,fun g hg h0=>⟨(AY.tag g hg).trans h0,AY.out.block g hg (fun e=>by rw[h0]at e;exact h.p.tags.zero e)⟩⟩
def L7.on(h:L7 w v b0 τ wr M q)(hb:Ag wr wr w'):L7 w v b0 τ w' M q:=
 ⟨AH h.b hb,h.fr.on hb.size,h.z,h.p.on hb,h.iv,h.mb⟩
theorem BO.cs{z:AV}{a:Bb}(h:BO z a):∀c m,a.course=I (c,m)->Y m.b<=100000/\Y m.told<=3000000000:=fun c m e=>by
 obtain⟨h1,h2,h3⟩:=h.crs c m e;refine⟨J,?_⟩;have h4:=h2.1.few;have h5:=h1.P;have h6:=h1.n;have h7:(c.n+1)*(c.n+1)<=513*513:=Nd J J;have h8:=Nd h5.2 h7;omega
def L7.does(h:L7 w v b0 τ wr M q)(hv:Gm v){st:BX}(hk:Oh v st)(k a c:Int):AL AE 15 #[AI (I ⟨b0,0,Z⟩),Ba #[U O k,U O a,U O c]] wr fun e w'=>
  e=AN (U O (v.CI q ⟨k,a,c⟩).2)/\∃τ' M',L7 w v b0 τ' w' M' (v.CI q ⟨k,a,c⟩).1/\Kpz τ τ' wr w':=by
 have hc:=uP h.p h.fr hv hk h.iv k a c;rw[h.mb]at hc;refine hc.mono ?_;rintro e w'⟨he,pe⟩;exact⟨he,h.go pe (de hv h.iv _)⟩
def L7.AiZ(h:L7 w v b0 τ wr M q)(hv:Gm v){st:BX}(hk:Oh v st)(m:Int):AL AE 29 #[AI (I ⟨b0,0,Z⟩),U O m] wr fun e w'=>
  e=AN (Be #[U O (v.PF q m).2.1,U O (v.PF q m).2.2])/\∃τ' M',L7 w v b0 τ' w' M' (v.PF q m).1/\Kpz τ τ' wr w':=by
 have hc:=SH h.p h.fr hv hk h.iv m;rw[h.mb]at hc;refine hc.mono ?_;rintro e w'⟨he,pe⟩;refine⟨he,h.go pe ?_⟩;unfold Bj.PF;split
 ·exact h.iv
 ·exact sY hv _ h.iv
end
def G7.s7(x:G7):jh:=⟨⟨x.k,x.a,x.b⟩,x.n⟩
def Bj.Sr(v:Bj):Bt->List G7->Bt
 | q,[]=>q
 | q,s::l=>v.Sr (v.QJ q s.s7) l
theorem uR(v:Bj):∀(l:List G7) (q:Bt) (s:G7),v.Sr q (l++ [s])=v.QJ (v.Sr q l) s.s7
 | [],_,_=>rfl
 | x::l,q,s=>uR v l (v.QJ q x.s7) s
def Ai1(v:Bj)(q:Bt){l:List G7}{k:Nat}{s:G7}(h:l[k]?=I s):v.Sr q (l.take (k+1))=v.QJ (v.Sr q (l.take k)) s.s7:=by
 rw[GU,h];exact uR v _ q s
def Ai2{w wr:V}{v:Bj}{b0:Nat}{τ:Nat->Nat}{M:Dg}{q:Bt}(h:L7 w v b0 τ wr M q)(hv:Gm v){st:BX}(hk:Oh v st)(x:G7)(hx:x.n<65536):
  AL AE 12 #[AI (I ⟨b0,0,Z⟩),Ba #[U O x.k,U O x.a,U O x.b,.int .u16 (x.n:Int)]] wr fun e w'=>e=AN (Be #[])/\∃τ' M',L7 w v b0 τ' w' M' (v.QJ q x.s7):=by
 obtain⟨xk,xa,xb,xn⟩:=x;simp only at hx ⊢;have b1:=AB (Ae wr wr) (N #[U O xk,U O xa,U O xb,.int .u16 (xn:Int)] 32);have r0:(Ao wr (N #[U O xk,U O xa,U O xb,.int .u16 (xn:Int)] 32)).heap[wr.heap.size]?=I (N #[U O xk,U O xa,U O xb,.int .u16 (xn:Int)] 32 (0,0)):=CB _ _;go_in;go_upto_region 1 with fail;obtain⟨w1,BJ⟩:=Az (Ao wr (N #[U O xk,U O xa,U O xb,.int .u16 (xn:Int)] 32));rw[BJ]at b1 r0 ⊢;clear BJ;have c3:E w1 ⟨wr,3,Z⟩=I (.int .u16 (xn:Int)):=AX _ _ 3 _ _ _ r0;have L:=h.on b1;have cD:=L.does hv hk xk xa xb;have cS:=L.AiZ hv hk ((xn%700:Nat):Int)
 have hS:Aj (v.PF q ((xn%700:Nat):Int)=((v.GB (xn%700) q).1,((v.GB (xn%700) q).2:Int),0)):=F (by
  unfold Bj.PF;rw[AU J,Ro])
 have e7:(xn:Int)%700=((xn%700:Nat):Int):=J;obtain⟨Cr,hZ⟩:∃Cr:Int,((xn%700:Nat):Int)=Cr:=⟨_,Q⟩
 rw[hZ]at cS hS e7;have AM:=F (show v.QJ q (⟨xk,xa,xb,xn⟩:G7).s7=if 0<xn then(v.GB (xn%700) q).1 else(v.CI q ⟨xk,xa,xb⟩).1 from rfl);clear hZ L b1 h;by_cases h0:0<xn
 ·have g0:(0:Int)<(xn:Int):=J
  have E1:Aj (v.QJ q (⟨xk,xa,xb,xn⟩:G7).s7=(v.GB (xn%700) q).1):=F (by rw[AM.out,Bd h0]);clear cD r0;go_wp2_with fail;refine cS.mono ?_;rintro e w2⟨rfl,τ',M',L2,-⟩;rw[hS.out]at L2;go_wp2;go_end0;rw[E1.out];exact⟨Q,τ',M',L2⟩
 ·have g0:¬(0:Int)<(xn:Int):=J
  have E1:Aj (v.QJ q (⟨xk,xa,xb,xn⟩:G7).s7=(v.CI q ⟨xk,xa,xb⟩).1):=F (by rw[AM.out,AU h0])
  have cc:∀(j:Nat) (u:An),(#[U O xk,U O xa,U O xb]:Array An)[j]?=I u->E w1 ⟨wr,0+j,Z⟩=I u:=fun j u hu=>by
   rw[EE,AX _ _ j _ _ _ r0]
   match j,hu with
   | 0,hu=>exact hu
   | 1,hu=>exact hu
   | 2,hu=>exact hu
  have Cc:=F cc;clear cS r0 cc;go_wp2_with(refine JN 29 _ Q wr 0 Q #[U O xk,U O xa,U O xb] _ Cc.out underlying29 Q (qiz 29 3) (by rfl) ?_);refine cD.mono ?_;rintro e w2⟨rfl,τ',M',L2,-⟩;go_wp2;go_end0;rw[E1.out];exact⟨Q,τ',M',L2⟩
def uV(m:Min)(w:V)(e:Ending)(w':V):Prop:=
 ∃τ M v f,e=AN (AI (I ⟨M.b,0,Z⟩))/\L7 w v M.b τ w' M prs0/\Gm v/\Oh v (m.Dx f)/\v.W=m.W/\v.rules=m.rules/\v.light=m.light/\v.bits=GW ((m.seed+m.light)%18446744073709551616) 65536
def Ai3(m:Min)(hm:m.Ok)(hu:m.U8)(w:V):AL AE 11 #[m.val] w (uV m w):=by
 have b1:=AB (Ae w w) (N m.cs 24);have r0:(Ao w (N m.cs 24)).heap[w.heap.size]?=I (N m.cs 24 (0,0)):=CB _ _;show AL AE 11 #[Ba m] w _;go_in;go_upto_region 1 with fail;change Code.wp _ _ _ _ (Ao w (N m.cs 24));obtain⟨w1,BJ⟩:=Az (Ao w (N m.cs 24));rw[BJ]at b1 r0 ⊢;clear BJ;have c18:E w1 ⟨w,18,Z⟩=I (U AA m.seed):=AX _ _ 18 _ _ _ r0;have c19:E w1 ⟨w,19,Z⟩=I (U AA m.light):=AX _ _ 19 _ _ _ r0;obtain⟨K,hK⟩:∃K:Nat,(m.seed+m.light)%18446744073709551616=K:=⟨_,Q⟩
 have eK:IntKind.u64.wrap ((m.seed:Int)+(m.light:Int))=(K:Int):=by
  have h9:IntKind.u64.wrap ((m.seed:Int)+(m.light:Int))=((m.seed:Int)+(m.light:Int))%18446744073709551616:=by simp[IntKind.wrap,IntKind.signed,IntKind.bits]
  rw[h9,<-hK];omega
 have HK:=F hK;have hz:(prog.info? 24).map (·.size)=I m.cs.size:=(qiz 24 20)
 have R0:=F r0;have Hz:=F hz;clear r0 hz hK;refine qrh w1 ((Ae w1 w1).drew) fun hHeld=>?_
 obtain⟨wd,hwd⟩:=Az (w1.drew);rw[hwd]at hHeld ⊢;clear hwd;have yM:=qbw w1 fun w' hS (j:Nat) (u:An) (hu:m.cs[j]?=I u)=>(show E w' ⟨w,0+j,Z⟩=I u by rw[EE];exact AK hS ((AX w1 _ j _ _ _ R0.out).trans hu))
 have YM:=F yM;clear yM;refine G3 (i:=0) (v:= Ba m.cs) Q AG AG AG (fun _ _ _ h=>h) (gh Q 24 _ (by rfl) w 0 (by rfl) m.cs _ YM.out underlying24 Q Hz.out) hHeld ?_;refine zp ?_;refine G3 (i:=2) (v:= Ba m.cs) Q AG AG AG (fun _ _ _ h=>h) (gh Q 24 _ (by rfl) w 0 (by rfl) m.cs _ YM.out underlying24 Q Hz.out) hHeld ?_;refine zp ?_;have d18:∀w',Ag w1 w1 w'->E w' ⟨w,18,Z⟩=I (U AA m.seed):=fun w' hS=>AK hS c18
 have d19:∀w',Ag w1 w1 w'->E w' ⟨w,19,Z⟩=I (U AA m.light):=fun w' hS=>AK hS c19
 clear c18 c19;refine tQ4 4 ?_;refine tQ 8 ?_;refine tQ2 10 ?_;refine url 1 (fun KU Bc=>?_);go_simp;refine(setup_any m hm hu wd).mono ?_;rintro e w2⟨f,rfl,hf,hb2⟩;have q2:=hHeld.trans (hb2.mono hHeld.size);refine Bc.out _ _ q2 (fun _=>?_);refine zp ?_;refine url 3 (fun KU Bc=>?_);go_simp;refine(AiU m hm hu w2).mono ?_;rintro e w3⟨vr,rfl,owr,hb3⟩;have q3:=q2.trans (hb3.mono q2.size);refine Bc.out _ _ q3 (fun _=>?_);refine zp ?_;refine url 9 (fun KU Bc=>?_);go_simp;refine(AiT 65536 K w3 AC).mono ?_;rintro e w4⟨vb,rfl,owb,hb4⟩;have q4:=q3.trans (hb4.mono q3.size);obtain⟨AW,cr,rfl,r1,r2,r3,ar⟩:=(owr.below hb4).form C5.BY;obtain⟨A,ca,rfl,a1,a2,a3,aa⟩:=owb.form Dk;have hlb:(GW K 65536).length=65536:=Rm _ _;have ok:=Min.yi hm
 have cN:=AgL (m.Dx f) AW cr m.rules A ca (GW K 65536) m.light w4 ((hf.on hb3).on hb4) ar r3 r1 ok aa a3 a1 a2 (by rw[hlb];exact Bg _) ⟨by simp[Min.Dx],by simp[Min.Dx],by simp[Min.Dx],by simp[Min.Dx]⟩ (Min.yh hm f) m.W Q m.wd hm.seed hm.light
  (fun _=>0) (fun _ _=>rfl) 1 2 3 AC AC AC AC AC AC
 rw[hlb]at cN a1 ⊢;have Q4:=F q4;have B1:=F b1;clear hlb ok owr owb hf hb2 hb3 hb4 q2 q3 q4 r1 r2 r3 ar a1 a2 a3 aa d18 d19 b1 eK;refine Bc.out _ _ Q4.out (fun _=>?_);refine zp ?_;refine url 12 (fun KU Bc=>?_);go_simp;refine cN.mono ?_;rintro e w5⟨τ',M,v,rfl,Bh,old,Is,P5,hv,-,⟨k1,k2,k3⟩,e1,e2,e3,e4⟩;have q5:=Q4.out.trans (Bh.mono Q4.out.size);have hz:∀k,k<↑w->τ' k=0:=fun k hk=>old k (Ck hk (Br B1.out.size Q4.out.size))
 have Fin:Aj (uV m w (AN (AI (I ⟨M.b,0,Z⟩))) w5):=F ⟨τ',M,v,f,rfl,⟨AH B1.out q5,Is,hz,P5,Dv.init v,rfl⟩,hv,⟨k1,k2,k3⟩,e3,e1,e2,by rw[e4,HK.out]⟩;clear cN hz e1 e2 e3 e4 k1 k2 k3 P5 Is old hv Bh;refine Bc.out _ _ (q5) (fun _=>?_);refine zp ?_;refine tQ4 13 ?_;refine tQ 17 ?_;refine Ce ?_;go_wp2;go_ret;exact Fin.out
theorem Arr.stq{w w':V}{C:Option AS}{st:List G7}(h:Arr 4 G7.enc w w C st)(hb:Ag w w w'){k:Nat}{x:G7}(hx:st[k]?=I x):
  ∃b off,C=I ⟨b,off,Z⟩/\∀(j:Nat) (u:An),(#[U O x.k,U O x.a,U O x.b,.int .u16 (x.n:Int)]:Array An)[j]?=I u->E w' ⟨b,off+k*4+j,Z⟩=I u:=by
 have hl:st≠[]:=fun e=>by grind
 obtain⟨b,off,rfl,hlt,hc⟩:=h hl;refine⟨b,off,Q,fun j u hu=>?_⟩;have h1:=hc k x hx j u (by grind [G7.enc,Arr]);exact AK hb h1
section
variable {τ:Nat→Nat} {w:V} {i b W nb mb:Nat} {x:BR} {bits:List Bool} {a:Bb}
def Used_stt(h:Bx τ w i b x W nb mb bits a):AL AE 48 #[AI (I ⟨b,0,Z⟩)] w fun e w'=>∃v,e=AN v/\Own w' w 3 1 BD v (Gl a.used)/\Ag w w w':=by
 have cV:=Qk b x w h.row;have x36:E w ⟨b,36,Z⟩=I (AI (I ⟨x.pool,0,Z⟩)):=h.row.c 36;have zx:=Used_any x.pool nb mb W bits a.used w h.pool.at_;go_in;go_wp2_with(go_at_call 70;refine mqv (cV) ?_);refine zx.mono ?_;rintro e w2⟨v,rfl,ow,hb⟩;go_wp2;go_ret;exact⟨v,Q,ow,hb⟩
end
section
variable{l:List Rc}{w:V}{τ τ':Nat->Nat}
def Imm.AbI{α:Type}{sz:Nat}{enc:α->List An}{v:An}{l:List α}(h:Imm sz enc τ w v l)(ht:∀k,τ k=0->τ' k=0):Imm sz enc τ' w v l:=by
 obtain⟨A,c,hv,h1,h2,h3,ha,hb⟩:=h;exact⟨A,c,hv,h1,h2,h3,ha,fun a e=>⟨(hb a e).1,ht _ (hb a e).2⟩⟩
def C6.AbI{rv:List EZ}(h:C6 τ w rv l)(ht:∀k,τ k=0->τ' k=0):C6 τ' w rv l:=
 ⟨h.1,fun k r q hr hq=>by
  obtain⟨a,b,c,d,e,f⟩:=h.2 k r q hr hq;exact⟨a,b,c,d.AbI ht,e.AbI ht,f.AbI ht⟩⟩
theorem I5{w':V}{base g AP c k j:Nat}{fk:List EZ}{r r':EZ}{q:Rc}{u:An}(own:Own w base 70 6 EZ.enc (R (I ⟨g,0,Z⟩) AP c) fk)(hN:Y fk=AP)(hR:C6 τ w fk l)(hr:fk[k]?=I r)(hq:l[k]?=I q)(hg:τ g≠0)
  (hb:Ag w w w') (hj:j<6) (hu:r'.enc=r.enc.set j u) (hn:DS τ w' r' q):
  Own (Ai w' ⟨g,k*6+j,Z⟩ u) base 70 6 EZ.enc (R (I ⟨g,0,Z⟩) AP c) (fk.set k r')/\(fk.set k r').length=AP/\C6 τ (Ai w' ⟨g,k*6+j,Z⟩ u) (fk.set k r') l/\(fk.set k r')[k]?=I r'/\AT (fun k=>k=g) w (Ai w' ⟨g,k*6+j,Z⟩ u)/\DS τ (Ai w' ⟨g,k*6+j,Z⟩ u) r' q:=by
 have kp:Kp τ τ w' (Ai w' ⟨g,k*6+j,Z⟩ u) (fun k=>k=g):=⟨AT.set Q,fun _ _=>rfl,fun k e=>qrf e hg⟩
 have hk:=(EF.1 hr).1;have EU:=hn.keep kp;refine⟨(own.below hb).TH hN EZ.BY hr hj hu,by rw[LN];exact hN,⟨by rw[LN];exact hR.1,fun i x y hx hy=>?_⟩,by grind,(AT.of hb).trans kp.out,EU⟩;by_cases e:k=i
 ·subst e
  obtain rfl:x=r':=by grind
  obtain rfl:y=q:=by grind
  exact EU
 ·exact((hR.keep (Kp.of hb)).keep kp).2 i x y (by grind) hy
def rec_one(s n t:Int)(A B C:Option AS)(a b c d e f:Nat):(#[U O s,R A a b,U O n,U O t,R B c d,R C e f]:Array An).all (·.oneCell')=true:=by simp[Value.oneCell']
def recZ:Array An:=#[U O 0,R Z 0 0,U O 0,U O 0,R Z 0 0,R Z 0 0]
theorem copies_any(A:Option AS)(c:Nat)(rw:List Iy)(l:List Rc)(fr:BU τ w)(hA:Arr 6 Iy.enc w w A rw)(h1:Y rw<=c)(h3:A=Z->c=0)(hR:C6 τ w (rw.map (·.1)) l)(few:Few6 l)(hl:Y l<=1000000):
  AL AE 71 #[R A (Y rw) c] w fun e w'=>∃vl sv,e=AN vl/\Own w' w 70 6 EZ.enc vl sv/\C6 τ w' sv l/\Ag w w w':=by
 have hn:Y rw=Y l:=by rw[<-hR.1,Dz]
 have cC:=ax A c rw w hA h3 h1 J;rw[hn]at cC ⊢;have Hl:=F hl;clear hA h1 h3 hn hl;go_in;go_wp2_with fail;refine cC.mono ?_;rintro e w1⟨v1,rfl,own1',hb1⟩;have Dy:=I4.1 own1';have hlr:(rw.map (·.1)).length=Y l:=hR.1;obtain⟨A1,c1,rfl,-,-,-,-⟩:=Dy.form EZ.BY;rw[hlr]at Dy ⊢;obtain⟨τ1,hτ⟩:∃τ1:Nat->Nat,τ1=Fh τ (fun k=>∃o,A1=I ⟨k,o,Z⟩) 1:=⟨_,Q⟩
 have hlo:∀k o,A1=I ⟨k,o,Z⟩->w.heap.size<=k/\k<↑w1:=fun k o e=>Cp Dy k (by rw[e];rfl)
 have t0:∀k,τ1 k=0->τ k=0:=fun k h=>by
  by_cases e:∃o,A1=I ⟨k,o,Z⟩
  ·obtain⟨o,e⟩:=e
   exact fr k (hlo k o e).1
  ·rw[hτ,JY e]at h;exact h
 have told:∀k,k<↑w->τ1 k=τ k:=fun k hk=>by rw[hτ];exact JY (fun⟨o,e⟩=>by have:=(hlo k o e).1;omega)
 have tnew:∀k,w1.heap.size<=k->τ1 k=0:=fun k hk=>by
  rw[hτ,JY (fun⟨o,e⟩=>by have:=(hlo k o e).2;omega)];exact fr k (Br hb1.size hk)
 have IU:∀g o,A1=I ⟨g,o,Z⟩->τ1 g≠0:=fun g o e=>by rw[hτ,US ⟨o,e⟩];decide
 have R1:C6 τ1 w1 (rw.map (·.1)) l:=hR.keep (S:=fun _=>False) ⟨AT.of hb1,told,fun _ h=>h.elim⟩;clear hR cC own1' hτ told;go_wp2_with fail;go_loopw [10] (fun iv wr=>∃(k:Nat) (fk:List EZ),iv=U O k/\Own wr w 70 6 EZ.enc (R A1 (Y l) c1) fk/\C6 τ1 wr fk l/\Ag w w wr/\Aj (w1.heap.size<=wr.heap.size)) (fun iv _=>Y l-(intOf iv).toNat);exact⟨0,_,rfl,Dy,R1,hb1,F (Bg _)⟩
 obtain⟨k,fk,rfl,own,hR,hb,hs⟩:=hrel;obtain⟨w2,rfl⟩:=qgn wr;clear Dy R1;by_cases hk:k<Y l
 ·have hlk:=hR.1
  rcases own.2 with⟨_,h0⟩ | ⟨g,cap,cur,hv3,hg3,hgr,_⟩
  ·have:=h0
   omega
  have hA1:=(Value.slice.inj hv3).1;subst hA1;have hg:=IU g _ Q;have RY:=(Bm.1 hgr).1;clear hv3 hgr IU;obtain⟨⟨rs,rb,rn,AcO,rl,AcJ⟩,er⟩:∃r,fk[k]?=I r:=⟨_,CH J⟩
  obtain⟨q,qh⟩:∃q,l[k]?=I q:=⟨_,CH hk⟩
  obtain⟨f1,f2,f3⟩:=few q (DI qh);have AF:=hR.2 k _ q er qh;obtain⟨a1,a2,a3,Np,Mb,ik⟩:=id AF;obtain⟨B1,x1,ab,b1,b2,b3,gb,-⟩:=Np;obtain⟨L1,y1,al,l1,l2,l3,gl,-⟩:=Mb;obtain⟨K1,z1,gV,k1,k2,k3,gk,-⟩:=ik;simp only at a1 a2 a3 ab al gV;subst a1 a2 a3 ab al gV;have hc:∀(j:Nat) (u:An),(#[U O q.ses,R B1 (Y q.block) x1,U O q.n,U O q.t,R L1 (Y q.ledger) y1,R K1 (Y q.key) z1]:Array An)[j]?=I u->E w2 ⟨g,k*6+j,Z⟩=I u:=fun j u hu=>own.OI hlk EZ.BY er (by grind [EZ.enc])
  have q3:=AB (Ae w2 w2) (N #[U O q.ses,R B1 (Y q.block) x1,U O q.n,U O q.t,R L1 (Y q.ledger) y1,R K1 (Y q.key) z1] 70);have r3:(Ao w2 (N #[U O q.ses,R B1 (Y q.block) x1,U O q.n,U O q.t,R L1 (Y q.ledger) y1,R K1 (Y q.key) z1] 70)).heap[w2.heap.size]?=I (N #[U O q.ses,R B1 (Y q.block) x1,U O q.n,U O q.t,R L1 (Y q.ledger) y1,R K1 (Y q.key) z1] 70 (0,0)):=CB _ _;have Hc:=F hc;clear hc
  go_upto_region 5 with(first
   | (refine JN 70 _ Q g (k*6) (by go_simp) #[U O q.ses,R B1 (Y q.block) x1,U O q.n,U O q.t,R L1 (Y q.ledger) y1,R K1 (Y q.key) z1] _ Hc underlying70 Q (qiz 70 6) (by rfl) ?_)
   | (refine Great.wpList_allocTo Q (I 5) Q (AI (I ⟨w2,0,Z⟩)) (N recZ 70) AG ?_)
   | (refine Mc Q 70 _ _ Q w2 #[U O q.ses,R B1 (Y q.block) x1,U O q.n,U O q.t,R L1 (Y q.ledger) y1,R K1 (Y q.key) z1] AG AG 70 recZ (CB w2 _) (qiz 70 6) Q (rec_one _ _ _ _ _ _ _ _ _ _ _ _) ?_))
  rw[World.setRow_alloc_new];refine zp ?_;obtain⟨w3,hw3⟩:=Az (Ao w2 (N #[U O q.ses,R B1 (Y q.block) x1,U O q.n,U O q.t,R L1 (Y q.ledger) y1,R K1 (Y q.key) z1] 70));obtain⟨p,hp⟩:=Az (w2.heap.size);rw[hw3]at q3 r3 ⊢;have gp:p≠g:=J;have hs3:=F (Br hs q3.size);rw[hp]at r3 ⊢;clear hw3 Hc;have EW:=own.below q3;have R3:=hR.keep (Kp.of q3);have q03:Ag w w w3:=AH hb q3;clear own hR hs hp RY;have z1c:E w3 ⟨p,1,Z⟩=I (R B1 (Y q.block) x1):=AX _ _ 1 _ _ _ r3;have cB:=Yp B1 x1 q.block w3 (gb.on q3) b3 b1 b2 J;have gl3:=gl.on q3;have gk3:=gk.on q3;clear gb gl gk q3 b1 b2 b3;go_wp2_with fail;refine cB.mono ?_;rintro e w4⟨v4,rfl,Eb,hb4⟩;obtain⟨B4,x4,rfl,-,-,-,-⟩:=Eb.form Dk;have LH:Imm 1 C4 τ1 w4 (R B4 (Y q.block) x4) q.block:=Eb.imm Dk (fun j hj=>tnew j (Br hs3 hj));obtain⟨_,_,_,_,ol3,ok3⟩:=R3.2 k _ q er qh;obtain⟨Ed,e5,R5,er5,o5,_⟩:=I5 (r':=⟨q.ses,R B4 (Y q.block) x4,q.n,q.t,R L1 (Y q.ledger) y1,R K1 (Y q.key) z1⟩) (j:=1) EW hlk R3 er qh hg hb4 AC Q ⟨rfl,rfl,rfl,LH,ol3.keep (Kp.of hb4),ok3.keep (Kp.of hb4)⟩;have xf4:=(EW.below hb4).OJ hlk (k*6+1);have xc4:E w4 ⟨g,k*6+1,Z⟩=_:=(EW.below hb4).OI hlk EZ.BY er (j:=1) (u:= R B1 (Y q.block) x1) Q;have b5:Ag w w (Ai w4 ⟨g,k*6+1,Z⟩ (R B4 (Y q.block) x4)):=(AH q03 hb4).setCell hg3 _;clear Eb LH ol3 ok3 cB EW hlk R3 er hb4 q03 z1c;go_upto_region 6 with fail;obtain⟨w5,Ct⟩:=Az (Ai w4 ⟨g,k*6+1,Z⟩ (R B4 (Y q.block) x4));rw[Ct]at Ed R5 o5 b5 ⊢;clear Ct xf4 xc4;have r5:=o5.row r3 gp;have hs5:=F (Br hs3 o5.size);have z4c:E w5 ⟨p,4,Z⟩=I (R L1 (Y q.ledger) y1):=AX _ _ 4 _ _ _ r5;have kp5:Kp τ1 τ1 w3 w5 (fun k=>k=g):=⟨o5,fun _ _=>rfl,fun k e=>qrf e hg⟩
  obtain⟨_,_,_,ob5,ol5,ok5⟩:=R5.2 k _ q er5 qh;obtain⟨L1',y1',el,-,-,-,gl5,-⟩:=id ol5;obtain⟨rfl,-,rfl⟩:=Value.slice.inj el;have cL:=Clone_item L1 y1 q.ledger w5 gl5 l3 l1 J;clear el gl3 gl5 hs3 r3 kp5 o5;go_wp2_with fail;refine cL.mono ?_;rintro e w6⟨v6,rfl,Ls,BV⟩;obtain⟨L6,y6,rfl,-,-,-,-⟩:=Ls.form C8.BY;have im6:Imm 2 C8.enc τ1 w6 (R L6 (Y q.ledger) y6) q.ledger:=Ls.imm C8.BY (fun j hj=>tnew j (Br hs5 hj));obtain⟨Mm,e7,R7,er7,o7,_⟩:=I5 (r':=⟨q.ses,R B4 (Y q.block) x4,q.n,q.t,R L6 (Y q.ledger) y6,R K1 (Y q.key) z1⟩) (j:=4) Ed e5 R5 er5 qh hg BV AC Q ⟨rfl,rfl,rfl,ob5.keep (Kp.of BV),im6,ok5.keep (Kp.of BV)⟩;have xf6:=(Ed.below BV).OJ e5 (k*6+4);have xc6:E w6 ⟨g,k*6+4,Z⟩=_:=(Ed.below BV).OI e5 EZ.BY er5 (j:=4) (u:= R L1 (Y q.ledger) y1) Q;have b7:Ag w w (Ai w6 ⟨g,k*6+4,Z⟩ (R L6 (Y q.ledger) y6)):=(AH b5 BV).setCell hg3 _;clear Ls im6 ol5 ok5 ob5 cL Ed e5 R5 er5 BV b5 z4c;go_upto_region 7 with fail;obtain⟨w7,Ig⟩:=Az (Ai w6 ⟨g,k*6+4,Z⟩ (R L6 (Y q.ledger) y6));rw[Ig]at Mm R7 o7 b7 ⊢;clear Ig xf6 xc6;have Aca:=o7.row r5 gp;have hs7:=F (Br hs5 o7.size);have z5c:E w7 ⟨p,5,Z⟩=I (R K1 (Y q.key) z1):=AX _ _ 5 _ _ _ Aca;obtain⟨_,_,_,ob7,ol7,ok7⟩:=R7.2 k _ q er7 qh;obtain⟨K1',z1',ek,-,-,-,gk7,-⟩:=id ok7;obtain⟨rfl,-,rfl⟩:=Value.slice.inj ek;have cK:=Yp K1 z1 q.key w7 gk7 k3 k1 k2 J;clear ek gk3 gk7 hs5 r5 o7;go_wp2_with fail;refine cK.mono ?_;rintro e w8⟨v8,rfl,VM,Cv⟩;obtain⟨K8,z8,rfl,-,-,-,-⟩:=VM.form Dk;have im8:Imm 1 C4 τ1 w8 (R K8 (Y q.key) z8) q.key:=VM.imm Dk (fun j hj=>tnew j (Br hs7 hj));obtain⟨KR,e9,R9,er9,o9,_⟩:=I5 (r':=⟨q.ses,R B4 (Y q.block) x4,q.n,q.t,R L6 (Y q.ledger) y6,R K8 (Y q.key) z8⟩) (j:=5) Mm e7 R7 er7 qh hg Cv AC Q ⟨rfl,rfl,rfl,ob7.keep (Kp.of Cv),ol7.keep (Kp.of Cv),im8⟩;have xf8:=(Mm.below Cv).OJ e7 (k*6+5);have xc8:E w8 ⟨g,k*6+5,Z⟩=_:=(Mm.below Cv).OI e7 EZ.BY er7 (j:=5) (u:= R K1 (Y q.key) z1) Q;have b9:Ag w w (Ai w8 ⟨g,k*6+5,Z⟩ (R K8 (Y q.key) z8)):=(AH b7 Cv).setCell hg3 _;have hs9:=F (Br hs7 o9.size);have h9:=Hl.out;clear VM im8 ol7 ok7 ob7 cK Mm e7 R7 er7 Cv b7 z5c o9 hs7 Aca;go_wp2_with fail;exact⟨⟨k+1,_,qgm,KR,R9,b9,hs9⟩,qio⟩
 ·go_wp2_with fail
  go_ret;exact⟨_,fk,Q,own,hR.AbI t0,hb⟩
section
variable {τ:Nat→Nat} {w:V} {i b W nb mb:Nat} {x:BR} {bits:List Bool} {a:Bb}
def r8(h:Bx τ w i b x W nb mb bits a)(fr:BU τ w)(few:Few6 a.recs)(hl:Y a.recs<=1000000):AL AE 20 #[AI (I ⟨b,0,Z⟩)] w fun e w'=>
  ∃vl sv,e=AN vl/\Own w' w 70 6 EZ.enc vl sv/\C6 τ w' sv a.recs/\Ag w w w':=by
 have cV:=Qk b x w h.row;obtain⟨rw,r1,r2,r3⟩:=h.recs.subs;obtain⟨A,c,hrv,l1,m1,n1,arR⟩:=r1.form Iy.BY;have x37:E w ⟨b,37,Z⟩=I (R A (Y rw) c):=qrb hrv (h.row.c 37);have cC:=copies_any A c rw a.recs fr arR l1 n1 ⟨by rw[Dz];exact r2,r3⟩ few hl;clear hrv l1 m1 n1 arR r1 r2 r3;go_in;go_wp2_with(go_at_call 70;refine mqv (cV) ?_);refine cC.mono ?_;rintro e w2⟨vl,sv,rfl,ow,hR,hb⟩;go_wp2;go_ret;exact⟨vl,sv,Q,ow,hR,hb⟩
end
end
def Frm.bel{τ τ':Nat->Nat}{w0 w w':V}{i:Nat}(h:Frm τ τ' w w' i)(P:Ag w0 w0 w)(hz:∀k,k<↑w0->τ k=0)(hi:i≠0):Ag w0 w0 w'/\∀k,k<↑w0->τ' k=0:=
 ⟨P.trans ⟨h.out.os,h.out.tape,h.out.output,h.out.size,fun k hk=>h.out.block k (Ck hk P.size) (fun e=>by rw[hz k hk]at e;exact hi e.symm)⟩,fun k hk=>(h.tag k (Ck hk P.size)).trans (hz k hk)⟩
theorem L7.stat{w wr:V}{v:Bj}{b0:Nat}{τ:Nat->Nat}{M:Dg}{q:Bt}(h:L7 w v b0 τ wr M q)(i:Int)(hi:i=0\/i=1)(j:Nat):AL AE 19 #[AI (I ⟨b0,0,Z⟩),U O i] wr fun e w'=>
  ∃τ' x nb mb,e=AN (AI (I ⟨wr,0,Z⟩))/\Ag wr wr w'/\(∀k,k<↑wr->τ' k=τ k)/\BU τ' w'/\Bx τ' w' j wr x v.W nb mb v.bits (q.at i)/\x.z v.W v.bits=v.z i:=by
 have hc:=AgY h.p h.fr i hi h.iv.x.cs h.iv.y.cs (by have:=h.iv.x.few;omega) (by have:=h.iv.y.few;omega) j;rw[h.mb]at hc;refine hc.mono ?_;rintro e w' (⟨rfl,τ',x,nb,mb,he,hb,ht,_,fr,st,h1,h2⟩ | ⟨rfl,τ',x,nb,mb,he,hb,ht,_,fr,st,h1,h2⟩)
 ·exact⟨τ',x,nb,mb,he,hb,ht,fr,st,by rw[<-h.p.z0];unfold BR.z;grind⟩
 ·exact⟨τ',x,nb,mb,he,hb,ht,fr,st,by rw[<-h.p.z1];unfold BR.z;grind⟩
def few_of{z:AV}{a:Bb}(h:BO z a):Few6 a.recs/\Y a.recs<=1000000:=⟨fun q hq=>by
 obtain⟨_,h1,h2,h3⟩:=h.recs q hq;omega,by have:=h.few;omega⟩
structure Dwn(a1 a:Bb):Prop where
 ph:a1.ph=4
 recs:a1.recs=a.recs
 used:a1.used=a.used
 last:a1.last=a.last
def crE(a:Bb):Int:=if a.ph=4 then 13 else 0
section
variable {τ:Nat→Nat} {w:V} {i j b b2 W nb mb nb2 mb2:Nat} {x x2:BR} {bits:List Bool} {a a2:Bb}
def Fix.AeK{x x':BR}(h:Fix x x')(W:Nat)(bits:List Bool):x'.z W bits=x.z W bits:=by unfold BR.z;rw[h.s,h.side]
def crash2(h:Bx τ w i b x W nb mb bits a)(hi:i≠0)(fr:BU τ w)(iv:BO (x.z W bits) a):AL AE 44 #[AI (I ⟨b,0,Z⟩)] w fun e w'=>
  e=AN (U O (crE a))/\∃x' a1,Frm τ τ w w' i/\BU τ w'/\Bx τ w' i b x' W nb mb bits a1/\BO (x'.z W bits) a1/\Dwn a1 a/\x'.z W bits=x.z W bits:=by
 refine(Y9 h hi).mono ?_;rintro e w' (⟨h4,rfl,rfl⟩ | ⟨h4,rfl,x',AY,s,fx⟩)
 ·exact⟨by unfold crE;rw[Bd h4],x,a,Frm.refl _ _ _,fr,h,iv,⟨h4,Q,Q,Q⟩,Q⟩
 ·exact⟨by unfold crE;rw[AU h4],x',_,AY,fr.on AY.out.size,s,by rw[fx.AeK];exact iv.down,⟨Q,Q,Q,Q⟩,fx.AeK W bits⟩
def tick4(h:Bx τ w i b x W nb mb bits a)(hi:i≠0)(fr:BU τ w)(iv:BO (x.z W bits) a)(h4:a.ph=4):AL AE 45 #[AI (I ⟨b,0,Z⟩)] w fun e w'=>
  e=AN (Be #[R Z 0 0,U O 13])/\w=w':=by
 refine(AbM h hi fr (fun e=>by omega) (by have:=iv.wt;omega) (fun l hl=>(iv.sent l hl).len)).mono ?_;rintro e w' (⟨_,rfl,rfl⟩ | ⟨h5,_⟩)
 ·exact⟨Q,Q⟩
 ·exact(h5 h4).elim
def take4(h:Bx τ w i b x W nb mb bits a)(hi:i≠0)(fr:BU τ w)(ok:Gi x.s W)(iv:BO (x.z W bits) a)(h4:a.ph=4):AL AE 46 #[AI (I ⟨b,0,Z⟩),Ba #[U O 1,U O 11,U O 0,R Z 0 0,U AA 0]] w fun e w'=>
  e=AN (Be #[R Z 0 0,U O 13])/\∃τ' x',Frm τ τ' w w' i/\BU τ' w'/\Bx τ' w' i b x' W nb mb bits a/\x'.z W bits=x.z W bits:=by
 refine(Aiy h hi fr ok iv ⟨1,11,0,[],0⟩ Z 0 Imm.nil AC).mono ?_;rintro e w'⟨τ',x',v',rfl,AY,fr',s,o,fx⟩;have e1:(x.z W bits).Gj a ⟨1,11,0,[],0⟩=(a,[],13):=by unfold AV.Gj;rw[Bd h4]
 rw[e1]at s o ⊢;rcases o with⟨_,rfl⟩ | ⟨_,_,e,_⟩
 ·exact⟨Q,τ',x',AY,fr',s,fx.AeK W bits⟩
 ·cases e
def restart4(h:Bx τ w i b x W nb mb bits a)(hi:i≠0)(h4:a.ph=4):AL AE 49 #[AI (I ⟨b,0,Z⟩)] w fun e w'=>
  e=AN (U O 0)/\∃x',Frm τ τ w w' i/\Bx τ w' i b x' W nb mb bits {a with ph:=0}:=by
 refine(HQ h hi).mono ?_;rintro e w' (⟨h5,_⟩ | ⟨_,rfl,x',AY,s,_⟩)
 ·exact(h5 h4).elim
 ·exact⟨Q,x',AY,s⟩
def restart0(h:Bx τ w i b x W nb mb bits a)(hi:i≠0)(h4:a.ph≠4):AL AE 49 #[AI (I ⟨b,0,Z⟩)] w fun e w'=>e=AN (U O 11)/\w=w':=by
 refine(HQ h hi).mono ?_;rintro e w' (⟨_,rfl,rfl⟩ | ⟨h5,_⟩)
 ·exact⟨Q,Q⟩
 ·exact(h4 h5).elim
end
def cra_any(m:Min)(hm:m.Ok)(hu:m.U8)(C:Option AS)(cC:Nat)(st:List G7)(sd:Nat){w:V}(hC:Arr 4 G7.enc w w C st)(hl:Y st<=cC)(hc:cC<=maxLen)(hx:∀x∈st,x.n<65536)(Gk:sd<256):
  AL AE 9 #[m.val,R C (Y st) cC,U Cd sd] w fun e w'=>e=AN (Av true)/\Ag w w w':=by
 have b1:=AB (Ae w w) (N m.cs 24);have r0:(Ao w (N m.cs 24)).heap[w.heap.size]?=I (N m.cs 24 (0,0)):=CB _ _;have cM:=fun w'=>Ai3 m hm hu w'
 have HX:=F hx;have HC:=F hC;clear hx hC;show AL AE 9 #[Ba m,R C (Y st) cC,U Cd sd] w _;go_in;go_upto_region 1 with fail;change Code.wp _ _ _ _ (Ao w (N m.cs 24));obtain⟨w1,BJ⟩:=Az (Ao w (N m.cs 24));rw[BJ]at b1 r0 ⊢;clear BJ;have R0:=F r0;clear r0;go_wp2_with(refine wpList_load_row Q 24 _ Q w Q 24 m.cs (0,0) _ R0 underlying24 Q (qiz 24 20) ?_);refine(cM w1).mono ?_;rintro e w2⟨τ,M,v,f,rfl,L0,hv,hk,-⟩;obtain⟨b0,hb0⟩:=Az (M.b);rw[hb0]at L0 ⊢;clear hb0 cM R0;have B2:=F (fun(τ:Nat->Nat) (wr:V) (M:Dg) (q:Bt) (L:L7 w1 v b0 τ wr M q)=>(AH b1 L.b:Ag w w wr));have hs1:=F b1.size;clear b1;go_upto_block 0 with fail;go_cut [] (fun wr=>∃τ M q,L7 w1 v b0 τ wr M q)
 case first=>
  go_wp2_with fail;go_loopw [8] (fun i wr=>∃(k:Nat) (τ:Nat->Nat) (M:Dg),i=U O k/\k<=Y st/\k<=60/\L7 w1 v b0 τ wr M (v.Sr prs0 (st.take k))) (fun i _=>Y st-(intOf i).toNat);exact⟨0,τ,M,rfl,BM _,BM _,L0⟩
  obtain⟨k,τ1,M1,rfl,GT,hk2,L1⟩:=hrel;obtain⟨w3,rfl⟩:=qgn wr;clear L0;have Fin:Aj (∃τ M q,L7 w1 v b0 τ w3 M q):=F ⟨_,_,_,L1⟩;by_cases h1:k<Y st
  ·by_cases h2:k<60
   ·obtain⟨x,hx⟩:∃x,st[k]?=I x:=⟨_,CH h1⟩
    have hxn:=HX.out x (DI hx);obtain⟨bb,off,hCe,hcs⟩:=Arr.stq HC (B2.out _ _ _ _ L1) hx;subst hCe;have cT:=Ai2 L1 hv hk x hxn;have Hcs:=F hcs;have Hx:=F hx;clear hcs hx hxn L1 Fin;go_wp2_with(refine JN 32 _ Q bb (off+k*4) (by go_simp) #[U O x.k,U O x.a,U O x.b,.int .u16 (x.n:Int)] _ Hcs underlying32 Q (qiz 32 4) (by rfl) ?_);refine cT.mono ?_;rintro e w4⟨rfl,τ4,M4,L4⟩;have L5:=F (show L7 w1 v b0 τ4 w4 M4 (v.Sr prs0 (st.take (k+1)))by rw[Ai1 v prs0 Hx];exact L4);clear L4 cT;go_wp2_with fail;go_roundw
    case rel=>first | exact⟨k+1,τ4,M4,qgm,h1,h2,L5.out⟩ | ((repeat apply PQ);exact⟨⟨k+1,τ4,M4,qgm,h1,h2,L5.out⟩,Q⟩)
    case measure=>(simp[intOf] <;> omega)
   ·clear L1
    go_wp2;go_meet;exact Fin.out
  ·clear L1
   go_wp2;go_meet;exact Fin.out
 obtain⟨τ2,M2,q2,L2⟩:=hcut;obtain⟨w5,rfl⟩:=qgn wc;clear L0 HX HC;obtain⟨i,hi,e7⟩:∃i:Int,(i=0\/i=1)/\(sd:Int)%2=i:=⟨_,J,Q⟩
 have cS:=L2.stat i hi 4;have P5:=B2.out _ _ _ _ L2;have z5:=L2.z;have s5:=L2.b.size;have iv5:=L2.iv.at hi;have ok5:=(hv.z i).s;have Hi:=F hi;clear L2 hi;go_wp2_with fail;refine cS.mono ?_;rintro e w6⟨τ6,x6,n6,m6,rfl,BV,ht6,fr6,s6,zx6⟩;obtain⟨a,ha⟩:=Az (q2.at i);rw[ha]at s6 iv5;rw[<-zx6]at iv5 ok5;have P6:=AH P5 BV;have z6:∀k,k<↑w->τ6 k=0:=fun k hk=>(ht6 k (by have:=hs1.out;omega)).trans (z5 k (by have:=hs1.out;omega))
 obtain⟨B1,hB1⟩:=Az (w5.heap.size);rw[hB1]at s6 ⊢;have cC:=ti s6 fr6 s6.KY iv5.cs (by have:=iv5.few;omega) 5;have Iv6:=F iv5;have GN:=F z6;clear cS ha ht6 z5 s5 hB1 zx6 P5 BV iv5 z6;go_wp2_with fail;refine cC.mono ?_;rintro e w7⟨τ7,y7,n7,m7,rfl,Cl,ht7,-,fr7,sy7,ys7,-⟩;have RF:=F (AH P6 Cl);have z7:∀k,k<↑w->τ7 k=0:=fun k hk=>(ht7 k (Ck hk P6.size)).trans (GN.out k hk)
 have sx7:Bx τ7 w7 4 B1 x6 v.W n6 m6 v.bits a:=s6.keep (j:=9) ⟨AT.of Cl,ht7⟩ AC AC;obtain⟨B2',RK⟩:=Az (w6.heap.size);rw[RK]at sy7 ⊢;have QI:=F z7;have cP:=pI sx7;have cX:=crash2 sx7 AC fr7 Iv6;clear cC s6 Cl ht7 P6 z7 RK GN;obtain⟨AM,hE⟩:=Az (crE a);obtain⟨ph,Gd⟩:=Az (a.ph);rw[hE]at cX;rw[Gd]at cP;by_cases h4:ph=4
 case' pos=>
  obtain rfl:AM=13:=by rw[<-hE];unfold crE;rw[Bd (Gd.trans h4)]
  subst h4
 case' neg=>
  obtain rfl:AM=0:=by rw[<-hE];unfold crE;rw[AU (fun e=>h4 (Gd.symm.trans e))]
  have g4:(ph == 4)=false:=qsu h4;clear h4
 all_goals(
  clear hE Gd;go_wp2_with fail;refine cP.mono ?_;rintro e w8⟨rfl,rfl⟩;go_wp2_with fail;refine cX.mono ?_;rintro e w8⟨rfl,x8,a8,F8,Ki,s8,iv8,Jm,zx8⟩;have sy8:=sy7.keep F8 AC AC;have P8:=F (F8.bel RF QI AC);have cP8:=pI s8;rw[Jm.ph]at cP8;have ok8:Gi x8.s v.W:=by have e:x8.s=x6.s:=congrArg AV.s zx8;rw[e];exact ok5
  have cT:=tick4 s8 AC Ki iv8 Jm.ph;have cK:=take4 s8 AC Ki ok8 iv8 Jm.ph;have Iv8:=F iv8;clear cP cX sx7 sy7 F8 RF QI ok5 Iv6 s8 fr7 iv8;go_wp2_with fail;refine cP8.mono ?_;rintro e w9⟨rfl,rfl⟩;go_wp2_with fail;refine cT.mono ?_;rintro e w9⟨rfl,rfl⟩;go_wp2_with fail;refine cK.mono ?_;rintro e w9⟨rfl,τ9,x9,F9,Ek,s9,zx9⟩;have sy9:=sy8.keep F9 AC AC;have KT:=F (F9.bel P8.out.1 P8.out.2 AC);have iv9:BO (x9.z v.W v.bits) a8:=qrf zx9 Iv8;have cX9:=crash2 s9 AC Ek iv9;rw[show crE a8=13 by unfold crE;rw[Bd Jm.ph]]at cX9;clear cP8 cT cK sy8 F9 P8 s9 Ki zx8 iv9;go_wp2_with fail;refine cX9.mono ?_;rintro e wa⟨rfl,xa,aa,Kq,fra,sa,iva,mJ,-⟩;have sya:=sy9.keep Kq AC AC;have WI:=F (Kq.bel KT.out.1 KT.out.2 AC);have GT:=F WI.out.2;have er:aa.recs=a.recs:=mJ.recs.trans Jm.recs;have qw:aa.used=a.used:=mJ.used.trans Jm.used;have el:aa.last=a.last:=mJ.last.trans Jm.last;obtain⟨f1,f2⟩:=few_of iva;have cR:=r8 sa fra f1 f2;clear cX9 sy9 Kq KT Ek Iv8 iva;go_wp2_with fail;refine cR.mono ?_;rintro e wb⟨vb,rb,rfl,owb,rcb,BN⟩;have syb:=sya.on BN;have sb:=sa.on BN;have frb:=fra.on BN.size;have cR2:=r8 syb frb (qrb er f1) (qrb er f2);have LC:=F (AH WI.out.1 BN);clear cR sya sa fra BN;go_wp2_with fail;refine cR2.mono ?_;rintro e wc⟨eh,Pa,rfl,owc,rcc,DT⟩;have syc:=syb.on DT;have sc:=sb.on DT;have frc:=frb.on DT.size;have LD:=F (AH LC DT);obtain⟨Ab,cb,rfl,-,-,-,arb⟩:=(owb.below DT).form EZ.BY;obtain⟨Ac,cc,rfl,-,-,-,arc⟩:=owc.form EZ.BY;have cSR:=AjZ Ab Ac cb cc rb Pa a.recs wc arb arc (qrb er (rcb.keep (Kp.of DT))) rcc (qrb er f1) (qrb er f2);clear cR2 syb sb frb DT LC owb owc rcb rcc arb arc f1 f2 er;go_wp2_with fail;refine gqz cSR fun wd hbd=>?_;have syd:=syc.on hbd;have sd':=sc.on hbd;have Pd:=F (AH LD hbd);have zx:=Used_stt sd';clear cSR syc sc hbd LD frc;go_wp2_with fail;refine zx.mono ?_;rintro e Yq⟨em,rfl,owe,hbe⟩;have sye:=syd.on hbe;have Pp:=sd'.on hbe;have Pe:=F (AH Pd hbe);have cU2:=Used_stt sye;clear zx syd sd' hbe Pd;go_wp2_with fail;refine cU2.mono ?_;rintro e wf⟨vf,rfl,owf,hbf⟩;have syf:=sye.on hbf;have Pq:=Pp.on hbf;have iy:=F (AH Pe hbf);rw[qw]at owe;obtain⟨AB,mC,rfl,-,-,-,are⟩:=(owe.below hbf).form DY;obtain⟨Af,cf,rfl,-,-,-,arf⟩:=owf.form DY;have cI:=Ints_same AB Af mC cf (Gl a.used) wf are arf (by have:=syf.pool.at_.ul;unfold Gl;rw[List.length_mergeSort,Dz];omega);clear cU2 sye Pp hbf Pe owe owf are arf;go_wp2_with fail;refine gqz cI fun zG hbg=>?_;have syg:=syf.on hbg;have Xt:=Pq.on hbg;have VX:=F (AH iy hbg);have cL:=aP Xt;rw[el]at cL;have cL2:=aP syg;have cRe:=restart4 Xt AC mJ.ph;obtain⟨la,hla⟩:=Az (a.last);rw[hla]at cL cL2;clear cI syf Pq hbg iy hla el qw;go_wp2_with fail;refine cL.mono ?_;rintro e wh⟨rfl,rfl⟩;go_wp2_with fail;refine cL2.mono ?_;rintro e wh⟨rfl,rfl⟩;go_wp2_with fail;refine cRe.mono ?_;rintro e wh⟨rfl,RB,KM,sh⟩;have Uv:=F (KM.bel VX GT AC);have cRf:=restart0 sh AC (show¬(0:Int)=4 by decide);have cPh:=pI sh;clear cL cL2 cRe Xt syg VX KM sh;go_wp2_with fail;refine cRf.mono ?_;rintro e wi⟨rfl,rfl⟩;go_wp2_with fail;refine cPh.mono ?_;rintro e wi⟨rfl,rfl⟩;have cW:=AaE wh;go_wp2_with fail;refine gqz cW fun mQ Co=>?_;have Fin:=F (AH Uv.out.1 Co);clear cRf cPh cW Co Uv;go_wp2;go_ret;exact⟨Q,Fin.out⟩)
open Go.ChangeShapes Go.WideShapes Go.ChangeAt Go.Deep Go.Joins
section
variable {H:Type} {en:TypeId × An→H} {w:V} {base:Nat} {sp:Nat→Bool} {held:Bool}
theorem G6{P:Program}{fs:Array Field}{xs:List (DataW H × List MemPlace)}{cs:List An}{n:Nat}
  (hd:∀(i:Nat) (f:Field),fs[i]?=I f->DataW.trod en P w base sp held n f.type ((cs.drop f.offset).take (P.cellsOf f.type))=xs[i]?) (hl:Y xs=fs.size)
  (i:Nat) (T:TypeId) (off k:Nat) (hf:(fs[i]?).map (fun f=>(f.type,f.offset))=I (T,off)) (hk:P.cellsOf T=k):∃y,DataW.trod en P w base sp held n T ((cs.drop off).take k)=I y:=by
 grind
theorem eJ{fuel:Nat}{c:An}{y:DataW H × List MemPlace}(h:DataW.trod en AE w base sp held fuel 3 [c]=I y):∃x,c=U O x:=by
 obtain⟨x,e,_⟩:=DataW.trod_int underlying3 h
 grind
end
section
variable {H:Type} {en:TypeId × An→H} {w:V} {base:Nat} {sp:Nat→Bool} {held:Bool}
theorem JM{fuel:Nat}{c:An}{y:DataW H × List MemPlace}(h:DataW.trod en AE w base sp held fuel 5 [c]=I y):∃x:Nat,c=U Cd x/\x<256:=by
 obtain⟨x,e,_,wf⟩:=DataW.trod_int underlying5 h;have hb:=bounds_u8 wf;obtain⟨x,rfl⟩:=DV hb.1
 grind
end
def yj{cs:Array An}(h:cs.size=20):∃c0 c1 c2 c3 c4 c5 c6 c7 c8 c9 c10 c11 c12 c13 c14 c15 c16 c17 c18 c19,cs=#[c0,c1,c2,c3,c4,c5,c6,c7,c8,c9,c10,c11,c12,c13,c14,c15,c16,c17,c18,c19]:=by
 obtain⟨l⟩:=cs
 match l,h with
 | [c0,c1,c2,c3,c4,c5,c6,c7,c8,c9,c10,c11,c12,c13,c14,c15,c16,c17,c18,c19],_=>simp
def yk{cs:List An}(h:Y cs=4):∃c0 c1 c2 c3,cs=[c0,c1,c2,c3]:=by
 match cs,h with
 | [c0,c1,c2,c3],_=>simp
section
variable {H:Type} {en:TypeId × An→H} {w:V} {base:Nat} {sp:Nat→Bool} {held:Bool}
theorem lG{fuel:Nat}{c:An}{y:DataW H × List MemPlace}(h:DataW.trod en AE w base sp held fuel 22 [c]=I y):∃x:Nat,c=U AA x/\x<18446744073709551616:=by
 obtain⟨x,e,_,wf⟩:=DataW.trod_int underlying22 h;have hb:=bounds_u64 wf;obtain⟨x,rfl⟩:=DV hb.1
 grind
def Ajj{W:V}{yl:Nat}{v:An}{d:DataW H}{p:List MemPlace}(hv:Value.okWide AE W .any yl 24 v)(h:DataW.Trod en AE w base sp held 24 v d p):∃m:Min,v=m.val/\m.Ok/\m.U8:=by
 obtain⟨cs,rfl,hsz⟩:=okWide_struct underlying24 hv;obtain⟨c0,c1,c2,c3,c4,c5,c6,c7,c8,c9,c10,c11,c12,c13,c14,c15,c16,c17,c18,c19,rfl⟩:=yj (hsz.trans (show prog.cellsOf 24=20 from by kernel_rfl));obtain⟨fuel,hf⟩:=h;obtain⟨xs,n,_,_,_,hl,hd⟩:=DataW.trod_struct underlying24 hf;obtain⟨_,z0⟩:=G6 hd hl 0 5 0 1 AG AG;obtain⟨x0,rfl,b0⟩:=JM z0;obtain⟨_,z1⟩:=G6 hd hl 1 5 1 1 AG AG;obtain⟨x1,rfl,b1⟩:=JM z1;obtain⟨_,z2⟩:=G6 hd hl 2 5 2 1 AG AG;obtain⟨x2,rfl,b2⟩:=JM z2;obtain⟨_,z3⟩:=G6 hd hl 3 5 3 1 AG AG;obtain⟨x3,rfl,b3⟩:=JM z3;obtain⟨_,z4⟩:=G6 hd hl 4 5 4 1 AG AG;obtain⟨x4,rfl,b4⟩:=JM z4;obtain⟨_,z5⟩:=G6 hd hl 5 5 5 1 AG AG;obtain⟨x5,rfl,b5⟩:=JM z5;obtain⟨_,z6⟩:=G6 hd hl 6 5 6 1 AG AG;obtain⟨x6,rfl,b6⟩:=JM z6;obtain⟨_,z7⟩:=G6 hd hl 7 5 7 1 AG AG;obtain⟨x7,rfl,b7⟩:=JM z7;obtain⟨_,z8⟩:=G6 hd hl 8 5 8 1 AG AG;obtain⟨x8,rfl,b8⟩:=JM z8;obtain⟨_,z9⟩:=G6 hd hl 9 5 9 1 AG AG;obtain⟨x9,rfl,b9⟩:=JM z9;obtain⟨_,z10⟩:=G6 hd hl 10 5 10 1 AG AG;obtain⟨x10,rfl,Jj⟩:=JM z10;obtain⟨_,z11⟩:=G6 hd hl 11 5 11 1 AG AG;obtain⟨OE,rfl,b11⟩:=JM z11;obtain⟨_,z12⟩:=G6 hd hl 12 5 12 1 AG AG;obtain⟨x12,rfl,b12⟩:=JM z12;obtain⟨_,z13⟩:=G6 hd hl 13 5 13 1 AG AG;obtain⟨Nm,rfl,Ma⟩:=JM z13;obtain⟨_,z14⟩:=G6 hd hl 14 5 14 1 AG AG;obtain⟨x14,rfl,b14⟩:=JM z14;obtain⟨_,z15⟩:=G6 hd hl 15 5 15 1 AG AG;obtain⟨x15,rfl,b15⟩:=JM z15;obtain⟨_,z16⟩:=G6 hd hl 16 5 16 1 AG AG;obtain⟨x16,rfl,Ei⟩:=JM z16;obtain⟨_,z17⟩:=G6 hd hl 17 5 17 1 AG AG;obtain⟨x17,rfl,b17⟩:=JM z17;obtain⟨_,z18⟩:=G6 hd hl 18 22 18 1 AG AG;obtain⟨x18,rfl,OG⟩:=lG z18;obtain⟨_,z19⟩:=G6 hd hl 19 22 19 1 AG AG;obtain⟨Mb,rfl,b19⟩:=lG z19;exact⟨⟨x0,x1,x2,x3,x4,x5,x6,x7,x8,x9,x10,OE,x12,Nm,x14,x15,x16,x17,x18,Mb⟩,Q,⟨b1,b2,b4,b12,b17,OG,b19⟩,⟨b0,b3,b5,b6,b7,b8,b9,Jj,b11,Ma,b14,b15,Ei⟩⟩
theorem Ajk{n:Nat}{cs:List An}{y:DataW H × List MemPlace}(h:DataW.trod en AE w base sp held n 32 cs=I y):∃x:G7,cs=x.enc/\x.n<65536:=by
 obtain⟨xs,m,_,_,hlen,hl,hd⟩:=DataW.trod_struct underlying32 h;have h4:Y cs=4:=hlen.trans AG;obtain⟨c0,c1,c2,c3,rfl⟩:=yk h4;obtain⟨_,z0⟩:=G6 hd hl 0 29 0 3 AG AG;obtain⟨_,z1⟩:=G6 hd hl 1 30 3 1 AG AG;obtain⟨ys,m2,_,_,_,hl2,Rh⟩:=DataW.trod_struct underlying29 z0;obtain⟨_,y0⟩:=G6 Rh hl2 0 3 0 1 AG AG;obtain⟨_,y1⟩:=G6 Rh hl2 1 3 1 1 AG AG;obtain⟨_,y2⟩:=G6 Rh hl2 2 3 2 1 AG AG;obtain⟨a,rfl⟩:=eJ y0;obtain⟨b,rfl⟩:=eJ y1;obtain⟨c,rfl⟩:=eJ y2;obtain⟨x,e,_,wf⟩:=DataW.trod_int underlying30 z1;have hb:=bounds_u16 wf;obtain⟨x,rfl⟩:=DV hb.1;obtain rfl:c3=.int .u16 (x:Int):=by grind
 exact⟨⟨a,b,c,x⟩,Q,by grind⟩
end
end Go.Proofs.YtjpidgffdkjjeaaGreat
