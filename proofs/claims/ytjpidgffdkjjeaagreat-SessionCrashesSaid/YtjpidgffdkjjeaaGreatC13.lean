/- Contracts and plain laws. No condition. -/
import Derived.Test.YtjpidgffdkjjeaaGreatCA
import Derived.Test.YtjpidgffdkjjeaaGreatC05
import Derived.Test.YtjpidgffdkjjeaaGreatC06
import Derived.Test.YtjpidgffdkjjeaaGreatC10
set_option linter.all false
set_option maxHeartbeats 16000000
namespace Go.Proofs.YtjpidgffdkjjeaaGreat
open Go.Proofs.Tryz
open Go.Proofs.Tryz renaming prog->AE
open List renaming length->Y
open Go.World renaming cell?->E,setCell->Ai,alloc->Ao,frozen?->Bo
open Go.Value renaming int->U,slice->R,pointer->AI,agg->Ba,tuple->Be,nilFunc->Bl,bool->Av
open Go.IntKind renaming i64->O,u64->AA,u32->BF,u8->Cd
open Option renaming none->Z,some->I
open Go.Ending renaming returned->AN
open Go.Obj renaming cells->N
open Go renaming World->V,Value->An,Calls->AL,Addr->AS
open Go.RowKit renaming Below->Ag,Hid->Aj
set_option maxRecDepth 100000
open Go.RowKit
section
variable{A A0:Option AS}{b base c c0:Nat}{d:Bool}{l:List Nat}{s s':BX}{w w':V}
def ClC(AY AM sz:Nat){α:Type}(enc:α->List An):Prop:=∀(A:Option AS) (c:Nat) (l:List α) (w:V),Arr sz enc w w A l->(A=Z->c=0)->Y l<=c->Y l<=3000000000->
  AL AE AY #[R A (Y l) c] w fun e w'=>∃v,e=AN v/\Own w' w AM sz enc v l/\Ag w w w'
def clW{p:Prop}(h:p:=by
  intro A c l w hA nA hl hl2;have hn:=fun w'=>Lib.run_eql_slice_nil w' _ _ A (Y l) c 0 0 uT
  cases A with
  | none=>
   obtain rfl:c=0:=nA Q;obtain rfl:l=[]:=WC J;simp only[Option.isNone_none,List.length_nil]at hn;go_enter fF,Qb;go_wp2;go_ret;exact⟨_,Q,Own.nil,Ae _ _⟩
  | some a=>
   simp only[Option.isNone_some]at hn;go_enter fF,Qb;go_wp2_with(at_builtin;refine Wt uT hI SH on [] l (jD w w _ (Bg _)) (hA.keep (AB (Ae _ _) _)) nA qsm AO ?_;intro v1 w1 Dy hb1;rw[Uy]at Dy);go_ret;exact⟨_,Q,Dy,(AB (Ae _ _) _).trans hb1⟩):p:=h
def zy:(prog.info? 132).map (fun i=>(i.zero,i.size,i.bytes))=I (I (U BF 0),1,4):=AG
def ah:ClC 165 132 1 CR:=by
 have uT:=underlying56;have hI:=zy;have SH:=Sw;have on:=vx;have fF:=func165;have Qb:=ntmps165;exact clW
def zz:(prog.info? 3).map (fun i=>(i.zero,i.size,i.bytes))=I (I (U O 0),1,8):=AG
def WV:ClC 58 3 1 BD:=by
 have uT:=underlying37;have hI:=zz;have SH:=DY;have on:=On;have fF:=func58;have Qb:=ntmps58;exact clW
theorem C5.one(c:C5):∀u∈c.enc,u.oneCell'=true:=by simp[C5.enc,Value.oneCell']
def mH:(prog.info? 196).map (fun i=>(i.zero,i.size,i.bytes))=I (I (Ba #[U O 0,U O 0,U O 0,U O 0,U O 0]),5,40):=AG
def zA:ClC 114 196 5 C5.enc:=by
 have uT:=underlying114;have hI:=mH;have SH:=C5.BY;have on:=C5.one;have fF:=func114;have Qb:=ntmps114;exact clW
def zB:(prog.info? 154).map (fun i=>(i.zero,i.size,i.bytes))=I (I (Ba #[U O 0,Av false,U O 0,U O 0,Av false]),5,40):=AG
def mI:ClC 85 154 5 AQ.enc:=by
 have uT:=underlying80;have hI:=zB;have SH:=AQ.BY;have on:=AQ.one;have fF:=func85;have Qb:=ntmps85;exact clW
def zC:(prog.info? 162).map (fun i=>(i.zero,i.size,i.bytes))=I (I (Ba #[U O 0,U O 0]),2,16):=AG
def zE:ClC 86 162 2 Bf.enc:=by
 have uT:=underlying81;have hI:=zC;have SH:=Bf.BY;have on:=Bf.one;have fF:=func86;have Qb:=ntmps86;exact clW
def Jm(s s':BX):Prop:=∃A1 c1 A2 c2 A3 c3 A4 c4,s'={s with eps:=⟨A1,c1,s.eps.l,A2,c2,s.eps.m⟩,lim:=⟨A3,c3,s.lim.l,A4,c4,s.lim.m⟩}
def zF(W:Nat)(hW:W=8\/W=16\/W=32)(A:Option AS)(n c:Nat)(w:V)(hn:65536<n):
  AL AE 117 #[U O W,R A n c] w fun e w'=>e=AN (Be #[AI Z,U O 4])/\w=w':=by
 have d1:decide (65536<(n:Int))=true:=by simp;omega
 rcases hW with rfl | rfl | rfl
 all_goals(
  go_in;go_wp2;go_ret2;exact⟨Q,Q⟩)
theorem WW{α:Type}{w:V}{base base' e z:Nat}{enc:α->List An}{v:An}{l:List α}(h:Own w base e z enc v l)(hb:base'<=base):Own w base' e z enc v l:=by
 refine⟨h.1,?_⟩;rcases h.2 with hn | ⟨g,cap,cur,hv,hbg,rest⟩
 ·exact .inl hn
 ·exact .inr ⟨g,cap,cur,hv,Br hb hbg,rest⟩
theorem Fo(x:V)(b o:Nat)(v:An):x.grownBy (x.setCell ⟨b,o,Z⟩ v) (I b):=
 ⟨(Ae 0 x |>.setCell (BM _) v).os,(Ae 0 x |>.setCell (BM _) v).tape,(Ae 0 x |>.setCell (BM _) v).output,(Ae 0 x |>.setCell (BM _) v).size,fun j _ hn=>Fd x _ _ j (qsu hn)⟩
def Es:BX:=⟨⟨0,0,0,0,0,0,0,0,0,0,0,0,0,0,0,0,0,0⟩,0,0,0,0,0,⟨Z,0,[],Z,0,[]⟩,⟨Z,0,[],Z,0,[]⟩,0,0,0,0,0,0,0⟩
def EV.set(j:Nat)(v:An)(h:EV w b s)(hs:s.cs.setIfInBounds j v=s'.cs):EV (Ai w ⟨b,j,Z⟩ v) b s':=by
 unfold EV;rw[<-hs];exact CM w b j _ _ v h
theorem EV.fr(h:EV w b s)(j:Nat):Bo w ⟨b,j,Z⟩=false:=CJ w b j _ _ h
def Ee(w:V)(base:Nat)(d:Bool)(A:Option AS)(c:Nat)(A0:Option AS)(c0:Nat)(l:List Nat):Prop:=if d=true then Own w base 132 1 CR (R A (Y l) c) l else(A=A0/\c=c0)
def Ee.no(h:Ee w base false A c A0 c0 l):A=A0/\c=c0:=h
def Ee.keep{g:Nat}(h:Ee w base d A c A0 c0 l)(hg:w.grownBy w' (I g))(hlt:g<base):Ee w' base d A c A0 c0 l:=by
 cases d
 ·exact h
 ·refine Own.keep (show Own w base 132 1 CR (R A (Y l) c) l from h) hg ?_
  cases hv:(Value.slice A (Y l) c).ownBlock with
  | none=>exact .inl Q
  | some x=>exact .inr (by have:=(Cp (show Own w base 132 1 CR (R A (Y l) c) l from h) x hv).1;simp;omega)
def Ee.below(h:Ee w base d A c A0 c0 l)(hb:Ag w w w'):Ee w' base d A c A0 c0 l:=by
 cases d
 ·exact h
 ·exact Own.below (show Own w base 132 1 CR (R A (Y l) c) l from h) hb
def Ee.nt(h:Ee w base true A c A0 c0 l)(hd:BZ AZ l):Nt w A c l:=by
 obtain⟨A',c',e,hn⟩:=Vy (show Own w base 132 1 CR (R A (Y l) c) l from h) hd;cases e;exact hn
structure Yq(w:V)(b base k:Nat)(s s':BX):Prop where
 at_:EV w b s'
 kep:Jm s s'
 f0:Ee w base (decide (0<k)) s'.eps.A s'.eps.c s.eps.A s.eps.c s.eps.l
 f1:Ee w base (decide (1<k)) s'.eps.C s'.eps.d s.eps.C s.eps.d s.eps.m
 f2:Ee w base (decide (2<k)) s'.lim.A s'.lim.c s.lim.A s.lim.c s.lim.l
 f3:Ee w base (decide (3<k)) s'.lim.C s'.lim.d s.lim.C s.lim.d s.lim.m
def Yq.below{k:Nat}(h:Yq w b base k s s')(hb:Ag w w w'):Yq w' b base k s s':=⟨h.at_.on hb,h.kep,h.f0.below hb,h.f1.below hb,h.f2.below hb,h.f3.below hb⟩
def FrN(B:Nat)(s:BX):Prop:=∀a,(s.eps.A=I a\/s.eps.C=I a\/s.lim.A=I a\/s.lim.C=I a)->B<=a.block
def Ee.lo(h:Ee w base true A c A0 c0 l):∀a,A=I a->base<=a.block:=fun a e=>
 (Cp (show Own w base 132 1 CR (R A (Y l) c) l from h) a.block (by rw[e];rfl)).1
def TL(b:Nat):Array An:=#[AI (I ⟨b,23,Z⟩),AI (I ⟨b,24,Z⟩),AI (I ⟨b,25,Z⟩),AI (I ⟨b,26,Z⟩)]
def mJ(s:BX)(w:V)(h:s.In w)(hl:Y s.eps.l<=1000/\Y s.eps.m<=1000/\Y s.lim.l<=1000/\Y s.lim.m<=1000):
  AL AE 113 #[s.val] w fun e w'=>∃s',e=AN s'.val/\Jm s s'/\s'.In w'/\FrN w s'/\Ag w w w':=by
 have q0:=AB (AB (AB (Ae w w) (N s.cs 62)) (N Es.cs 62)) (N (TL w) 263);have Ci:=((EV.new w s).on (AB (Ae _ _) (N Es.cs 62))).on (AB (Ae _ _) (N (TL w) 263));have R0:=(EV.new (Ao w (N s.cs 62)) Es).on (AB (Ae _ _) (N (TL w) 263));have p0:(Ao (Ao (Ao w (N s.cs 62)) (N Es.cs 62)) (N (TL w) 263)).heap[(Ao (Ao w (N s.cs 62)) (N Es.cs 62)).heap.size]?=I (N (TL w) 263 (0,0)):=CB _ _;have s1:(Ao w (N s.cs 62)).heap.size=w.heap.size+1:=AO;have s2:(Ao (Ao w (N s.cs 62)) (N Es.cs 62)).heap.size=w.heap.size+1+1:=AO;rw[s1]at R0;rw[s2]at p0;clear s1 s2;unfold BX.val;go_in;go_upto_region 2 with fail;change Code.wp _ _ _ _ (Ao (Ao (Ao w (N s.cs 62)) (N Es.cs 62)) (N (TL w) 263));have kz:↑w+3<=(Ao (Ao (Ao w (N s.cs 62)) (N Es.cs 62)) (N (TL w) 263)).heap.size:=AO;obtain⟨w1,BJ⟩:=Az (Ao (Ao (Ao w (N s.cs 62)) (N Es.cs 62)) (N (TL w) 263));rw[BJ]at q0 Ci R0 p0 kz ⊢;clear BJ;have K0:Yq w1 w (w.heap.size+3) 0 s s:=⟨Ci,⟨_,_,_,_,_,_,_,_,Q⟩,by simp[Ee],by simp[Ee],by simp[Ee],by simp[Ee]⟩
 go_loopw [15] (fun i wr=>∃(k:Nat) (s':BX),k<=4/\i=U O k/\Yq wr w (w.heap.size+3) k s s'/\EV wr (w.heap.size+1) Es/\wr.heap[w.heap.size+1+1]?=I (N (TL w) 263 (0,0))/\Ag w w wr/\w.heap.size+3<=wr.heap.size) (fun i _=>4-(intOf i).toNat);exact⟨0,s,J,rfl,K0,R0,p0,q0,kz⟩
 obtain⟨k,s',hk,rfl,K,AW,pz,hb,sz⟩:=hrel;obtain⟨w2,rfl⟩:=qgn wr;have DG:=hl;rcases(show k=0\/k=1\/k=2\/k=3\/k=4 by omega)with rfl | rfl | rfl | rfl | rfl
 ·obtain⟨eA,ec⟩:=Ee.no K.f0
  have y0:E w2 ⟨↑w+1+1,0,Z⟩=I (AI (I ⟨w,23,Z⟩)):=AX w2 _ 0 _ _ _ pz
  have x0:E w2 ⟨w,23,Z⟩=I (R s.eps.A (Y s.eps.l) s.eps.c):=by
   have hx:E w2 ⟨w,23,Z⟩=I (R s'.eps.A (Y s'.eps.l) s'.eps.c):=K.at_.c 23;obtain⟨_,_,_,_,_,_,_,_,G9⟩:=K.kep;rw[eA,ec]at hx;rw[hx,G9]
  have nt:=(h.on hb).e.n;have cC:=ah s.eps.A s.eps.c s.eps.l w2 nt.arr nt.nil nt.len (by have:=hl.1;omega);have K':=F K;have R':=F AW;have P':=F pz;have El:=F (JQ eA ec);clear K AW pz eA ec nt;simp only[show((0:Nat):Int)=0 from rfl];go_wp2_with fail;refine cC.mono ?_;rintro e w3⟨v,rfl,ow,hb3⟩;obtain⟨A',c',rfl,_,_,_,_⟩:=ow.form Sw;have K3:=K'.out.below hb3;have x1:=AK hb3 x0;have f1:=K3.at_.fr 23;clear cC x0 y0;go_wp2_with fail;have g:=Fo w3 w 23 (R A' (Y s.eps.l) c');obtain⟨a1,b1,a2,b2,a3,b3,a4,b4,G9⟩:=K3.kep;refine⟨⟨1,{s' with eps:={s'.eps with A:=A',c:=c'}},J,Q,⟨K3.at_.set 23 _ ?_,?_,?_,?_,?_,?_⟩,?_,?_,?_,?_⟩,by simp[intOf]⟩
  ·subst G9;rfl
  ·subst G9;exact⟨_,_,_,_,_,_,_,_,Q⟩
  ·refine Own.keep (w:=w3) (WW (w:=w3) ow J) g ?_
   cases A' with
   | none=>exact .inl Q
   | some a=>
    refine .inr ?_;have h9:=(Cp ow a.block Q).1;simp[Value.ownBlock];omega
  ·exact Ee.keep (w:=w3) K3.f1 g J
  ·exact Ee.keep (w:=w3) K3.f2 g J
  ·exact Ee.keep (w:=w3) K3.f3 g J
  ·exact(g.block _ (by have:=hb3.size;omega) AO).trans ((R'.out.on hb3))
  ·exact(g.block _ (by have:=hb3.size;omega) qsm).trans ((hb3.block _ J).trans P'.out)
  ·exact(AH hb hb3).setCell (Bg _) _
  ·have:=hb3.size;have:=g.size;omega
 ·obtain⟨eA,ec⟩:=Ee.no K.f1
  have y0:E w2 ⟨↑w+1+1,1,Z⟩=I (AI (I ⟨w,24,Z⟩)):=AX w2 _ 1 _ _ _ pz
  have x0:E w2 ⟨w,24,Z⟩=I (R s.eps.C (Y s.eps.m) s.eps.d):=by
   have hx:E w2 ⟨w,24,Z⟩=I (R s'.eps.C (Y s'.eps.m) s'.eps.d):=K.at_.c 24;obtain⟨_,_,_,_,_,_,_,_,G9⟩:=K.kep;rw[eA,ec]at hx;rw[hx,G9]
  have nt:=(h.on hb).e.d;have cC:=ah s.eps.C s.eps.d s.eps.m w2 nt.arr nt.nil nt.len (by have:=hl.2.1;omega);have K':=F K;have R':=F AW;have P':=F pz;have El:=F (JQ eA ec);clear K AW pz eA ec nt;simp only[show((1:Nat):Int)=1 from rfl];go_wp2_with fail;refine cC.mono ?_;rintro e w3⟨v,rfl,ow,hb3⟩;obtain⟨A',c',rfl,_,_,_,_⟩:=ow.form Sw;have K3:=K'.out.below hb3;have x1:=AK hb3 x0;have f1:=K3.at_.fr 24;clear cC x0 y0;go_wp2_with fail;have g:=Fo w3 w 24 (R A' (Y s.eps.m) c');obtain⟨a1,b1,a2,b2,a3,b3,a4,b4,G9⟩:=K3.kep;refine⟨⟨2,{s' with eps:={s'.eps with C:=A',d:=c'}},J,Q,⟨K3.at_.set 24 _ ?_,?_,?_,?_,?_,?_⟩,?_,?_,?_,?_⟩,by simp[intOf]⟩
  ·subst G9;rfl
  ·subst G9;exact⟨_,_,_,_,_,_,_,_,Q⟩
  ·exact Ee.keep (w:=w3) K3.f0 g J
  ·refine Own.keep (w:=w3) (WW (w:=w3) ow J) g ?_
   cases A' with
   | none=>exact .inl Q
   | some a=>
    refine .inr ?_;have h9:=(Cp ow a.block Q).1;simp[Value.ownBlock];omega
  ·exact Ee.keep (w:=w3) K3.f2 g J
  ·exact Ee.keep (w:=w3) K3.f3 g J
  ·exact(g.block _ (by have:=hb3.size;omega) AO).trans ((R'.out.on hb3))
  ·exact(g.block _ (by have:=hb3.size;omega) qsm).trans ((hb3.block _ J).trans P'.out)
  ·exact(AH hb hb3).setCell (Bg _) _
  ·have:=hb3.size;have:=g.size;omega
 ·obtain⟨eA,ec⟩:=Ee.no K.f2
  have y0:E w2 ⟨↑w+1+1,2,Z⟩=I (AI (I ⟨w,25,Z⟩)):=AX w2 _ 2 _ _ _ pz
  have x0:E w2 ⟨w,25,Z⟩=I (R s.lim.A (Y s.lim.l) s.lim.c):=by
   have hx:E w2 ⟨w,25,Z⟩=I (R s'.lim.A (Y s'.lim.l) s'.lim.c):=K.at_.c 25;obtain⟨_,_,_,_,_,_,_,_,G9⟩:=K.kep;rw[eA,ec]at hx;rw[hx,G9]
  have nt:=(h.on hb).l.n;have cC:=ah s.lim.A s.lim.c s.lim.l w2 nt.arr nt.nil nt.len (by have:=hl.2.2.1;omega);have K':=F K;have R':=F AW;have P':=F pz;have El:=F (JQ eA ec);clear K AW pz eA ec nt;simp only[show((2:Nat):Int)=2 from rfl];go_wp2_with fail;refine cC.mono ?_;rintro e w3⟨v,rfl,ow,hb3⟩;obtain⟨A',c',rfl,_,_,_,_⟩:=ow.form Sw;have K3:=K'.out.below hb3;have x1:=AK hb3 x0;have f1:=K3.at_.fr 25;clear cC x0 y0;go_wp2_with fail;have g:=Fo w3 w 25 (R A' (Y s.lim.l) c');obtain⟨a1,b1,a2,b2,a3,b3,a4,b4,G9⟩:=K3.kep;refine⟨⟨3,{s' with lim:={s'.lim with A:=A',c:=c'}},J,Q,⟨K3.at_.set 25 _ ?_,?_,?_,?_,?_,?_⟩,?_,?_,?_,?_⟩,by simp[intOf]⟩
  ·subst G9;rfl
  ·subst G9;exact⟨_,_,_,_,_,_,_,_,Q⟩
  ·exact Ee.keep (w:=w3) K3.f0 g J
  ·exact Ee.keep (w:=w3) K3.f1 g J
  ·refine Own.keep (w:=w3) (WW (w:=w3) ow J) g ?_
   cases A' with
   | none=>exact .inl Q
   | some a=>
    refine .inr ?_;have h9:=(Cp ow a.block Q).1;simp[Value.ownBlock];omega
  ·exact Ee.keep (w:=w3) K3.f3 g J
  ·exact(g.block _ (by have:=hb3.size;omega) AO).trans ((R'.out.on hb3))
  ·exact(g.block _ (by have:=hb3.size;omega) qsm).trans ((hb3.block _ J).trans P'.out)
  ·exact(AH hb hb3).setCell (Bg _) _
  ·have:=hb3.size;have:=g.size;omega
 ·obtain⟨eA,ec⟩:=Ee.no K.f3
  have y0:E w2 ⟨↑w+1+1,3,Z⟩=I (AI (I ⟨w,26,Z⟩)):=AX w2 _ 3 _ _ _ pz
  have x0:E w2 ⟨w,26,Z⟩=I (R s.lim.C (Y s.lim.m) s.lim.d):=by
   have hx:E w2 ⟨w,26,Z⟩=I (R s'.lim.C (Y s'.lim.m) s'.lim.d):=K.at_.c 26;obtain⟨_,_,_,_,_,_,_,_,G9⟩:=K.kep;rw[eA,ec]at hx;rw[hx,G9]
  have nt:=(h.on hb).l.d;have cC:=ah s.lim.C s.lim.d s.lim.m w2 nt.arr nt.nil nt.len (by have:=hl.2.2.2;omega);have K':=F K;have R':=F AW;have P':=F pz;have El:=F (JQ eA ec);clear K AW pz eA ec nt;simp only[show((3:Nat):Int)=3 from rfl];go_wp2_with fail;refine cC.mono ?_;rintro e w3⟨v,rfl,ow,hb3⟩;obtain⟨A',c',rfl,_,_,_,_⟩:=ow.form Sw;have K3:=K'.out.below hb3;have x1:=AK hb3 x0;have f1:=K3.at_.fr 26;clear cC x0 y0;go_wp2_with fail;have g:=Fo w3 w 26 (R A' (Y s.lim.m) c');obtain⟨a1,b1,a2,b2,a3,b3,a4,b4,G9⟩:=K3.kep;refine⟨⟨4,{s' with lim:={s'.lim with C:=A',d:=c'}},J,Q,⟨K3.at_.set 26 _ ?_,?_,?_,?_,?_,?_⟩,?_,?_,?_,?_⟩,by simp[intOf]⟩
  ·subst G9;rfl
  ·subst G9;exact⟨_,_,_,_,_,_,_,_,Q⟩
  ·exact Ee.keep (w:=w3) K3.f0 g J
  ·exact Ee.keep (w:=w3) K3.f1 g J
  ·exact Ee.keep (w:=w3) K3.f2 g J
  ·refine Own.keep (w:=w3) (WW (w:=w3) ow J) g ?_
   cases A' with
   | none=>exact .inl Q
   | some a=>
    refine .inr ?_;have h9:=(Cp ow a.block Q).1;simp[Value.ownBlock];omega
  ·exact(g.block _ (by have:=hb3.size;omega) AO).trans ((R'.out.on hb3))
  ·exact(g.block _ (by have:=hb3.size;omega) qsm).trans ((hb3.block _ J).trans P'.out)
  ·exact(AH hb hb3).setCell (Bg _) _
  ·have:=hb3.size;have:=g.size;omega
 ·have GV:=K.at_
  have hsz:(prog.info? 62).map (·.size)=I s'.cs.size:=(qiz 62 34)
  go_wp2_with(first | (refine JN 62 _ Q w 0 Q s'.cs _ (fun j v hv=>by rw[EE];exact(GV.c j).trans hv) underlying62 Q hsz (by rfl) ?_) | (refine Mc Q 62 _ _ Q (w.heap.size+1) s'.cs AG AG 62 Es.cs AW hsz AG AG ?_));have gr:=Fw w2 (w.heap.size+1) s'.cs;have rh:=GS w2 (w.heap.size+1) _ s'.cs _ (0,0) AW;obtain⟨a1,b1,a2,b2,a3,b3,a4,b4,G9⟩:=K.kep;refine De (v:= Ba s'.cs) ?_ Q ⟨s',rfl,K.kep,?_,fun a ha=>?_,hb.grown gr hb.size (fun k hk=>by cases hk;omega)⟩
  ·exact WX Q _ _ (w.heap.size+1) 62 s'.cs (0,0) _ (by rfl) rh underlying62 Q hsz
  ·have g0:=(K.f0.keep gr J).nt h.e.n.dig
   have g1:=(K.f1.keep gr J).nt h.e.d.dig;have g2:=(K.f2.keep gr J).nt h.l.n.dig;have g3:=(K.f3.keep gr J).nt h.l.d.dig;subst G9;exact⟨⟨g0,g1⟩,⟨g2,g3⟩⟩
  ·rcases ha with ha | ha | ha | ha
   ·have:=K.f0.lo a ha;omega
   ·have:=K.f1.lo a ha;omega
   ·have:=K.f2.lo a ha;omega
   ·have:=K.f3.lo a ha;omega
end
section
variable{b:Nat}{w:V}
structure ON where
 phase:Int
 reason:Int
 pulses:An
 clicks:An
 wait:An
 sent:An
 took:An
 waited:Int
 ledger:An
 shift:Int
 kept:An
 slots:An
 decoys:An
 block:An
 n:Int
 t:Int
 course:An
 has:Bool
def Jn:ON:=⟨0,0,R Z 0 0,R Z 0 0,R Z 0 0,AI Z,AI Z,0,R Z 0 0,0,R Z 0 0,R Z 0 0,R Z 0 0,R Z 0 0,0,0,AI Z,false⟩
def ON.cs(k:ON):Array An:=#[U O k.phase,U O k.reason,k.pulses,k.clicks,k.wait,k.sent,k.took,U O k.waited,k.ledger,U O k.shift,k.kept,k.slots,k.decoys,k.block,U O k.n,U O k.t,k.course,Av k.has]
structure BR where
 s:BX
 side:Int
 pool:Nat
 recs:An
 last:Int
 k:ON
def BR.cs(x:BR):Array An:=#[Av true,U O x.s.o.k,U O x.s.o.c0,U O x.s.o.c1,U O x.s.o.c2,U O x.s.o.v0,U O x.s.o.v1,U O x.s.o.v2,U O x.s.o.v3,U O x.s.o.w0,U O x.s.o.w1,U O x.s.o.w2,U O x.s.o.w3,U O x.s.o.s0,U O x.s.o.s1,U O x.s.o.s2,U O x.s.o.s3,U O x.s.o.eta,U O x.s.o.dark,U O x.s.slots,U O x.s.head,U O x.s.need,U O x.s.block,U O x.s.sample,R x.s.eps.A (Y x.s.eps.l) x.s.eps.c,R x.s.eps.C (Y x.s.eps.m) x.s.eps.d,R x.s.lim.A (Y x.s.lim.l) x.s.lim.c,R x.s.lim.C (Y x.s.lim.m) x.s.lim.d,U O x.s.passes,U O x.s.pblk,U AA x.s.pseed,U O x.s.width,U O x.s.margin,U O x.s.tries,U AA x.s.seed,U O x.side,AI (I ⟨x.pool,0,Z⟩),x.recs,U O x.last,U O x.k.phase,U O x.k.reason,x.k.pulses,x.k.clicks,x.k.wait,x.k.sent,x.k.took,U O x.k.waited,x.k.ledger,U O x.k.shift,x.k.kept,x.k.slots,x.k.decoys,x.k.block,U O x.k.n,U O x.k.t,x.k.course,Av x.k.has]
def Cu(w:V)(b:Nat)(x:BR):Prop:=w.heap[b]?=I (N x.cs 142 (0,0))
def Cu.on{w':V}{x:BR}(h:Cu w b x)(hb:Ag w w w'):Cu w' b x:=
 (hb.block b (Bm.1 h).1).trans h
theorem Cu.new(w:V)(x:BR):Cu (Ao w (N x.cs 142)) w x:=CB w _
def Cu.c{x:BR}(h:Cu w b x)(j:Nat):E w ⟨b,j,Z⟩=x.cs[j]?:=AX w b j _ _ _ h
def Cu.set{x x':BR}(j:Nat)(v:An)(h:Cu w b x)(hs:x.cs.setIfInBounds j v=x'.cs):Cu (Ai w ⟨b,j,Z⟩ v) b x':=by
 unfold Cu;rw[<-hs];exact CM w b j _ _ v h
theorem Cu.fr{x:BR}(h:Cu w b x)(j:Nat):Bo w ⟨b,j,Z⟩=false:=CJ w b j _ _ h
def Qc{P:Program}{ops:Array Oper}{rest:List Oper}{o:Oper}{a:Act}{w:V}{Bn:Exit->Act->V->Prop}(hgd:o.guard=Z)(ty:TypeId)(parts:Array (Nat × Operand))(ho:o.op=.build ty parts)
  (vals:Array (Nat × An)) (hv:(parts.map fun p=>(p.1,a.eval p.2))=vals) (cs:Array An) (hc:P.built ty vals.toList=I cs) (h:wpList P ops Bn rest (a.put o.dst (Ba cs)) w):wpList P ops Bn (o::rest) a w:=
 wpList_plain hgd fun K hK=>by
  unfold Oper.wp execOp;simp only[ho,Sem.run_bind];have e:(parts.map fun(i,x)=>(i,a.eval x))=vals:=hv;rw[e,run_build w ty vals cs hc];simp only[Sem.run_pure,Result.andThen_ok];exact hK _ _ h
def Md(s:BX)(side:Int)(n:Nat):Int:=if(Kt s == 0&&AR side 0 1)=true then(if 65536<n then 4 else 0)else 2
structure Made(w w':V)(b:Nat)(s s':BX)(side:Int)(W pb nb mb:Nat)(l:List Bool):Prop where
 at_:Cu w' b ⟨s',side,pb,R Z 0 0,0,Jn⟩
 kep:Jm s s'
 wid:s.width=(W:Int)
 lo:↑w<=b/\w.heap.size<=pb/\w.heap.size<=nb/\w.heap.size<=mb
 low:∃y:V,y.heap.size=b/\CG y pb nb mb W l []/\s'.In y/\Ag y y w'
 frn:FrN w s'
 pa:∀A c,E w' ⟨pb,2,Z⟩=I (R A (Y l) c)->∀a,A=I a->w.heap.size<=a.block
def NsR(w w':V)(s:BX)(side:Int)(l:List Bool)(e:Ending):Prop:=
 ∃v,e=AN (Be #[v,U O (Md s side (Y l))])/\Ag w w w'/\
  (Md s side (Y l)=0->∃b s' W pb nb mb,v=AI (I ⟨b,0,Z⟩)/\Made w w' b s s' side W pb nb mb l)/\(Md s side (Y l)≠0->v=AI Z)
theorem zG{s:BX}(h:Kt s=0):∃W:Nat,s.width=(W:Int)/\(W=8\/W=16\/W=32):=by
 have hb:TG s=true:=by grind [TG,Kt]
 unfold TG TF at hb
 grind [Kt,Rg,TD,Uu,Rf,AR,Uv]
def mK(s:BX)(side:Int)(A:Option AS)(c:Nat)(l:List Bool)(w:V)(h:s.In w)(hA:Arr 1 C4 w w A l)(nA:A=Z->c=0)(hl:Y l<=c)(hc:c<=maxLen)(hl2:Y l<=100000)
  (hf:Y s.eps.l<=1000/\Y s.eps.m<=1000/\Y s.lim.l<=1000/\Y s.lim.m<=1000):
  AL AE 60 #[s.val,U O side,R A (Y l) c] w fun e w'=>NsR w w' s side l e:=by
 have q0:=AB (Ae w w) (N s.cs 62);have Ci:=EV.new w s;have hsz:(prog.info? 62).map (·.size)=I s.cs.size:=(qiz 62 34)
 have cO:=qbw w fun w' hb=>lI s w' (h.on hb)
 have hE:Aj (Md s side (Y l)=if(Kt s == 0&&AR side 0 1)=true then(if 65536<Y l then 4 else 0)else 2):=F Q;obtain⟨AM,hEq⟩:=Az (Kt s);have hwd:=F (fun h0=>zG (hEq.trans h0));rw[hEq]at hE;simp only[hEq]at cO;have Yg:∀w' v,Md s side (Y l)=2->Ag w w w'->v=Value.pointer Z->NsR w w' s side l (AN (Be #[v,U O 2])):=fun w' v h2 hb hv=>⟨v,by rw[h2],hb,fun h0=>absurd (h2.symm.trans h0) AC,fun _=>hv⟩
 have mL:∀w' v,Md s side (Y l)=4->Ag w w w'->v=Value.pointer Z->NsR w w' s side l (AN (Be #[v,U O 4])):=fun w' v h2 hb hv=>⟨v,by rw[h2],hb,fun h0=>absurd (h2.symm.trans h0) AC,fun _=>hv⟩
 have mM:=F Yg;have zH:=F mL;clear hEq Yg mL;unfold BX.val at cO ⊢;go_in;go_upto_region 1 with fail;obtain⟨w1,BJ⟩:=Az (Ao w (N s.cs 62));rw[BJ]at q0 Ci ⊢;clear BJ;go_wp2_with(refine JN 62 _ Q w 0 Q s.cs _ (fun j v hv=>by rw[EE];exact(Ci.c j).trans hv) underlying62 Q hsz (by rfl) ?_);refine gqz (cO _ q0) fun w2 hb2=>?_;have Fy:=Ci.on hb2;have q2:=AH q0 hb2;by_cases e0:AM=0
 case neg=>
  have g1:(AM != 0)=true:=qsu e0;have g2:=F (show Md s side (Y l)=2 by rw[hE.out,show(AM == 0)=false by simpa using e0];rfl);clear e0;go_wp2;go_ret2;exact mM.out _ _ g2 q2 Q
 subst e0;cases c1:AR side 0 1
 ·go_wp2_with(go_at_call 116;refine mqv (FH _ _ _ _) ?_;rw[c1])
  go_ret2;exact mM.out _ _ (by rw[hE.out,c1];rfl) q2 Q
 obtain⟨W,hW,hW3⟩:=hwd.out Q;have x30:E w2 ⟨w,30,Z⟩=I (U O W):=qrb hW (Fy.c 30);by_cases Yr:65536<Y l
 ·have cP:=fun w'=>zF W hW3 A (Y l) c w' Yr
  have HL:=F (show Md s side (Y l)=4 by rw[hE.out,c1];simp[Yr]);clear Yr hW3;go_wp2_with(first | (go_at_call 116;refine mqv (FH _ _ _ _) ?_;rw[c1]) | (go_at_call 117;refine mqv (cP _) ?_));go_ret2;exact zH.out _ _ HL q2 Q
 have cP:=zx W hW3 A c l w2 (hA.on q2) nA hl hc J;have HL:=F (show Md s side (Y l)=0 by rw[hE.out,c1,AU Yr];rfl);clear Yr;go_wp2_with(first | (go_at_call 116;refine mqv (FH _ _ _ _) ?_;rw[c1]));refine cP.mono ?_;rintro e w3⟨pb,nb,mb,rfl,pool,l1,l2,l3,l4,hb3⟩;have EH:=Fy.on hb3;have q3:=AH q2 hb3;have L4:=F l4;clear cP x30 l4;go_wp2_with(refine JN 62 _ Q w 0 Q s.cs _ (fun j v hv=>by rw[EE];exact(EH.c j).trans hv) underlying62 Q hsz (by rfl) ?_);refine(mJ s w3 (h.on q3) hf).mono ?_;rintro e w4⟨s',rfl,kep,in4,frn,hb4⟩;have q4:=AH q3 hb4;unfold BX.val;go_wp2_with(first | (refine Qc Q 136 _ Q #[(0,AI (I ⟨pb,0,Z⟩))] AG #[AI (I ⟨pb,0,Z⟩),R Z 0 0,U O 0] AG ?_) | (refine Qc Q 142 _ Q #[(0,Av true),(1,Ba s'.cs),(2,U O side),(3,Ba #[AI (I ⟨pb,0,Z⟩),R Z 0 0,U O 0])] AG (BR.mk s' side pb (R Z 0 0) 0 Jn).cs AG ?_));go_ret2
 exact⟨AI (I ⟨w4,0,Z⟩),by rw[HL.out];rfl,AB q4 _,fun _=>⟨w4,s',W,pb,nb,mb,Q,⟨Cu.new w4 _,kep,hW,⟨q4.size,Br q2.size l1,Br q2.size l2,Br q2.size l3⟩,⟨w4,Q,pool.on hb4,in4,AB (Ae _ _) _⟩,fun a ha=>Br q3.size (frn a ha),fun A' c' hc' a ha=>by
  obtain⟨A1,c1,g1,_⟩:=pool.c2;rw[AK (AH hb4 (AB (Ae _ _) _)) g1]at hc';cases hc';exact Br q2.size (L4.out _ _ g1 a ha)⟩⟩,fun hn=>absurd HL.out hn⟩
end
section
variable{b:Nat}{s:BX}{w:V}
structure Kw where
 s:BX
 rules:An
 light:Nat
 x0:An
 x1:An
 way:An
 f0:An
 f1:An
 f2:An
 shift:Int
def Kw.cs(x:Kw):Array An:=#[Av true,U O x.s.o.k,U O x.s.o.c0,U O x.s.o.c1,U O x.s.o.c2,U O x.s.o.v0,U O x.s.o.v1,U O x.s.o.v2,U O x.s.o.v3,U O x.s.o.w0,U O x.s.o.w1,U O x.s.o.w2,U O x.s.o.w3,U O x.s.o.s0,U O x.s.o.s1,U O x.s.o.s2,U O x.s.o.s3,U O x.s.o.eta,U O x.s.o.dark,U O x.s.slots,U O x.s.head,U O x.s.need,U O x.s.block,U O x.s.sample,R x.s.eps.A (Y x.s.eps.l) x.s.eps.c,R x.s.eps.C (Y x.s.eps.m) x.s.eps.d,R x.s.lim.A (Y x.s.lim.l) x.s.lim.c,R x.s.lim.C (Y x.s.lim.m) x.s.lim.d,U O x.s.passes,U O x.s.pblk,U AA x.s.pseed,U O x.s.width,U O x.s.margin,U O x.s.tries,U AA x.s.seed,x.rules,U AA x.light,x.x0,x.x1,x.way,x.f0,x.f1,x.f2,U O x.shift]
def Gu(w:V)(b:Nat)(x:Kw):Prop:=w.heap[b]?=I (N x.cs 120 (0,0))
def Gu.on{w':V}{x:Kw}(h:Gu w b x)(hb:Ag w w w'):Gu w' b x:=
 (hb.block b (Bm.1 h).1).trans h
theorem Gu.new(w:V)(x:Kw):Gu (Ao w (N x.cs 120)) w x:=CB w _
def Gu.c{x:Kw}(h:Gu w b x)(j:Nat):E w ⟨b,j,Z⟩=x.cs[j]?:=AX w b j _ _ _ h
def Gu.set{x x':Kw}(j:Nat)(v:An)(h:Gu w b x)(hs:x.cs.setIfInBounds j v=x'.cs):Gu (Ai w ⟨b,j,Z⟩ v) b x':=by
 unfold Gu;rw[<-hs];exact CM w b j _ _ v h
theorem Gu.fr{x:Kw}(h:Gu w b x)(j:Nat):Bo w ⟨b,j,Z⟩=false:=CJ w b j _ _ h
def EV.on2{B j:Nat}{v:An}(h:EV w b s)(hb:b<B):EV (Ai w ⟨B,j,Z⟩ v) b s:=
 (Jo w ⟨B,j,Z⟩ b v qsm).trans h
theorem mO{k:Int}{n:Nat}(h:Kt s=0)(hk:AR k 0 1=true)(hn:¬65536<n):Md s k n=0:=by grind [Md,Kt,AR]
end
def Agk(AM:Nat)(w:V):(nilAhead (prog.types.size+Made.depth) 307 (AI (I ⟨AM,0,Z⟩)) "waveplate/optics.hear").run AE w=.ok (I false) w:=AG
@[go_sem] theorem AjQ (n AM:Nat) (w:V) (hn:n=prog.types.size+Made.depth):(nilAhead n 307 (AI (I ⟨AM,0,Z⟩)) "waveplate/optics.hear").run AE w=.ok (I false) w:=qrf hn (Agk AM w)
def Agl(B b X AM s i:Nat)(r:C5)(x:C7)(ns:List CA)(w:V)(h:Cy B w b X AM x s ns)(hp:x.ph<=3)(hn:Y ns<=1000000):
  AL AE 251 #[r.val,U O i,AI (I ⟨X,0,Z⟩),AI (I ⟨b,0,Z⟩),U4 AM] w (Fc B b X AM w ns (if x.br=true then(x,s,[])else if 2<=x.ph then(⟨x.ph-1,x.basis,x.bit,false⟩,s,[⟨i,2,x.basis,x.bit⟩])else(x,s,[]))):=by
 unfold C5.val U4;obtain⟨J0,K0⟩:=h.alloc (N r 196);have lts:=h.lt;have y0:=J0.c0;have yb:=J0.c3;obtain⟨Cr,hZ⟩:∃Cr:C7 × Nat × List CA,(if x.br=true then(x,s,[])else if 2<=x.ph then(⟨x.ph-1,x.basis,x.bit,false⟩,s,[⟨i,2,x.basis,x.bit⟩])else(x,s,[]))=Cr:=⟨_,Q⟩
 rw[hZ];have HZ:=F hZ;clear hZ;rcases(Bool.eq_false_or_eq_true x.br).symm with hbr | hbr
 ·rw[hbr]at yb
  by_cases Gd:2<=x.ph
  ·have hz:Aj ((⟨x.ph-1,x.basis,x.bit,false⟩,s,[⟨i,2,x.basis,x.bit⟩])=Cr):=F (by
    have h9:=HZ.out;rw[AU (show¬x.br=true by rw[hbr];simp),Bd Gd]at h9;exact h9)
   have d1:decide ((2:Int)<=(x.ph:Int))=true:=by simp;omega
   have f0:=J0.fr 0;have e1:((x.ph:Int)-1)=((x.ph-1:Nat):Int):=J;obtain⟨J1,K1⟩:=h.set (x':=⟨x.ph-1,x.basis,x.bit,false⟩) 0 (U O ((x.ph-1:Nat):Int)) (by rw[hbr];rfl);obtain⟨J2,K2⟩:=J1.alloc (N r 196);have K3:=K1.trans K2;clear HZ J0 K0 K1 K2 J1;go_in;go_upto_region 3 with fail;obtain⟨W,hW⟩:=Az (Ao (Ai w ⟨X,0,Z⟩ (U O ((x.ph-1:Nat):Int))) (N r 196));rw[hW]at J2 K3 ⊢;clear hW y0 yb f0;have y1:=J2.c1;have y2:=J2.c2;obtain⟨Jd,Kd⟩:=J2.drew;have cH:=iW B AM AM AM ns ⟨(i:Int),2,x.basis,x.bit⟩ W.drew Jd.e Jd.lb.2.2.1 Jd.lb.2.2.2 hn;go_region_with (go_at_call 345;refine cH.mono ?_;rintro e w9 ⟨⟨v9,rfl⟩,hE9,K9⟩)
   all_goals(
    go_end0;rw[<-hz.out];obtain⟨J9,NB⟩:=Jd.hear hE9 K9;exact Fc.one J9 ((K3.trans Kd).trans NB))
  ·have hz:(x,s,[])=Cr:=by
    have h9:=HZ.out;rw[AU (show¬x.br=true by rw[hbr];simp),AU Gd]at h9;exact h9
   subst hz;have d1:decide ((2:Int)<=(x.ph:Int))=false:=by simp;omega
   go_in;go_wp2;go_end0;exact Fc.mk J0 K0
 ·have hz:(x,s,[])=Cr:=by rw[<-HZ.out,Bd hbr]
  subst hz;rw[hbr]at yb;go_in;go_wp2;go_end0;exact Fc.mk J0 K0
def Agm(B b X AM s i:Nat)(r:C5)(x:C7)(ns:List CA)(w:V)(h:Cy B w b X AM x s ns)(hn:Y ns<=1000000):
  AL AE 253 #[r.val,U O i,AI (I ⟨X,0,Z⟩),AI (I ⟨b,0,Z⟩),U4 AM] w (Fc B b X AM w ns (⟨0,r.a,decide (r.b=1),true⟩,s,[⟨i,3,r.a,decide (r.b=1)⟩])):=by
 unfold C5.val U4;have hr:=Wk w r;have y3:E (Ao w (N r 196)) ⟨w,3,Z⟩=I (U O r.a):=AX _ _ _ _ _ _ hr;have y4:E (Ao w (N r 196)) ⟨w,4,Z⟩=I (U O r.b):=AX _ _ _ _ _ _ hr;have lts:=h.lt;obtain⟨t,ht⟩:=Az ((r.b == 1));have ht2:decide (r.b=1)=t:=by rw[<-ht,PO];simp
 rw[ht2];clear ht2;obtain⟨J1,K1⟩:=h.aV ⟨0,r.a,t,true⟩;obtain⟨J2,K2⟩:=J1.alloc (N r 196);have K3:=K1.trans K2;obtain⟨J0,_⟩:=h.alloc (N r 196);have f0:=h.fr 0;have f1:=h.fr 1;have f2:=h.fr 2;have f3:=h.fr 3;have z0:=h.c0;have z1:=h.c1;have z2:=h.c2;have z3:=h.c3;have hX:=lts.2.1;have hne:↑w≠X:=J;clear hr K1 K2 J1 J0 h;go_in;go_upto_region 2 with fail;obtain⟨W,hW⟩:=Az (Ao (Ai (Ai (Ai (Ai w ⟨X,0,Z⟩ (U O 0)) ⟨X,1,Z⟩ (U O r.a)) ⟨X,2,Z⟩ (Av t)) ⟨X,3,Z⟩ (Av true)) (N r 196));have J3:Cy B W b X AM ⟨0,r.a,t,true⟩ s ns:=qrb hW J2;have K4:Ex B b X AM w W:=qrb hW K3;rw[hW];clear hW y3 y4 f0 f1 f2 f3 z0 z1 z2 z3 J2 K3 hne hX;have y1:E W ⟨X,1,Z⟩=I (U O r.a):=J3.c1;have y2:E W ⟨X,2,Z⟩=I (Av t):=J3.c2;obtain⟨Jd,Kd⟩:=J3.drew;have cH:=iW B AM AM AM ns ⟨(i:Int),3,r.a,t⟩ W.drew Jd.e Jd.lb.2.2.1 Jd.lb.2.2.2 hn;go_region_with (go_at_call 345;refine cH.mono ?_;rintro e w9 ⟨⟨v9,rfl⟩,hE9,K9⟩)
 all_goals(
  go_end0;obtain⟨J9,NB⟩:=Jd.hear hE9 K9;exact Fc.one J9 ((K4.trans Kd).trans NB))
section
variable{B AM X b:Nat}{w w':V}
def iZ(A:Option AS)(c:Nat)(l:List AQ)(w:V)(hA:Arr 5 AQ.enc w w A l)(hl:Y l<=9223372036854775807):
  AL AE 132 #[R A (Y l) c] w fun e w'=>e=AN (U O (Bz AQ.ok l))/\Ag w w w':=by
 by_cases h:4096<Y l
 ·have d1:decide (4096<(Y l:Int))=true:=by simp;omega
  have e1:=F (XQ (ok:=AQ.ok) h);go_in;go_wp2;go_ret;exact⟨Cg e1.out.symm,Ae _ _⟩
 have d1:decide (4096<(Y l:Int))=false:=by simp;omega
 go_in;go_wp2_with fail;go_loopw [10] (fun i wr=>∃k:Nat,k<=Y l/\i=U O k/\Aj ((l.take k).all AQ.ok=true)/\Ag w w wr) (fun i _=>Y l+1-(intOf i).toNat);exact⟨0,BM _,rfl,F rfl,Ae _ _⟩
 obtain⟨k,hk,rfl,inv,hb⟩:=hrel;obtain⟨w6,rfl⟩:=qgn wr;rcases D4 k (Y l)with hlt | D8
 ·obtain⟨b,off,pb,BK,pc,Cf,ps,rfl,BN,hx,c0,c1,c2,c3,c4⟩:=hA.pls hlt hb
  have q7:=AB hb (N #[U O pb,Av BK,U O pc,U O Cf,Av ps] 154);have bad:Aj (AQ.ok ⟨pb,BK,pc,Cf,ps⟩=false->Bz AQ.ok l=2):=F (fun hf=>XR h hx hf);have good:=F (fun hf=>Vu hx inv hf);by_cases BI:(0<=pb/\pb<=1)/\(0<=pc/\pc<=2)/\(0<=Cf/\Cf<=3)
  ·obtain⟨⟨a1,a2⟩,⟨a3,a4⟩,a5,a6⟩:=BI
   have e1:decide (pb<0)=false:=by simp;omega
   have e2:decide (1<pb)=false:=by simp;omega
   have e3:decide (pc<0)=false:=by simp;omega
   have e4:decide (2<pc)=false:=by simp;omega
   have e5:decide (Cf<0)=false:=by simp;omega
   have e6:decide (3<Cf)=false:=by simp;omega
   have hg:=F (good.out (by simp[AQ.ok,AR];omega));go_wp2_with fail;exact⟨⟨k+1,J,qgm,hg,q7⟩,qio⟩
  ·have hbd:=F (bad.out (by simp[AQ.ok,AR];omega))
   clear good bad inv hx;go_wp2_with fail
   all_goals(first | (exfalso;omega) | (go_ret;exact⟨Cg hbd.out.symm,q7⟩))
 ·have e1:=F (XS (ok:=AQ.ok) h D8 inv)
  go_wp2;go_ret;exact⟨Cg e1.out.symm,hb⟩
theorem Agq(r:C5)(i:Nat)(x:C7)(s:Nat):(FN r i x s).2.2.length<=1:=by
 unfold FN
 repeat' split
 all_goals first | simp | exact Bg 1
theorem Agr(r:C5)(i:Nat)(z:C7 × Nat × List CA):(Py r i z).2.2.length<=z.2.2.length+1:=by
 grind [Py,Agq]
theorem j4(l:List C5)(i:Nat)(z:C7 × Nat × List CA):∀k,k<=Y l->(JG l i z k).2.2.length<=z.2.2.length+k
 | 0,_=>by simp[JG]
 | k+1,h=>by
  have ih:=j4 l i z k J;rw[sF i z (CH J)]
  grind [Py,JG,Agr]
theorem sM(l:List C5)(hl:Y l<=32)(p:List AQ)(s:Nat):∀k,(CQ l p s k).2.2.length<=32*k
 | 0=>by simp[CQ]
 | k+1=>by
  have ih:=sM l hl p s k;cases h:p[k]? with
  | none=>rw[CQ,h];simp only;omega
  | some x=>
   rw[iS h];have:=j4 l k (Ti x,(CQ l p s k).2.1,(CQ l p s k).2.2) (Y l) (Bg _);simp only at this ⊢;omega
theorem KX{k j:Nat}{cs cs':Array An}{T T':TypeId}{fr fr':Nat × Nat}(h1:w.heap[k]?=I (N cs T fr))(h2:w.heap[j]?=I (N cs' T' fr'))(hT:T≠T'):k≠j:=fun e=>by
 grind
def Ex.own(k:Ex B b X AM w w'){α:Type}{B' e sz:Nat}{enc:α->List An}{v:An}{l:List α}(h:Go.Proofs.YtjpidgffdkjjeaaGreat.Own w B' e sz enc v l)(hn:∀g,v.ownBlock=I g->g≠b/\g≠X/\g≠AM)(he:e≠165):Go.Proofs.YtjpidgffdkjjeaaGreat.Own w' B' e sz enc v l:=by
 rcases h.2 with h0 | ⟨g,cap,cur,rfl,hb,hg,rest⟩
 ·exact⟨h.1,.inl h0⟩
 ·obtain⟨n1,n2,n3⟩:=hn g Q
  exact⟨h.1,.inr ⟨g,cap,cur,rfl,hb,k.row g _ _ _ hg n1 n2 n3 he,rest⟩⟩
def Cy.on{s:Nat}{x:C7}{ns:List CA}(h:Cy B w b X AM x s ns)(hb:Ag w w w'):Cy B w' b X AM x s ns/\Ex B b X AM w w':=by
 have hg:=Db hb;have h4:=h.lb;exact⟨⟨h.d.keep hg AO,(hg.block X h.lt.2.1 AO).trans h.l,h.e.grown hg AO AO,by have:=hg.size;omega⟩,⟨hb.mono h4.2.2.2,fun k cs T fr hk _ _ _ _=>(hg.block k (Bm.1 hk).1 AO).trans hk⟩⟩
end
def d6(t:Bool)(w:V):AL AE 255 #[Av t] w fun e w'=>e=AN (U O (if t=true then 1 else 0))/\w=w':=by
 cases t
 all_goals(
  go_in;go_wp2;go_ret;exact⟨Q,Q⟩)
structure KJ(w wi:V)(b s By L AW C AY:Nat)(o:Bw)(x:C7)(bs kd:Int)(f0 f1:Bool):Prop where
 d:Cs wi b s
 o_:CC wi By o
 l:wi.heap[L]?=I (N x 315 (0,0))
 r:wi.heap[AW]?=I (N #[U O 0,U O 0] 162 (0,0))
 c:wi.heap[C]?=I (N #[U O bs,U O kd] 162 (0,0))
 f:wi.heap[AY]?=I (N #[Av f0,Av f1] 356 (0,0))
 g:w.grownBy wi (I b)
 lb:b<↑w/\w.heap.size<=By/\By<L/\L<AW/\AW<C/\C<AY
section
variable {w wi w':V} {b s s' By L AW C AY:Nat} {o:Bw} {x:C7} {bs kd:Int} {f0 f1:Bool}
def KJ.step(h:KJ w wi b s By L AW C AY o x bs kd f0 f1)(D:Cs w' b s')(hg:wi.grownBy w' (I b)):KJ w w' b s' By L AW C AY o x bs kd f0 f1:=by
 have h2:=h.lb;have k:∀{j:Nat} {v:Obj},wi.heap[j]?=I v->b<j->w'.heap[j]?=I v:=fun hj hb=>(hg.block _ (Bm.1 hj).1 qsm).trans hj
 exact⟨D,k h.o_ J,k h.l J,k h.r J,k h.c J,k h.f J,Fj h.g hg,h2⟩
def KJ.NK(h:KJ w wi b s By L AW C AY o x bs kd f0 f1){Bp:Nat}(hY:↑w<=Bp)(j:Nat)(v:An)(hg0:w.grownBy w' (I b)):w.grownBy (Ai w' ⟨Bp,j,Z⟩ v) (I b):=by
 have hg:=Dt w' Bp j v;exact⟨hg.os.trans hg0.os,hg.tape.trans hg0.tape,hg.output.trans hg0.output,Br hg0.size hg.size,fun k hk hn=>(hg.block k (Ck hk hg0.size) qsm).trans (hg0.block k hk hn)⟩
def KJ.Vj(h:KJ w wi b s By L AW C AY o x bs kd f0 f1)(j:Nat)(v:An){e0 e1:Bool}(he:(#[Av f0,Av f1]:Array An).setIfInBounds j v=#[Av e0,Av e1]):KJ w (Ai wi ⟨AY,j,Z⟩ v) b s By L AW C AY o x bs kd e0 e1:=by
 have h2:=h.lb;have hg:=Dt wi AY j v;have k:∀{j:Nat} {u:Obj},wi.heap[j]?=I u->j<AY->(Ai wi ⟨AY,_,Z⟩ v).heap[j]?=I u:=fun hj hb=>(hg.block _ (Bm.1 hj).1 qsm).trans hj
 exact⟨h.d.keep hg qsm,k h.o_ J,k h.l J,k h.r J,k h.c J,by rw[<-he];exact CM wi _ j _ _ v h.f,h.NK J j v h.g,h2⟩
def KJ.d8(h:KJ w wi b s By L AW C AY o x bs kd f0 f1)(kd':Int):KJ w (Ai wi ⟨C,1,Z⟩ (U O kd')) b s By L AW C AY o x bs kd' f0 f1:=by
 have h2:=h.lb;have hg:=Dt wi C 1 (U O kd');have k:∀{j:Nat} {u:Obj},wi.heap[j]?=I u->j≠C->(Ai wi ⟨C,1,Z⟩ (U O kd')).heap[j]?=I u:=fun hj hb=>(hg.block _ (Bm.1 hj).1 qsm).trans hj
 exact⟨h.d.keep hg qsm,k h.o_ J,k h.l J,k h.r J,CM wi _ 1 _ _ _ h.c,k h.f J,h.NK J 1 _ h.g,h2⟩
def KJ.drew(h:KJ w wi b s By L AW C AY o x bs kd f0 f1):KJ w wi.drew b s By L AW C AY o x bs kd f0 f1:=⟨h.d,h.o_,h.l,h.r,h.c,h.f,⟨h.g.os,h.g.tape,h.g.output,h.g.size,h.g.block⟩,h.lb⟩
def KJ.l0(h:KJ w wi b s By L AW C AY o x bs kd f0 f1):E wi ⟨L,0,Z⟩=I (U O x.ph):=AX _ _ _ _ _ _ h.l
def KJ.l1(h:KJ w wi b s By L AW C AY o x bs kd f0 f1):E wi ⟨L,1,Z⟩=I (U O x.basis):=AX _ _ _ _ _ _ h.l
def KJ.l2(h:KJ w wi b s By L AW C AY o x bs kd f0 f1):E wi ⟨L,2,Z⟩=I (Av x.bit):=AX _ _ _ _ _ _ h.l
def KJ.l3(h:KJ w wi b s By L AW C AY o x bs kd f0 f1):E wi ⟨L,3,Z⟩=I (Av x.br):=AX _ _ _ _ _ _ h.l
def KJ.c0(h:KJ w wi b s By L AW C AY o x bs kd f0 f1):E wi ⟨C,0,Z⟩=I (U O bs):=AX _ _ _ _ _ _ h.c
def KJ.c1(h:KJ w wi b s By L AW C AY o x bs kd f0 f1):E wi ⟨C,1,Z⟩=I (U O kd):=AX _ _ _ _ _ _ h.c
def KJ.cf(h:KJ w wi b s By L AW C AY o x bs kd f0 f1)(j:Nat):Bo wi ⟨C,j,Z⟩=false:=CJ _ _ _ _ _ h.c
def KJ.d0(h:KJ w wi b s By L AW C AY o x bs kd f0 f1):E wi ⟨AY,0,Z⟩=I (Av f0):=AX _ _ _ _ _ _ h.f
def KJ.d1(h:KJ w wi b s By L AW C AY o x bs kd f0 f1):E wi ⟨AY,1,Z⟩=I (Av f1):=AX _ _ _ _ _ _ h.f
def KJ.ff(h:KJ w wi b s By L AW C AY o x bs kd f0 f1)(j:Nat):Bo wi ⟨AY,j,Z⟩=false:=CJ _ _ _ _ _ h.f
def KJ.r0(h:KJ w wi b s By L AW C AY o x bs kd f0 f1):E wi ⟨AW,0,Z⟩=I (U O 0):=AX _ _ _ _ _ _ h.r
def KJ.r1(h:KJ w wi b s By L AW C AY o x bs kd f0 f1):E wi ⟨AW,1,Z⟩=I (U O 0):=AX _ _ _ _ _ _ h.r
def KJ.rf(h:KJ w wi b s By L AW C AY o x bs kd f0 f1)(j:Nat):Bo wi ⟨AW,j,Z⟩=false:=CJ _ _ _ _ _ h.r
def KJ.fin(h:KJ w wi b s By L AW C AY o x bs kd f0 f1)(v0 v1:An):Cs (Ai (Ai wi ⟨AW,0,Z⟩ v0) ⟨AW,1,Z⟩ v1) b s/\w.grownBy (Ai (Ai wi ⟨AW,0,Z⟩ v0) ⟨AW,1,Z⟩ v1) (I b)/\(Ai (Ai wi ⟨AW,0,Z⟩ v0) ⟨AW,1,Z⟩ v1).heap[AW]?=I (N #[v0,v1] 162 (0,0)):=by
 have h2:=h.lb;have ne:I AW≠I b:=by simp;omega
 refine⟨(h.d.keep (Dt _ AW 0 v0) ne).keep (Dt _ AW 1 v1) ne,h.NK J 1 v1 (h.NK J 0 v0 h.g),?_⟩;have h0:(Ai wi ⟨AW,0,Z⟩ v0).heap[AW]?=I (N #[v0,U O 0] 162 (0,0)):=CM _ _ 0 _ _ v0 h.r;exact CM _ _ 1 _ _ v1 h0
theorem KJ.new(w:V)(b s s1:Nat)(o:Bw)(x:C7)(bs:Int){w2:V}(h:Cs w b s)
  (hd:Cs w2 b s1) (hg:(Ao (Ao (Ao w (N o.cs 54)) (N x 315)) (N #[U O 0,U O 0] 162)).grownBy w2 (I b)):
  KJ w (Ao (Ao w2 (N #[U O bs,U O 0] 162)) (N #[Av false,Av false] 356)) b s1 w (w.heap.size+1) (w.heap.size+1+1) w2 (w2.heap.size+1) o x bs 0 false false:=by
 have hb:=h.lt;have hs:=hg.size;simp at hs
 have k:∀{j:Nat} {v:Obj},(Ao (Ao (Ao w (N o.cs 54)) (N x 315)) (N #[U O 0,U O 0] 162)).heap[j]?=I v->b<j->(Ao (Ao w2 (N #[U O bs,U O 0] 162)) (N #[Av false,Av false] 356)).heap[j]?=I v:=fun hj hb=>by
  have h1:=(Bm.1 hj).1;have h2:=(hg.block _ h1 qsm).trans hj;have h3:=(Bm.1 h2).1;exact(Vg _ _ qsm).trans ((Vg _ _ h3).trans h2)
 refine⟨(hd.keep (row:=Z) (JH _ _ Z) AO).keep (row:=Z) (JH _ _ Z) AO,k ?_ hb,k ?_ J,k ?_ J,?_,?_,?_,⟨hb,Bg _,J,J,J,J⟩⟩
 ·exact(Vg _ _ qsm).trans (Uq w _ _)
 ·exact(Vg _ _ AO).trans (Ur w _ _)
 ·have e:(Ao (Ao w (N o.cs 54)) (N x 315)).heap.size=w.heap.size+1+1:=AO
  rw[<-e];exact CB _ _
 ·exact Uq _ _ _
 ·exact Ur _ _ _
 ·have g0:w.grownBy (Ao (Ao (Ao w (N o.cs 54)) (N x 315)) (N #[U O 0,U O 0] 162)) (I b):=Fj (Fj (JH _ _ _) (JH _ _ _)) (JH _ _ _)
  exact Fj (Fj (Fj g0 hg) (JH _ _ _)) (JH _ _ _)
end
def sO(c1 c2 c3 c6:Nat):Array An:=#[Bl,MU c1,MU c2,MU c3,.func (.func 252) #[] #[],.func (.func 251) #[] #[],MU c6,.func (.func 253) #[] #[]]
structure Sl(B:Nat)(W:V)(b AM D g n c1 c2 c3 c6 s:Nat)(ns:List CA)(outs:List C7):Prop where
 d:Cs W b s
 e:Vi W B AM ns
 dd:W.heap[D]?=I (N (sO c1 c2 c3 c6) 312 (0,0))
 ac:iY W c1 c2 c3 c6
 o:Go.Proofs.YtjpidgffdkjjeaaGreat.Own W B 315 4 C7.enc (R (I ⟨g,0,Z⟩) n n) outs
 lb:B<=b/\B<=AM/\B<=↑W
section
variable {B:Nat} {W W':V} {b AM D g n c1 c2 c3 c6 s:Nat} {ns:List CA} {outs:List C7}
def Sl.alloc(h:Sl B W b AM D g n c1 c2 c3 c6 s ns outs)(o:Obj):Sl B (Ao W o) b AM D g n c1 c2 c3 c6 s ns outs:=by
 have hg:=JH W o Z;obtain⟨v,hv,hw⟩:=h.e;have keep:∀{k:Nat} {ob:Obj},W.heap[k]?=I ob->(Ao W o).heap[k]?=I ob:=fun hk=>(hg.block _ (Bm.1 hk).1 AO).trans hk
 exact⟨h.d.keep hg AO,h.e.grown hg AO AO,keep h.dd,⟨keep h.ac.b1,keep h.ac.b2,keep h.ac.b3,keep h.ac.b6⟩,Own.alloc h.o _,by have:=hg.size;have:=h.lb;omega⟩
theorem Sl.Ah7(h:Sl B W b AM D g n c1 c2 c3 c6 s ns outs)(hn:0<n)(hl:Y outs=n):∃cs,W.heap[g]?=I (N cs 315 (0,0)):=by
 rcases h.o.2 with⟨h0,_⟩ | ⟨g',cap,cur,h0,_,hg,_⟩
 all_goals grind
def Sl.car(h:Sl B W b AM D g n c1 c2 c3 c6 s ns outs){X s':Nat}{x:C7}{ns':List CA}(hS:Cy B W' b X AM x s' ns')(hK:Ex B b X AM W W')(hgX:g≠X)(hX:∃cs,W.heap[X]?=I (N cs 315 (0,0))):Sl B W' b AM D g n c1 c2 c3 c6 s' ns' outs:=by
 obtain⟨v,hv,hw⟩:=h.e;obtain⟨xs,hX⟩:=hX;have keep:∀{k:Nat} {cs:Array An} {T:TypeId},W.heap[k]?=I (N cs T (0,0))->T≠219->T≠315->T≠309->T≠165->W'.heap[k]?=I (N cs T (0,0)):=fun hk t1 t2 t3 t4=>hK.row _ _ _ _ hk (KX hk h.d t1) (KX hk hX t2) (KX hk hv t3) t4
 refine⟨hS.d,hS.e,keep h.dd AC AC AC AC,⟨keep h.ac.b1 AC AC AC AC,keep h.ac.b2 AC AC AC AC,keep h.ac.b3 AC AC AC AC,keep h.ac.b6 AC AC AC AC⟩,hK.own h.o (fun k hk=>?_) AC,⟨h.lb.1,h.lb.2.1,hS.lb.2.2.2⟩⟩;have hkg:k=g:=by simpa[Value.ownBlock]using hk.symm
 subst hkg;rcases h.o.2 with⟨h0,_⟩ | ⟨g',cap,cur,h0,_,hg,_⟩
 ·cases h0
 ·cases h0
  exact⟨KX hg h.d AC,hgX,KX hg hv AC⟩
theorem Sl.set(h:Sl B W b AM D g n c1 c2 c3 c6 s ns outs)(hl:Y outs=n){k:Nat}{x:C7}(hx:outs[k]?=I x)(x':C7):
  Sl B (Ai (Ai (Ai (Ai W ⟨g,k*4,Z⟩ (U O x'.ph)) ⟨g,k*4+1,Z⟩ (U O x'.basis)) ⟨g,k*4+2,Z⟩ (Av x'.bit)) ⟨g,k*4+3,Z⟩ (Av x'.br)) b AM D g n c1 c2 c3 c6 s ns (outs.set k x')/\
  (∀{x:V},Ag B x W->Ag B x (Ai (Ai (Ai (Ai W ⟨g,k*4,Z⟩ (U O x'.ph)) ⟨g,k*4+1,Z⟩ (U O x'.basis)) ⟨g,k*4+2,Z⟩ (Av x'.bit)) ⟨g,k*4+3,Z⟩ (Av x'.br))):=by
 have hk:=(EF.1 hx).1;obtain⟨v,hv,hw⟩:=h.e
 have hrow:∃cs,B<=g/\W.heap[g]?=I (N cs 315 (0,0)):=by
  rcases h.o.2 with⟨h0,_⟩ | ⟨g',cap,cur,h0,hb,hg,_⟩
  all_goals grind
 obtain⟨cs,hBg,hg⟩:=hrow
 have hG:W.grownBy (Ai (Ai (Ai (Ai W ⟨g,k*4,Z⟩ (U O x'.ph)) ⟨g,k*4+1,Z⟩ (U O x'.basis)) ⟨g,k*4+2,Z⟩ (Av x'.bit)) ⟨g,k*4+3,Z⟩ (Av x'.br)) (I g):=
  Fj (Fj (Fj (Dt W g _ _) (Dt _ g _ _)) (Dt _ g _ _)) (Dt _ g _ _)
 have o1:=h.o.TH hl C7.BY (x':=⟨x'.ph,x.basis,x.bit,x.br⟩) hx (j:=0) (u:= U O x'.ph) AC Q;have o2:=o1.TH (by grind) C7.BY (x':=⟨x'.ph,x'.basis,x.bit,x.br⟩) (da hk) (j:=1) (u:= U O x'.basis) AC Q;rw[List.set_set]at o2;have o3:=o2.TH (by grind) C7.BY (x':=⟨x'.ph,x'.basis,x'.bit,x.br⟩) (da hk) (j:=2) (u:= Av x'.bit) AC Q;rw[List.set_set]at o3;have o4:=o3.TH (by grind) C7.BY (x':=x') (da hk) (j:=3) (u:= Av x'.br) AC Q;rw[List.set_set]at o4
 have keep:∀{k:Nat} {cs:Array An} {T:TypeId},W.heap[k]?=I (N cs T (0,0))->T≠315->(Ai (Ai (Ai (Ai W ⟨g,_,Z⟩ (U O x'.ph)) ⟨g,_,Z⟩ (U O x'.basis)) ⟨g,_,Z⟩ (Av x'.bit)) ⟨g,_,Z⟩ (Av x'.br)).heap[k]?=I (N cs T (0,0)):=
  fun hk t=>(hG.block _ (Bm.1 hk).1 (by grind)).trans hk
 refine⟨⟨keep h.d AC,h.e.grown hG (by have:=KX hv hg AC;grind) (fun j hj=>by grind),keep h.dd AC,⟨keep h.ac.b1 AC,keep h.ac.b2 AC,keep h.ac.b3 AC,keep h.ac.b6 AC⟩,o4,⟨h.lb.1,h.lb.2.1,by have:=hG.size;grind⟩⟩,fun hb=>hb.grown hG (by grind) (fun j hj=>by grind)⟩
end
section
variable{B k:Nat}{W W' x:V}{c:List Bf}{l m:List Int}{p:List AQ}{s:Int}{u v:An}
structure Og(B:Nat)(W:V)(u v:An)(l m:List Int):Prop where
 o1:Own W B 3 1 BD u l
 o2:Own W B 3 1 BD v m
 ap:Ap u v
def Og.on(h:Og B W u v l m)(hb:Ag W W W'):Og B W' u v l m:=⟨h.o1.below hb,h.o2.below hb,h.ap⟩
def Og.fst{u':An}{l':List Int}(h:Og B W u v l m)(ho:Own W' B 3 1 BD u' l')(hg:W.grownBy W' u.ownBlock)(ha:At W u u'):Og B W' u' v l' m:=
 ⟨ho,Ys h.o2 h.ap.symm hg,(ai h.o2 h.ap.symm ha).symm⟩
def Og.snd{v':An}{m':List Int}(h:Og B W u v l m)(ho:Own W' B 3 1 BD v' m')(hg:W.grownBy W' v.ownBlock)(ha:At W v v'):Og B W' u v' l m':=
 ⟨Ys h.o1 h.ap hg,ho,ai h.o1 h.ap ha⟩
def Og.tI(h:Og B W u v l m)(hg:W.grownBy W' u.ownBlock)(hb:Ag B x W)(hs:B<=↑W):Ag B x W':=hb.grown hg hs (fun k hk=>(Cp h.o1 k hk).1)
def Og.tJ(h:Og B W u v l m)(hg:W.grownBy W' v.ownBlock)(hb:Ag B x W)(hs:B<=↑W):Ag B x W':=hb.grown hg hs (fun k hk=>(Cp h.o2 k hk).1)
theorem tK{α:Type}{w w':V}{e sz:Nat}{enc:α->List An}{l:List α}(o:Go.Proofs.YtjpidgffdkjjeaaGreat.Own w B e sz enc v l)(hg:w.grownBy w' v.ownBlock){cs:Array An}{T:TypeId}{fr:Nat × Nat}(hk:w.heap[k]?=I (N cs T fr))(hT:T≠e):w'.heap[k]?=I (N cs T fr):=by
 refine(hg.block k (Bm.1 hk).1 (fun e'=>?_)).trans hk;rcases o.2 with⟨rfl,_⟩ | ⟨g,cap,cur,rfl,_,hgb,_⟩
 ·simp[Value.ownBlock]at e'
 ·obtain rfl:k=g:=by simpa[Value.ownBlock]using e'
  grind
theorem tM(h:(k:Int)+s<0\/(Y c:Int)<=(k:Int)+s):Of p c s k=false:=by
 grind [Of]
theorem Ahh{j:Nat}{x:AQ}{q:Bf}(hx:p[k]?=I x)(hq:c[j]?=I q)(e:(k:Int)+s=j):Of p c s k=(x.seen&&(x.basis == q.basis)&&GR q.kind)/\Wo p c s k=(x.bit != decide (q.kind=2)):=by
 constructor
 ·grind [Of,GR]
 ·unfold Wo W7 YW V0
  grind
def Ahi:(prog.info? 3).map (fun i=>(i.zero,i.size,i.bytes))=I (I (U O 0),1,8):=AG
def Ahj(A:Option AS)(n:Nat)(p:List AQ)(C:Option AS)(m:Nat)(c:List Bf)(s:Int)(w:V)(hA:Arr 5 AQ.enc w w A p)(hC:Arr 2 Bf.enc w w C c)
  (hp:Bz AQ.ok p=0) (hc:Bz Bf.ok c=0) (hs1: -16<=s) (hs2:s<=16):
  AL AE 81 #[R A (Y p) n,R C (Y c) m,U O s] w fun e w'=>∃v u,e=AN (Be #[v,u,U O 0])/\Own w' w 3 1 BD v (MZ p c s (Y p))/\Own w' w 3 1 BD u (N6 p c s (Y p))/\Ag w w w':=by
 obtain⟨i0,hi,hz0,hz1,hz2⟩:=IA Ahi;have Hi:=F hi;have EJ:=F hz0;have Ep:=F hz1;have Eh:=F hz2;clear hi hz0 hz1 hz2;obtain⟨hpl,hpo⟩:=Lb.1 hp;obtain⟨DG,Qe⟩:=Lb.1 hc;have Hco:=F Qe;have cV:=iZ A n p w hA J;rw[hp]at cV;clear hp hc hpo Qe;have d1:decide (s < -16)=false:=by simp;omega
 have d2:decide (16<s)=false:=by simp;omega
 have d3:decide (4096<(Y p:Int))=false:=by simp;omega
 have d4:decide (4096<(Y c:Int))=false:=by simp;omega
 go_in;go_wp2_with fail;refine gqz cV fun w1 hb1=>?_;clear cV;go_wp2_with fail;go_loopw [39] (fun i wr=>∃k:Nat,k<=Y c/\i=U O k/\Ag w w wr) (fun i _=>Y c-(intOf i).toNat);exact⟨0,BM _,rfl,hb1⟩
 clear hb1;obtain⟨k,hk,rfl,hb⟩:=hrel;obtain⟨wi,rfl⟩:=qgn wr;rcases D4 k (Y c)with hlt | D8
 ·obtain⟨bp,op,qb,qk,rfl,BN,hx,x0,x1⟩:=hC.clk hlt hb
  have hxo:=EA.1 Hco _ (DI hx);unfold Bf.ok at hxo;simp only[AR,Bool.and_eq_true,decide_eq_true_eq]at hxo;obtain⟨⟨a1,a2⟩,a3,a4⟩:=hxo;have e1:decide (qb<0)=false:=by simp;omega
  have e2:decide (1<qb)=false:=by simp;omega
  have e3:decide (qk<0)=false:=by simp;omega
  have e4:decide (3<qk)=false:=by simp;omega
  have q7:=AB hb (N #[U O qb,U O qk] 162);go_wp2_with fail;exact⟨⟨k+1,J,qgm,q7⟩,qio⟩
 ·obtain rfl:k=Y c:=J
  clear hk D8;go_wp2_with fail;go_loopw [12,13,64] (fun u v i wr=>∃k:Nat,k<=Y p/\i=U O k/\Og w wr u v (MZ p c s k) (N6 p c s k)/\Ag w w wr) (fun _ _ i _=>Y p-(intOf i).toNat);exact⟨0,BM _,rfl,⟨Own.nil,Own.nil,.inl rfl⟩,hb⟩
  clear hb;obtain⟨k,hk,rfl,T,hb⟩:=hrel;obtain⟨wo,rfl⟩:=qgn wr;have la:=ji p c s k;have lw:=Ahg p c s k;rcases D4 k (Y p)with hlt | D8
  ·obtain⟨bp,op,pb,BK,pc,Cf,ps,rfl,BN,hx,c0,c1,c2,c3,c4⟩:=hA.pls hlt hb
   obtain⟨n0,n1,n2,n3,n4⟩:=jE wo pb BK pc Cf ps 154;by_cases hj0:(k:Int)+s<0
   ·have i9:decide ((k:Int)+s<0)=true:=qsu hj0
    obtain⟨m1,m2⟩:=Zd (tM (p:=p) (c:=c) (.inl hj0));have M1:=F m1;have M2:=F m2;clear m1 m2;go_wp2_with fail;refine qrl ?_;rintro w2⟨⟨_,hb2⟩,rfl⟩;go_wp2_with fail;exact⟨⟨k+1,J,qgm,by rw[M1.out,M2.out];exact(T.on (AB (Ae _ _) _)).on hb2,AH (AB hb _) hb2⟩,qio⟩
   ·by_cases hj1:(Y c:Int)<=(k:Int)+s
    ·have i9:decide ((k:Int)+s<0)=false:=qsu hj0
     obtain⟨m1,m2⟩:=Zd (tM (p:=p) (c:=c) (.inr hj1));have M1:=F m1;have M2:=F m2;clear m1 m2;go_wp2_with fail;refine qrl ?_;rintro w2⟨⟨_,hb2⟩,rfl⟩;go_wp2_with fail;exact⟨⟨k+1,J,qgm,by rw[M1.out,M2.out];exact(T.on (AB (Ae _ _) _)).on hb2,AH (AB hb _) hb2⟩,qio⟩
    ·obtain⟨j,hj⟩:∃j:Nat,(k:Int)+s=j:=⟨((k:Int)+s).toNat,J⟩
     have hjc:j<Y c:=J;obtain⟨b2,TQ,qb,qk,rfl,VY,hq,q0,q1⟩:=hC.clk hjc hb;obtain⟨hav,Lj⟩:=Ahh hx hq hj;simp only at hav Lj;have Hav:=F hav;have Hdv:=F Lj;have Hj:=F hj;clear hav Lj hj hj0 hj1;have g0:decide ((j:Int)<0)=false:=AO;have g1:decide (Y c<=j)=false:=by simp;omega
     have r0:=Vq q0 (N #[U O pb,Av BK,U O pc,U O Cf,Av ps] 154);have r1:=Vq q1 (N #[U O pb,Av BK,U O pc,U O Cf,Av ps] 154);have T2:=T.on (AB (Ae _ _) (N #[U O pb,Av BK,U O pc,U O Cf,Av ps] 154));have hb3:=AB hb (N #[U O pb,Av BK,U O pc,U O Cf,Av ps] 154);clear T hb;cases ps
     ·obtain⟨m1,m2⟩:=Zd (p:=p) (c:=c) (s:=s) (k:=k) (by rw[Hav.out];rfl)
      have M1:=F m1;have M2:=F m2;clear m1 m2;go_wp2_with fail;rw[Hj.out];refine qrl ?_;rintro w2⟨⟨_,hb2⟩,rfl⟩;go_wp2_with fail;exact⟨⟨k+1,J,qgm,by rw[M1.out,M2.out];exact T2.on hb2,AH hb3 hb2⟩,qio⟩
     ·by_cases YF:qb=pb
      ·subst YF
       go_wp2_with fail;rw[Hj.out];refine qrl ?_;rintro w2⟨⟨_,hb2⟩,rfl⟩;have e1:E w2 ⟨wo,1,Z⟩=I (Av BK):=n1 ⟨w2,hb2⟩;have e2:E w2 ⟨b2,TQ+j*2+1,Z⟩=I (U O qk):=r1 ⟨w2,hb2⟩;have hrow:w2.heap[wo.heap.size]?=I (N #[U O qb,Av BK,U O pc,U O Cf,Av true] 154 (0,0)):=(hb2.block _ AO).trans (World.alloc_heap_new _ _);have T3:=T2.on hb2;have hb4:=AH hb3 hb2;have dt:=hb4.size;have by1:((MZ p c s k).length+1)*8<=140737488355328:=J;have by2:((N6 p c s k).length+1)*8<=140737488355328:=J;have i1:(j:Int)<(Y c:Int):=J;clear T2 hb3 hb2 n0 n1 n2 n3 n4 r0 r1 q0 q1 c0 c1 c2 c3 c4;by_cases CT:qk=1
       ·subst CT
        have hit:Of p c s k=true:=by rw[Hav.out];simp[GR]
        have Ah:=F (dr hit);have wm:=F (fun h=>tH (p:=p) (c:=c) (s:=s) (k:=k) hit h);have wh:=F (fun h=>tG (p:=p) (c:=c) (s:=s) (k:=k) hit h);clear hit;go_upto_region 23 with(at_builtin;refine WY (g:=w2.heap.size) Q _ _ 37 Q w 3 i0 _ 1 8 underlying37 Hi EJ Ep Eh Q AC _ (MZ p c s k) (k:Int) #[U O k] 3 Q T3.o1 Q Q Q (On _) by1 AC dt Q ?_;intro u5 w5 o5 g5 a5)
        have T5:=T3.fst o5 g5 a5;have Bh:=T3.tI g5 hb4 dt;have Jb:=tK T3.o1 g5 hrow AC;have y1:E w5 ⟨wo,1,Z⟩=I (Av BK):=AX _ _ _ _ _ _ Jb;have hs5:=Bh.size;rw[<-Ah.out]at T5;clear T3 o5 g5 a5 e1 e2 hb4 hrow Jb;cases BK
        ·have hw:=F (wm.out (by rw[Hdv.out];rfl))
         go_wp2_with fail;exact⟨⟨k+1,J,qgm,qrf hw.out T5,Bh⟩,qio⟩
        ·have hw:=F (wh.out (by rw[Hdv.out];rfl))
         go_wp2_with(at_builtin;refine WY (g:=w5.heap.size) Q _ _ 37 Q w 3 i0 _ 1 8 underlying37 Hi EJ Ep Eh Q AC _ (N6 p c s k) (k:Int) #[U O k] 3 Q T5.o2 Q Q Q (On _) by2 AC hs5 Q ?_;intro u6 w6 o6 g6 a6);have T6:=T5.snd o6 g6 a6;have BV:=T5.tJ g6 Bh hs5;exact⟨⟨k+1,J,qgm,qrf hw.out T6,BV⟩,qio⟩
       ·by_cases Et:qk=2
        ·subst Et
         clear CT;have hit:Of p c s k=true:=by rw[Hav.out];simp[GR]
         have Ah:=F (dr hit);have wm:=F (fun h=>tH (p:=p) (c:=c) (s:=s) (k:=k) hit h);have wh:=F (fun h=>tG (p:=p) (c:=c) (s:=s) (k:=k) hit h);clear hit;go_upto_region 23 with(at_builtin;refine WY (g:=w2.heap.size) Q _ _ 37 Q w 3 i0 _ 1 8 underlying37 Hi EJ Ep Eh Q AC _ (MZ p c s k) (k:Int) #[U O k] 3 Q T3.o1 Q Q Q (On _) by1 AC dt Q ?_;intro u5 w5 o5 g5 a5)
         have T5:=T3.fst o5 g5 a5;have Bh:=T3.tI g5 hb4 dt;have Jb:=tK T3.o1 g5 hrow AC;have y1:E w5 ⟨wo,1,Z⟩=I (Av BK):=AX _ _ _ _ _ _ Jb;have hs5:=Bh.size;rw[<-Ah.out]at T5;clear T3 o5 g5 a5 e1 e2 hb4 hrow Jb;cases BK
         ·have hw:=F (wh.out (by rw[Hdv.out];rfl))
          go_wp2_with(at_builtin;refine WY (g:=w5.heap.size) Q _ _ 37 Q w 3 i0 _ 1 8 underlying37 Hi EJ Ep Eh Q AC _ (N6 p c s k) (k:Int) #[U O k] 3 Q T5.o2 Q Q Q (On _) by2 AC hs5 Q ?_;intro u6 w6 o6 g6 a6);have T6:=T5.snd o6 g6 a6;have BV:=T5.tJ g6 Bh hs5;exact⟨⟨k+1,J,qgm,qrf hw.out T6,BV⟩,qio⟩
         ·have hw:=F (wm.out (by rw[Hdv.out];rfl))
          go_wp2_with fail;exact⟨⟨k+1,J,qgm,qrf hw.out T5,Bh⟩,qio⟩
        ·obtain⟨m1,m2⟩:=Zd (p:=p) (c:=c) (s:=s) (k:=k) (by rw[Hav.out];simp[GR,CT,Et])
         have M1:=F m1;have M2:=F m2;have e8:(qk == 1)=false:=qsu CT;have e9:(qk == 2)=false:=qsu Et;clear m1 m2 CT Et;go_wp2_with fail;exact⟨⟨k+1,J,qgm,by rw[M1.out,M2.out];exact T3,hb4⟩,qio⟩
      ·have e9:(qb != pb)=true:=qsu YF
       obtain⟨m1,m2⟩:=Zd (p:=p) (c:=c) (s:=s) (k:=k) (by rw[Hav.out];simp;intro h;exact absurd h.symm YF);have M1:=F m1;have M2:=F m2;clear m1 m2 YF;go_wp2_with fail;rw[Hj.out];refine qrl ?_;rintro w2⟨⟨_,hb2⟩,rfl⟩;go_wp2_with fail;exact⟨⟨k+1,J,qgm,by rw[M1.out,M2.out];exact T2.on hb2,AH hb3 hb2⟩,qio⟩
  ·obtain rfl:k=Y p:=J
   go_wp2;go_ret3;exact⟨_,_,Q,T.o1,T.o2,hb⟩
end
end Go.Proofs.YtjpidgffdkjjeaaGreat
