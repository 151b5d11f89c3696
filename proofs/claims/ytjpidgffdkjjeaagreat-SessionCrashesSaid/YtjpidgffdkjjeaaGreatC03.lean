/- Contracts and plain laws. No condition. -/
import Derived.IntWalk
import Derived.LoopIn
import Derived.LoopNIn
import Derived.OwnWalkIn
import Derived.RangeFuncBox
import Derived.RangeFuncCalls
import Derived.RangeFuncLeaves
import Derived.Shelf.Abstract
import Derived.Stop.RegionWithIn
import Derived.TacticsInMore
import Derived.Test.YtjpidgffdkjjeaaGreatCA
import Derived.Test.YtjpidgffdkjjeaaGreatC00
set_option linter.all false
set_option maxHeartbeats 16000000
namespace Go.Proofs.YtjpidgffdkjjeaaGreat
open Go.Proofs.Tryz
open Go.Proofs.Tryz renaming prog->AE
open List renaming length->Y
open Go.World renaming cell?->E,setCell->Ai,alloc->Ao,frozen?->Bo
open Go.Value renaming int->U,slice->R,pointer->AI,agg->Ba,tuple->Be,nilFunc->Bl,bool->Av
open Go.IntKind renaming i64->O,u64->AA,u32->BF,u8->Cd
open Option renaming none->Z,some->I
open Go.Ending renaming returned->AN
open Go.Obj renaming cells->N
open Go renaming World->V,Value->An,Calls->AL,Addr->AS
open Go.RowKit renaming Below->Ag,Hid->Aj
set_option maxRecDepth 100000
open Go.RowKit
section
variable{P:Program}{j k sz:Nat}{o:Oper}{u:An}{α:Type}
theorem lJ{α:Type}{sz:Nat}{enc:α->List An}(hs:∀x,(enc x).length=sz):∀(l:List α) (k:Nat) (x x':α) (j:Nat) (u:An),l[k]?=I x->j<sz->enc x'=(enc x).set j u->(l.flatMap enc).set (k*sz+j) u=(l.set k x').flatMap enc
 | [],k,x,x',j,u,h,_,_=>by simp at h
 | y::l,0,x,x',j,u,h,hj,he=>by
  grind
 | y::l,k+1,x,x',j,u,h,hj,he=>by
  have h':l[k]?=I x:=qsu h;have e:(k+1)*sz+j=sz+(k*sz+j):=by rw[Ol];omega
  rw[List.flatMap_cons,e,List.set_append,AU (by rw[hs];omega),hs,show sz+(k*sz+j)-sz=k*sz+j from by omega,lJ hs l k x x' j u h' hj he,List.set_cons_succ,List.flatMap_cons]
section
variable {α:Type} {sz:Nat} {enc:α→List An} {w:V} {base e g n cap:Nat} {l:List α}
theorem Own.OI(h:Own w base e sz enc (R (I ⟨g,0,Z⟩) n cap) l)(hn:Y l=n)(hs:∀x,(enc x).length=sz){x:α}(hx:l[k]?=I x)(hu:(enc x)[j]?=I u):E w ⟨g,k*sz+j,Z⟩=I u:=by
 subst hn;have hk:=(EF.1 hx).1;have hj:j<sz:=by grind
 have hlt:k*sz+j<Y l*sz:=by
  have:=PX sz (show k+1<=Y l from hk)
  grind
 rw[World.ownsRow.cellAt h (k*sz+j) hlt,Vr hs l k x hx j hj];exact hu
def Own.OJ(h:Own w base e sz enc (R (I ⟨g,0,Z⟩) n cap) l)(hn:Y l=n)(j:Nat):Bo w ⟨g,j,Z⟩=false:=by subst hn;exact World.ownsRow.frozenAt h j
theorem Own.TH(h:Own w base e sz enc (R (I ⟨g,0,Z⟩) n cap) l)(hn:Y l=n)(hs:∀x,(enc x).length=sz){x x':α}(hx:l[k]?=I x)(hj:j<sz)(hu:enc x'=(enc x).set j u):
  Own (Ai w ⟨g,k*sz+j,Z⟩ u) base e sz enc (R (I ⟨g,0,Z⟩) n cap) (l.set k x'):=by
 subst hn;have:=(World.ownsRow.stored h (k*sz+j) u).1
 grind [Own,lJ]
end
theorem lL{enc:α->List An}(d:α)(cs:Array An)(AP:Nat)(hcs:cs.toList=enc d)(hs:∀x,(enc x).length=sz)(hsz:0<sz):(madeCells cs (AP*sz)).toList=(List.replicate AP d).flatMap enc:=by
 have hz:cs.size=sz:=by grind
 apply List.ext_getElem?;intro i;by_cases h:i<AP*sz
 ·have hq:i / sz<AP:=Nat.div_lt_of_lt_mul (by rw[Om];exact h)
  have hr:i%sz<sz:=IB _ hsz;have e:i=i / sz*sz+i%sz:=by rw[Om];exact(Nat.div_add_mod _ _).symm
  have h1:=Vr hs (List.replicate AP d) (i / sz) d (by simp[hq]) (i%sz) hr;rw[<-e]at h1;have hr2:i%sz<(enc d).length:=by grind
  rw[h1,CH hr2]
  have h2:(madeCells cs (AP*sz)).toList[i]?=I (cs[i%cs.size]!):=by
   unfold madeCells
   grind
  grind
 ·rw[QO (by rw[Array.length_toList,size_madeCells];omega),QO (by rw[Wr hs,Ue];omega)]
def yr{P:Program}{w:V}{ops:Array Oper}{rest:List Oper}{a:Act}{Bn:Exit->Act->V->Prop}(hgd:o.guard=Z)(l c:Operand)(t:TypeId)(hop:o.op=Op.makeSlice t l c)
  (e:TypeId) (i:TypeInfo) (z:An) (sz bytes:Nat) (ht:P.underlying t=I (.slice e)) (hi:P.info? e=I i) (hz:i.zero=I z) (hsize:i.size=sz) (hby:i.bytes=bytes) (hsz:0<sz)
  {α:Type} {enc:α->List An} (hs:∀x,(enc x).length=sz) (d:α) (hd:z.cells.toList=enc d) (kl kc:IntKind) (L C:Int) (n:Nat) (hl:a.eval l=.int kl L) (hc:a.eval c=.int kc C) (hL:L=(n:Int)) (hC:C=(n:Int)) (hn:bytes*n<=281474976710656) (Na:n<=maxLen)
  (h:∀w',Own w' w e sz enc (R (I ⟨w,0,Z⟩) n n) (List.replicate n d)->Ag w w w'->wpList P ops Bn rest (a.put o.dst (R (I ⟨w,0,Z⟩) n n)) w'):
  wpList P ops Bn (o::rest) a w:=by
 refine wpList_make_full w hgd l c t hop w e i z sz ht hi hz hsize kl kc L C n hl hc hL hC (qrf hby hn) Na (Bg _) (fun w' h1 h2=>h w' ?_ ⟨h2.os,h2.tape,h2.output,h2.size,fun k hk=>h2.block k hk AO⟩);unfold Own;rw[lL d z.cells n hd hs hsz]at h1;rw[Ue];exact h1
def qmK{w:V}{ops:Array Oper}{rest:List Oper}{o:Oper}{a:Act}{Bn:Exit->Act->V->Prop}{t e:TypeId}{z:An}{bytes:Nat}(ht:P.underlying t=I (.slice e))(hf:(P.info? e).map (fun i=>(i.zero,i.size,i.bytes))=I (I z,sz,bytes)){enc:α->List An}(hs:∀x,(enc x).length=sz)(d:α)(n:Nat)
  (h:∀w',Own w' w e sz enc (R (I ⟨w,0,Z⟩) n n) (List.replicate n d)->Ag w w w'->wpList P ops Bn rest (a.put o.dst (R (I ⟨w,0,Z⟩) n n)) w')
  (hn:bytes*n<=281474976710656:=by first | decide | omega) (Na:n<=maxLen:=by first | decide | (unfold maxLen;omega)) {kl kc:IntKind} {L C:Int} {lo co:Operand} (hgd:o.guard=Z:=by exact rfl) (ho:o.op=Op.makeSlice t lo co:=by exact rfl) (hl:a.eval lo=.int kl L:=by exact rfl) (hc:a.eval co=.int kc C:=by exact rfl) (hL:L=(n:Int):=by first | exact rfl | omega) (hC:C=(n:Int):=by first | exact rfl | omega) (hsz:0<sz:=by decide) (hd:z.cells.toList=enc d:=by exact rfl):wpList P ops Bn (o::rest) a w:=by
 obtain⟨i,hi,hz,h2,h3⟩:=IA hf;exact yr hgd lo co t ho e i z sz bytes ht hi hz h2 h3 hsz hs d hd kl kc L C n hl hc hL hC hn Na h
end
section
variable{k:Nat}
structure C8 where
 kind:Int
 bits:Int
def C8.enc(c:C8):List An:=[U O c.kind,U O c.bits]
def C8.BY(c:C8):Y c.enc=2:=Q
theorem C8.one(c:C8):∀u∈c.enc,u.oneCell'=true:=by simp[C8.enc,Value.oneCell']
def Arr.itm{w w':V}{B:Nat}{A:Option AS}{l:List C8}(h:Arr 2 C8.enc w B A l)(hk:k<Y l)(hb:Ag B w w'):
  ∃b off qk qb,A=I ⟨b,off,Z⟩/\b<B/\Aj (l[k]?=I ⟨qk,qb⟩)/\E w' ⟨b,off+k*2,Z⟩=I (U O qk)/\E w' ⟨b,off+k*2+1,Z⟩=I (U O qb):=by
 obtain⟨b,off,rfl,BN,hc⟩:=h.get hk hb;exact⟨b,off,_,_,Q,BN,CH hk,hc 0 _ Q,hc 1 _ Q⟩
def EI(k:Int):Bool:=AR k 1 4
def PY(x:C8):Int:=if EI x.kind=true then(if AR x.bits 0 65536=true then 0 else 3)else 2
def DZ:List C8->Int
 | []=>0
 | x::l=>if PY x=0 then DZ l else PY x
def CF(l:List C8):Int:=if 1000<Y l then 5 else DZ l
theorem ZW(l m:List C8)(h:DZ l=0):DZ (l++ m)=DZ m:=by
 induction l with
 | nil=>rfl
 | cons x l ih=>
  grind [DZ]
def yt{l:List C8}{x:C8}(h:DZ (l.take k)=0)(hx:l[k]?=I x)(h0:PY x=0):DZ (l.take (k+1))=0:=by
 rw[N8 hx,ZW _ _ h,DZ,Bd h0];rfl
def lO{l:List C8}{x:C8}(h:DZ (l.take k)=0)(hx:l[k]?=I x)(h0:PY x≠0):DZ l=PY x:=by
 obtain⟨hk,rfl⟩:=EF.1 hx
 conv=>lhs;rw[<-XU k l]
 rw[ZW _ _ h,PI hk,DZ,AU h0]
theorem yw{l:List C8}(h:1000<Y l):CF l=5:=by grind [CF]
theorem eL{l:List C8}(h:¬1000<Y l):CF l=DZ l:=by grind [CF,DZ]
theorem lQ(x:C8):(EI x.kind=false/\PY x=2)\/(EI x.kind=true/\AR x.bits 0 65536=false/\PY x=3)\/(EI x.kind=true/\AR x.bits 0 65536=true/\PY x=0):=by
 grind [EI,PY,AR]
theorem Yh{l:List C8}(h:DZ l=0){x:C8}(hx:l[k]?=I x):EI x.kind=true/\0<=x.bits/\x.bits<=65536:=by
 induction l generalizing k with
 | nil=>simp at hx
 | cons y l ih=>
  rw[DZ]at h;split at h
  ·rename_i h1
   cases k with
   | zero=>
    obtain rfl:y=x:=by grind
    rcases lQ y with⟨_,h2⟩ | ⟨_,_,h2⟩ | ⟨h3,h4,_⟩
    all_goals grind [EI,PY,DZ,AR]
   | succ k=>grind
  omega
theorem Ns{l:List C8}:CF l=0↔Y l<=1000/\DZ l=0:=by
 grind [CF,DZ]
def G8(p:Int->Bool):List C8->Int
 | []=>0
 | x::l=>(if p x.kind=true then x.bits else 0)+G8 p l
theorem ZX(p:Int->Bool)(l m:List C8):G8 p (l++ m)=G8 p l+G8 p m:=by
 induction l with
 | nil=>simp[G8]
 | cons x l ih=>grind [G8]
def yy(p:Int->Bool){l:List C8}{x:C8}(hx:l[k]?=I x):G8 p (l.take (k+1))=G8 p (l.take k)+(if p x.kind=true then x.bits else 0):=by
 rw[N8 hx,ZX];simp[G8]
theorem lR(p:Int->Bool){l:List C8}(h:DZ l=0):0<=G8 p l/\G8 p l<=65536*Y l:=by
 induction l with
 | nil=>simp[G8]
 | cons x l ih=>
  have hx:=Yh h (k:=0) (x:=x) Q
  grind [G8,DZ,EI]
theorem yz{l:List C8}(h:DZ l=0)(k:Nat):DZ (l.take k)=0:=by
 induction l generalizing k with
 | nil=>grind
 | cons x l ih=>
  cases k with
  | zero=>rfl
  | succ k=>
   grind [DZ]
theorem yA{l:List C8}(h:DZ l=0):G8 EI l=G8 (fun _=>true) l:=by
 induction l with
 | nil=>rfl
 | cons x l ih=>
  have hx:=(Yh h (k:=0) (x:=x) Q).1
  grind [G8,EI,DZ]
def PZ(l:List C8):Int:=if CF l=0 then G8 (fun _=>true) l else 0
inductive Ent where
 | no (e:Int)
 | yes (l:List C8)
def Ent.e:Ent->Int
 | .no e=>e
 | .yes _=>0
def Ent.l:Ent->List C8
 | .no _=>[]
 | .yes l=>l
def Fk(l:List C8)(k b:Int):Ent:=
 if CF l≠0 then .no (CF l)else if EI k=false then .no 2 else if AR b 0 65536=false then .no 3 else
 match l.getLast? with
 | none=> .yes [⟨k,b⟩]
 | some x=>if x.kind=k then(if 65536<x.bits+b then .no 8 else .yes (l.set (Y l-1) ⟨k,x.bits+b⟩))else if Y l=1000 then .no 5 else .yes (l++ [⟨k,b⟩])
end
def Ie(n a b:Int)(w:V):
  AL AE 72 #[U O n,U O a,U O b] w fun e w'=>e=AN (Av (AR n a b))/\w=w':=by
 go_in;go_wp2
 all_goals(go_ret;exact⟨JJ (by simp[AR];try omega),Q⟩)
def Rk(n:Int)(w:V):
  AL AE 75 #[U O n] w fun e w'=>e=AN (Av (EI n))/\w=w':=by
 go_in;go_wp2_with(go_at_call 72;refine mqv (Ie _ _ _ _) ?_);go_ret;exact⟨Q,Q⟩
def ZY(A:Option AS)(c:Nat)(l:List C8)(w:V)(h:Arr 2 C8.enc w w A l)(hl:Y l<=4611686018427387904):
  AL AE 128 #[R A (Y l) c] w fun e w'=>e=AN (U O (CF l))/\Ag w w w':=by
 by_cases h4:1000<Y l
 ·go_in
  go_wp2;go_ret;exact⟨Cg (yw h4).symm,Ae _ _⟩
 ·have h4':decide (1000<(Y l:Int))=false:=by simp;omega
  go_in;go_wp2;go_loopw [10] (fun i wr=>∃k:Nat,k<=Y l/\i=U O k/\DZ (l.take k)=0/\Ag w w wr) (fun i _=>Y l-(intOf i).toNat);exact⟨0,BM _,rfl,rfl,Ae _ _⟩
  obtain⟨k,hk,rfl,hall,hb⟩:=hrel;have Ea:=F hall;clear hall;by_cases hlt:k<Y l
  ·obtain⟨b,off,qk,qb,rfl,BN,hq,c0,c1⟩:=h.itm hlt hb
   have hb2:=AB hb (N #[U O qk,U O qb] 181);rcases lQ ⟨qk,qb⟩with⟨k1,e1⟩ | ⟨k1,k2,e1⟩ | ⟨k1,k2,e1⟩
   ·have K1:=F k1
    have fin:=F ((eL h4).trans ((lO Ea hq (by rw[e1];decide)).trans e1));clear k1 e1;go_wp2_with(go_at_call 75;refine(Rk _ _).mono ?_;rintro e w'⟨rfl,rfl⟩;rw[K1.out]);go_ret;exact⟨Cg fin.out.symm,hb2⟩
   ·have K1:=F k1
    have K2:=F k2;have fin:=F ((eL h4).trans ((lO Ea hq (by rw[e1];decide)).trans e1));clear k1 k2 e1;go_wp2_with(first | (go_at_call 75;refine(Rk _ _).mono ?_;rintro e w'⟨rfl,rfl⟩;rw[K1.out]) | (go_at_call 72;refine(Ie _ _ _ _).mono ?_;rintro e w'⟨rfl,rfl⟩;rw[K2.out]));go_ret;exact⟨Cg fin.out.symm,hb2⟩
   ·have K1:=F k1
    have K2:=F k2;have fin:=F (yt Ea hq e1);clear k1 k2 e1;go_wp2_with(first | (go_at_call 75;refine(Rk _ _).mono ?_;rintro e w'⟨rfl,rfl⟩;rw[K1.out]) | (go_at_call 72;refine(Ie _ _ _ _).mono ?_;rintro e w'⟨rfl,rfl⟩;rw[K2.out]));go_roundw;exact⟨k+1,J,qgm,fin.out,hb2⟩;simp[intOf];omega
  ·go_wp2
   go_ret;exact⟨Cg (by rw[eL h4,<-Ea.out,EG J]),hb⟩
def yB(A:Option AS)(c:Nat)(l:List C8)(w:V)(h:Arr 2 C8.enc w w A l)(hl:Y l<=4611686018427387904):
  AL AE 74 #[R A (Y l) c,.func (.func 75) #[] #[]] w fun e w'=>e=AN (Be #[U O (PZ l),U O (CF l)])/\Ag w w w':=by
 by_cases h0:CF l=0
 ·obtain⟨Ll,hf⟩:=Ns.1 h0
  have cC:=ZY A c l w h hl;rw[h0]at cC;have fin:Aj (PZ l=G8 EI l):=F (by unfold PZ;rw[Bd h0,yA hf]);have Hf:=F hf;have H0:=F h0;clear h0 hf;go_in;go_wp2_with(go_at_call 128;refine gqz cC fun w1 hb1=>?_);go_loopw [7,17] (fun s i wr=>∃k:Nat,k<=Y l/\i=U O k/\s=U O (G8 EI (l.take k))/\Ag w w wr) (fun _ i _=>Y l-(intOf i).toNat);exact⟨0,BM _,rfl,rfl,hb1⟩
  obtain⟨k,hk,rfl,rfl,hb⟩:=hrel;have sb:=lR EI (yz Hf k);rw[DC]at sb;by_cases hlt:k<Y l
  ·obtain⟨b,off,qk,qb,rfl,BN,hq,c0,c1⟩:=h.itm hlt hb
   have hb2:=AB hb (N #[U O qk,U O qb] 181);have st:=F (yy EI hq);obtain⟨_,q1,q2⟩:=Yh Hf hq;simp only at q1 q2;have sm:min k (Y l)=k:=J;rw[sm]at sb;obtain⟨s,hs⟩:=Az (G8 EI (l.take k));rw[hs]at sb ⊢;have Hs:=F hs;clear hs sm;cases k1:EI qk
   rotate_left
   rotate_left
   all_goals
    have K1:=F k1
    clear k1;go_wp2_with(go_at_call 75;refine(Rk _ _).mono ?_;rintro e w'⟨rfl,rfl⟩;rw[K1.out]);go_roundw
    case rel=>exact⟨k+1,J,qgm,by rw[st.out,Hs.out];simp[K1.out],hb2⟩
    case measure=>simp[intOf];omega
  ·have e1:Aj (l.take k=l):=F (EG J)
   rw[e1.out];go_wp2;go_ret2;exact⟨by rw[fin.out,H0.out];rfl,hb⟩
 ·have h0':(CF l != 0)=true:=qsu h0
  have fin:Aj (PZ l=0):=F (by unfold PZ;rw[AU h0]);go_in;go_wp2_with(go_at_call 128;refine gqz (ZY A c l w h hl) fun w1 hb1=>?_);go_ret2;exact⟨by rw[fin.out];rfl,hb1⟩
def lS(A:Option AS)(c:Nat)(l:List C8)(w:V)(h:Arr 2 C8.enc w w A l)(hl:Y l<=4611686018427387904):
  AL AE 22 #[R A (Y l) c] w fun e w'=>e=AN (Be #[U O (PZ l),U O (CF l)])/\Ag w w w':=by
 go_in;go_wp2_with(go_at_call 74;refine gqz (yB A c l w h hl) fun w1 hb1=>?_);go_ret2;exact⟨Q,hb1⟩
def Jl(f:Nat->Nat):Prop:=∀x y,f (x ^^^ y)=f x ^^^ f y
theorem Jl.zero{f:Nat->Nat}(h:Jl f):f 0=0:=by
 have:=h 0 0
 grind
theorem Jl.xor{f g:Nat->Nat}(hf:Jl f)(hg:Jl g):Jl (fun x=>f x ^^^ g x):=fun x y=>by
 grind [Jl]
theorem Jl.bit(k c:Nat):Jl (fun x=>if x.testBit k=true then c else 0):=fun x y=>by
 grind
def Jl.shl(k:Nat):Jl (fun x=>x <<< k):=fun x y=>Nat.shiftLeft_xor_distrib
def gp(w:Nat):Nat:=if w=8 then 283 else if w=16 then 65579 else 4294967437
def xt(w a:Nat):Nat:=(a <<< 1) ^^^ (if a.testBit (w-1)=true then gp w else 0)
def eT(w:Nat):Jl (xt w):=Jl.xor (Jl.shl 1) (Jl.bit _ _)
def gm(w a b:Nat):Nat:=if h:b=0 then 0 else(if b%2=1 then a else 0) ^^^ gm w (xt w a) (b / 2)
termination_by b
decreasing_by omega
def za(w a:Nat):gm w a 0=0:=by rw[gm];simp
theorem ma(w a b:Nat):gm w a b=(if b%2=1 then a else 0) ^^^ gm w (xt w a) (b / 2):=by
 grind [gm,xt]
def clN(a b:Nat):Nat->Nat
 | 0=>0
 | k+1=>clN a b k ^^^ (if b.testBit k=true then a <<< k else 0)
def rdN(w:Nat):Nat->Nat->Nat
 | 0,n=>n
 | k+1,n=>rdN w k (n ^^^ (if n.testBit (w+k)=true then gp w <<< k else 0))
def rm(w a b:Nat):Nat:=rdN w (w-1) (clN a b w)
def Wd(w:Nat):Prop:=w=8\/w=16\/w=32
theorem Jl.lt{f:Nat->Nat}(hf:Jl f)(m:Nat):∀w,(∀k,k<w->f (2^k)<2^m)->∀x,x<2^w->f x<2^m
 | 0,_,x,hx=>by
  obtain rfl:x=0:=J;rw[hf.zero];grind
 | w+1,h,x,hx=>by
  rcases D4 x (2^w)with h1 | h1
  ·exact Jl.lt hf m w (fun k hk=>h k J) x h1
  ·have h2:x ^^^ 2^w<2^w:=by
    apply Nat.lt_pow_two_of_testBit;intro i hi;rw[Nat.testBit_xor];rcases D4 i (w+1)with h3 | h3
    ·obtain rfl:i=w:=J
     have:x.testBit i=true:=by
      rw[Nat.testBit_eq_decide_div_mod_eq]
      have h4:x / 2^i=1:=by
       rw[LS]at hx;exact Nat.div_eq_of_lt_le J J
      grind
     grind
    ·have e1:=Nat.testBit_lt_two_pow (Ck hx (LT AC h3))
     grind
   have h3:x=(x ^^^ 2^w) ^^^ 2^w:=by grind
   rw[h3,hf];exact VF (Jl.lt hf m w (fun k hk=>h k J) _ h2) (h w J)
def zb:∀k<8,xt 8 (2^k)<2^8:=by decide+kernel
def zd:∀k<16,xt 16 (2^k)<2^16:=by decide+kernel
def ze:∀k<32,xt 32 (2^k)<2^32:=by decide+kernel
def me{w a:Nat}(hw:Wd w)(ha:a<2^w):xt w a<2^w:=by
 rcases hw with rfl | rfl | rfl
 ·exact(eT 8).lt 8 8 zb a ha
 ·exact(eT 16).lt 16 16 zd a ha
 ·exact(eT 32).lt 32 32 ze a ha
theorem mf{w:Nat}(hw:Wd w)(b:Nat):∀a,a<2^w->gm w a b<2^w:=by
 induction b using Nat.strongRecOn with
 | ind b ih=>
  intro a ha;by_cases h:b=0
  ·grind [gm,Wd]
  ·rw[ma]
   refine VF ?_ (ih (b / 2) J _ (me hw ha))
   grind
def OL(w key:Nat)(cs:List Nat):Nat:=cs.foldl (fun h c=>gm w (h ^^^ c) key) 0
theorem zg(w key:Nat)(cs:List Nat)(c:Nat):OL w key (cs++ [c])=gm w (OL w key cs ^^^ c) key:=by
 grind [OL,gm]
def eU(w:Nat)(v:V)(hw:Wd w):AL AE 189 #[U O w] v fun e w'=>e=AN (U AA (gp w))/\v=w':=by
 rcases hw with rfl | rfl | rfl
 all_goals(
  go_in;go_wp2;go_ret;exact⟨Q,Q⟩)
theorem zh{w c:Nat}(hw:1<=w)(hc:c<2^w):((c:Int)*2 / 2^w != 0)=c.testBit (w-1):=by
 obtain⟨k,rfl⟩:∃k,w=k+1:=⟨w-1,J⟩
 have e:(c:Int)*2 / 2^(k+1)=((c / 2^k:Nat):Int):=by
  have:(c:Int)*2 / 2^(k+1)=((c*2 / 2^(k+1):Nat):Int):=AO;rw[this,LS,Nat.mul_div_mul_right _ _ AC]
 rw[e,Nat.add_sub_cancel,Nat.testBit_eq_decide_div_mod_eq];rw[LS]at hc;have hlt:c / 2^k<2:=by rw[Nat.div_lt_iff_lt_mul (Ow AC)];omega
 grind
theorem zi{d:Nat}(hd:d<4294967296):(bits BinOp.and IntKind.u64 (d:Int) 1 == 1)=decide (d%2=1):=by
 rw[show(1:Int)=((1:Nat):Int)from rfl,u64_and_nat d 1 J J,Nat.and_one_is_mod]
 grind
def zj(c:Nat):c <<< 1=c*2:=J
theorem zl(w:Nat):gp w<4294967437+1:=by grind [gp]
def eY{a b:Nat}(ha:a<9000000000)(hb:b<9000000000):bits .xor .u64 (a:Int) (b:Int)=((a ^^^ b:Nat):Int):=u64_xor_nat a b J J
def zm(w a b:Nat)(v:V)(hw:Wd w)(ha:a<2^w)(hb:b<2^w):AL AE 147 #[U O w,U AA a,U AA b] v fun e w'=>e=AN (U AA (gm w a b))/\v=w':=by
 have fe:w<=32:=by rcases hw with h | h | h <;> omega
 have p32:2^w<=4294967296:=LT (n:=2) AC fe;have Hw:=F hw;clear hw;go_in;go_wp2;go_loop [1,2,6] (fun x y n=>∃c d m:Nat,x=U AA c/\y=U AA d/\n=U AA m/\c<2^w/\d<=b/\m<2^w/\Aj (m ^^^ gm w c d=gm w a b)) (fun _ y _=>(intOf y).toNat);exact⟨a,b,0,rfl,rfl,rfl,ha,Bg _,Ow AC,F AO⟩
 obtain⟨c,d,m,rfl,rfl,rfl,hc,hd,hm,hinv⟩:=hrel;rcases Nc d with rfl | QU
 ·go_wp2
  go_ret;exact⟨Cg (by have:=hinv.out;rw[za,Nat.xor_zero]at this;rw[this]),Q⟩
 ·have c32:c<4294967296:=J
  have d32:d<4294967296:=J;have m32:m<4294967296:=J;have hb1:=zh (w:=w) (by rcases Hw.out with h | h | h <;> omega) hc;have hb2:=zi d32;have st:=F (ma w c d);have hx:=me Hw.out hc;have Hx:=F hx;have Hc:=F hc;have Hm:=F hm;have hxe:Aj (xt w c=(c*2) ^^^ (if c.testBit (w-1)=true then gp w else 0)):=F (by unfold xt;rw[zj]);have gl:=zl w
  have X1:bits .xor .u64 ((c:Int)*2) (gp w:Int)=((c*2 ^^^ gp w:Nat):Int):=by
   have:=eY (a:=c*2) (b:=gp w) J J;rw[<-this];simp
  have X2:=eY (a:=m) (b:=c) J J;have Lj:d / 2<d:=J;have hdb:d / 2<=b:=J;have ed:(d:Int) / 2=((d / 2:Nat):Int):=J;have HX1:=F X1;have HX2:=F X2;have Hed:=F ed;clear hc hm p32 ha hb hx X1 X2 ed hd;cases h1:c.testBit (w-1) <;> by_cases h2:d%2=1
  all_goals
   rw[h1]at hb1;have Hh1:=F h1;have Hh2:=F h2
   first
    | (rw[Er h2]at hb2)
    | (rw[Ds h2]at hb2)
   clear h1 h2;go_wp2_with(go_at_call 189;refine mqv (eU _ _ Hw.out) ?_);refine⟨⟨xt w c,d / 2,if d%2=1 then m ^^^ c else m,?_,by rw[Hed.out],?_,Hx.out,hdb,?_,F ?_⟩,by rw[Hed.out];simp[intOf];omega⟩
   ·rw[hxe.out,Hh1.out]
    first
     | (rw[HX1.out];rfl)
     | simp
   ·first
     | (rw[HX2.out,Bd Hh2.out])
     | (rw[AU Hh2.out])
   ·split
    ·exact VF Hm.out Hc.out
    ·exact Hm.out
   ·rw[<-hinv.out,st.out]
    split
    ·rw[Nat.xor_assoc]
    ·simp
section
variable{m:List Bool}{w:Nat}
def DW(l:List Bool):Nat:=l.foldl (fun n b=>2*n+b.toNat) 0
theorem mg(l:List Bool)(b:Bool):DW (l++ [b])=2*DW l+b.toNat:=by grind [DW]
theorem ZZ(l:List Bool):DW l<2^Y l:=by
 have go:∀n (l:List Bool),Y l=n->DW l<2^n:=by
  intro n
  induction n with
  | zero=>grind [DW]
  | succ n ih=>
   intro l hl;rcases List.eq_nil_or_concat l with rfl | ⟨l',b,rfl⟩
   ·simp at hl
   ·simp only[List.concat_eq_append]at*
    have:=ih l' (by grind);rw[mg,LS];cases b <;> simp <;> omega
 grind
def zn{l:List Bool}{k:Nat}{b:Bool}(h:l[k]?=I b):DW (l.take (k+1))=2*DW (l.take k)+b.toNat:=by
 obtain⟨hk,rfl⟩:=EF.1 h;rw[Wu hk,mg]
def Q9(w:Nat)(m:List Bool):List Nat:=if h:0<w/\w<=Y m then DW (m.take w)::Q9 w (m.drop w)else[(2*DW m+1)*2^(w-1-Y m)]
termination_by (Y m)
decreasing_by simp;omega
def Yl(w:Nat)(m:List Bool):List Nat:=1::Q9 w m
theorem mh(hw:0<w)(h:w<=Y m):Q9 w m=DW (m.take w)::Q9 w (m.drop w):=by grind [Q9,DW]
theorem fh(h:Y m<w):Q9 w m=[(2*DW m+1)*2^(w-1-Y m)]:=by grind [Q9,DW]
theorem fm(hw:0<w):∀n (m:List Bool),Y m<=n->∀x∈Q9 w m,x<2^w:=by
 intro n
 induction n with
 | zero=>
  intro m hm x hx;obtain rfl:=WC (by omega:Y m=0);rw[fh J]at hx;simp[DW]at hx;rw[hx];exact WE AC J
 | succ n ih=>
  intro m hm x hx;rcases D4 (Y m) w with h | h
  ·rw[fh h]at hx
   simp only[List.mem_singleton]at hx;have h1:=ZZ m;have h2:2*DW m+1<2^(Y m+1):=J;rw[hx,show w=(Y m+1)+(w-1-Y m)from by omega,Ou,show Y m+1+(w-1-Y m)-1-Y m=w-1-Y m from by omega];exact WK h2 (Ow AC)
  ·rw[mh hw h]at hx
   rcases List.mem_cons.1 hx with rfl | hx
   ·have:=ZZ (m.take w)
    grind
   grind
theorem mi(hw:0<w)(m:List Bool):∀x∈Yl w m,x<2^w:=by
 intro x hx;rcases List.mem_cons.1 hx with rfl | hx
 ·grind
 ·exact fm hw _ m (Bg _) x hx
end
theorem mj{n:Nat}(h:n<4611686018427387904):bits .or .u64 ((n:Int)*2) 1=((2*n+1:Nat):Int):=by
 have e:=u64_or_nat (n*2) 1 J J
 have e2:(n*2) ||| 1=2*n+1:=by
  have:=Nat.two_pow_add_eq_or_of_lt (i:=1) (b:=1) AC n
  grind
 grind
def fo(A:Option AS)(c:Nat)(l:List Bool)(w:V)(h:Arr 1 C4 w w A l)(hl:Y l<=40):
  AL AE 191 #[R A (Y l) c] w fun e w'=>e=AN (U AA (DW l))/\w=w':=by
 go_in;go_wp2;go_loop [2,7] (fun n i=>∃k:Nat,k<=Y l/\i=U O k/\n=U AA (DW (l.take k))) (fun _ i=>Y l-(intOf i).toNat);exact⟨0,BM _,rfl,rfl⟩
 obtain⟨k,hk,rfl,rfl⟩:=hrel;by_cases hlt:k<Y l
 ·obtain⟨b,off,x,rfl,BN,hx,c0⟩:=h.bool hlt (Ae _ _)
  have st:=F (zn hx);have bl:=ZZ (l.take k);have bl2:DW (l.take k)<1099511627776:=Ck bl (LT (by decide:0<2) (show(l.take k).length<=40 by rw[DC];omega));obtain⟨n,hn⟩:=Az (DW (l.take k));rw[hn]at bl2 st ⊢;clear bl hn;have o1:=mj (n:=n) J;cases x
  ·go_wp2
   go_round
   case rel=>exact⟨k+1,J,qgm,by rw[st.out];go_num⟩
   case measure=>simp[intOf];omega
  ·go_wp2
   go_round
   case rel=>exact⟨k+1,J,qgm,by rw[st.out];rfl⟩
   case measure=>simp[intOf];omega
 ·have e1:Aj (l.take k=l):=F (EG J)
  rw[e1.out];go_wp2;go_ret;exact⟨Q,Q⟩
def zo{a k:Nat}(ha:a<8589934592)(hk:k<=31):IntKind.u64.wrap ((a:Int)*2^k)=((a <<< k:Nat):Int)/\a <<< k<2^64:=by
 have h1:a <<< k<2^64:=by
  rw[Nat.shiftLeft_eq]
  calc a*2^k<2^33*2^k:=WK J (Ow AC)
   _<=2^33*2^31:=LQ _ (LT AC hk)
   _=2^64:=AC
 refine⟨?_,h1⟩;have e:(a:Int)*2^k=((a <<< k:Nat):Int):=by rw[Nat.shiftLeft_eq];simp
 rw[e];generalize a <<< k=x at*;simp[IntKind.wrap,IntKind.bits,IntKind.signed];omega
def mr{a b:Nat}(ha:a<2^64)(hb:b<2^64):bits .xor .u64 (a:Int) (b:Int)=((a ^^^ b:Nat):Int):=u64_xor_nat a b ha hb
section
variable{A:Option AS}{B:Nat}{w:V}
def Ym(n:Nat):List An:=[U AA n]
def mv(c:Nat):(Ym c).length=1:=Q
theorem Arr.u64{w':V}{k:Nat}{l:List Nat}(h:Arr 1 Ym w B A l)(hk:k<Y l)(hb:Ag B w w'):
  ∃b off x,A=I ⟨b,off,Z⟩/\b<B/\Aj (l[k]?=I x)/\E w' ⟨b,off+k,Z⟩=I (U AA x):=by
 obtain⟨b,off,rfl,BN,hc⟩:=h.get hk hb;exact⟨b,off,_,Q,BN,CH hk,by have:=hc 0 _ Q;grind⟩
theorem Yn:(prog.info? 4).map (fun i=>(i.zero,i.size,i.bytes))=I (I (Av false),1,1):=AG
theorem Arr.drop{α:Type}{sz:Nat}{enc:α->List An}{w:V}{B b off:Nat}{l:List α}(h:Arr sz enc w B (I ⟨b,off,Z⟩) l)(n:Nat):Arr sz enc w B (I ⟨b,off+n*sz,Z⟩) (l.drop n):=fun hl=>by
 obtain⟨b',ZT,e,BN,hc⟩:=h (by grind);simp only[Option.some.injEq,Addr.mk.injEq,and_true]at e;obtain⟨rfl,rfl⟩:=e
 grind
theorem WT{α:Type}{sz:Nat}{enc:α->List An}{l:List α}(h:Arr sz enc w B A l)(n:Nat):Arr sz enc w B A (l.take n):=fun hl=>by
 obtain⟨b,off,rfl,BN,hc⟩:=h (by grind)
 grind
def lenOf:An->Nat
 | .slice _ n _=>n
 | _=>0
end
def Mi(w key:Nat)(m:List Bool):Nat:=OL w key (Yl w m)
def II(w:Int):Bool:=decide (w=8\/w=16\/w=32)
def Gb(w:Int)(key:Nat):Int:=if II w=true then(if key<2^w.toNat then 0 else 3)else 2
theorem fH(w:Int):(∃n:Nat,w=(n:Int)/\Wd n/\II w=true)\/(II w=false/\(w == 8)=false/\(w == 16)=false/\(w == 32)=false):=by
 by_cases h:w=8\/w=16\/w=32
 ·left
  rcases h with rfl | rfl | rfl
  ·exact⟨8,Q,.inl Q,AC⟩
  ·exact⟨16,Q,.inr (.inl Q),AC⟩
  ·exact⟨32,Q,.inr (.inr Q),AC⟩
 grind [Wd,II]
theorem nf{key w:Nat}:((key:Int) / 2^w != 0)=decide (¬key<2^w):=by
 have e:(key:Int) / 2^w=((key / 2^w:Nat):Int):=AO;rw[e,PO];have:key / 2^w=0↔key<2^w:=by rw[Nat.div_eq_zero_iff];grind
 grind
def Aab(w:Int)(v:V)(h8:(w == 8)=false)(h16:(w == 16)=false)(SF:(w == 32)=false):AL AE 189 #[U O w] v fun e w'=>e=AN (U AA 0)/\v=w':=by
 go_in;go_wp2;go_ret;exact⟨Q,Q⟩
def nh(w:Int)(key c:Nat)(A:Option AS)(v:V)(h:Arr 1 Ym v v A [key]):AL AE 145 #[U O w,R A 1 c] v fun e w'=>e=AN (U O (Gb w key))/\v=w':=by
 rcases fH w with⟨n,rfl,hn,hB⟩ | ⟨hB,h8,h16,SF⟩
 ·have gne:((gp n:Int) == 0)=false:=by rcases hn with rfl | rfl | rfl <;> decide
  obtain⟨b,off,y,rfl,BN,hy,c0⟩:=h.u64 (k:=0) AO (Ae _ _);obtain rfl:y=key:=qsu hy.out.symm;rw[Sz]at c0;have hs:=nf (key:=y) (w:=n);have hE:Aj (Gb (n:Int) y=if y<2^n then 0 else 3):=F (by unfold Gb;rw[Bd hB];simp);have n32:n<=32:=by rcases hn with h | h | h <;> omega
  have Hn:=F hn;clear hn hB hy;by_cases hk:y<2^n
  ·rw[Ds (qsu hk)]at hs
   have fin:Aj (Gb (n:Int) y=0):=F (by rw[hE.out,Bd hk]);clear hk hE;go_in;go_wp2_with(go_at_call 189;refine mqv (eU _ _ Hn) ?_);go_loop [12] (fun i=>∃k:Nat,k<=1/\i=U O k) (fun i=>1-(intOf i).toNat);exact⟨0,J,rfl⟩
   obtain⟨k,hk,rfl⟩:=hrel;rcases(show k=0\/k=1 by omega)with rfl | rfl
   ·go_wp2_with fail
    exact⟨⟨1,J,Q⟩,by simp[intOf]⟩
   ·go_wp2_with fail
    go_ret;exact⟨Cg fin.out.symm,Q⟩
  ·rw[Er (qsu hk)]at hs
   have fin:Aj (Gb (n:Int) y=3):=F (by rw[hE.out,AU hk]);clear hk hE;go_in;go_wp2_with(go_at_call 189;refine mqv (eU _ _ Hn) ?_);go_loop [12] (fun i=>i=U O 0) (fun i=>1-(intOf i).toNat);exact rfl
   subst hrel;go_wp2;go_ret;exact⟨Cg fin.out.symm,Q⟩
 ·have fin:Aj (Gb w key=2):=F (by unfold Gb;rw[AU (by simp[hB])])
  clear hB;go_in;go_wp2_with(go_at_call 189;refine mqv (Aab _ _ h8 h16 SF) ?_);go_ret;exact⟨Cg fin.out.symm,Q⟩
section
variable{key n:Nat}{m:List Bool}
def Ih(w:Int)(key:Nat)(m:List Bool):Int:=if Gb w key=0 then(if 65536<Y m then 4 else 0)else Gb w key
def Mj(w:Int)(key:Nat)(m:List Bool):Nat:=if Ih w key m=0 then Mi w.toNat key m else 0
theorem Aac{w:Int}(h:II w=false):Ih w key m=2/\Mj w key m=0:=by
 have e:Gb w key=2:=by grind [Gb,II]
 grind [Ih,Mj,II,Gb]
theorem Aad(h:II (n:Int)=true)(hk:key<2^n)(hl:65536<Y m):Ih n key m=4/\Mj n key m=0:=by
 have e:Gb n key=0:=by grind [Gb,II]
 grind [Ih,Mj,II,Gb]
theorem Aae(h:II (n:Int)=true)(hk:key<2^n)(hl:¬65536<Y m):Ih n key m=0/\Mj n key m=Mi n key m:=by
 have e:Gb n key=0:=by grind [Gb,II]
 grind [Ih,Mj,Mi,II,Gb]
end
open Go.Shelf
section
attribute [local go_sem] Oper.semAt_some
def Aaf(w:Int)(A:Option AS)(n c:Nat)(v:V):AL AE 146 #[U O w,R A n c] v fun e v'=>
  e=AN (.func (.func 190) #[] #[AI (I ⟨↑v+1,0,Z⟩),AI (I ⟨v,0,Z⟩)])/\v'=(v.alloc (N #[U O w] 3)).alloc (N #[R A n c] 44):=by
 go_in;go_wp2;go_ret;simp
def Aag(l w:Nat)(A:Option AS)(c:Nat)(m:List Bool)(mb wb:Nat)(v0 W:V)(Bi:List Nat->V->Prop)(hw:Wd w)
  (hY:∀(pre:List Nat) (x:Nat) (W:V),Bi pre W->x<2^w->YieldAt Fence.wide 8 AE l #[U AA x] W fun e W'=>
   e=AN (Av true)/\Bi (pre++ [x]) W'/\E W' ⟨mb,0,Z⟩=E W ⟨mb,0,Z⟩/\Bo W' ⟨mb,0,Z⟩=Bo W ⟨mb,0,Z⟩)
  (hS:∀pre W x,Bi pre W->Bi pre (Ai W ⟨mb,0,Z⟩ x)) (hD:∀pre W,Bi pre W->Bi pre W.drew)
  (hB:∀pre W,Bi pre W->Ag v0 v0 W/\E W ⟨wb,0,Z⟩=I (U O w))
  (h:Arr 1 C4 v0 v0 A m) (hl:Y m<=100000) (hc:Y m<=c) (Rp:c<=maxLen)
  (h0:Bi [] W) (hm:E W ⟨mb,0,Z⟩=I (R A (Y m) c)) (hf:Bo W ⟨mb,0,Z⟩=false):
  CallsIn Fence.wide 9 AE 190 #[.func (.yield l) #[] #[],AI (I ⟨mb,0,Z⟩),AI (I ⟨wb,0,Z⟩)] W fun e W'=>(∃v,e=AN v)/\Bi (Yl w m) W':=by
 have w0:0<w/\w<=32:=by rcases hw with h | h | h <;> omega
 obtain⟨w0,w32⟩:=w0;have Hlt:=F (mi w0 m);unfold maxLen at Rp;have hF:∀f,Fence.wide.fn f:=fun _=>trivial
 refine callsIn_of_wp func190 Q trivial ?_ Q;simp only[Tryz.ntmps190,List.size_toArray,List.length_cons,List.length_nil,Nat.reduceAdd,Nat.reduceSub,Array.replicate_succ,Array.replicate_zero,List.push_toArray,List.append_toArray,List.nil_append,List.cons_append];obtain⟨fn,tmps,assign,body,hy,hR⟩:=hY [] 1 W h0 (Nat.one_lt_two_pow J);change(Instr.yield l #[Value.int .u64 1]).run AE W=_ at hy;have HY:=F hY;have HS:=F hS;have HD:=F hD;have HB:=F hB;clear hY hS hD hB
 gi_wp2
 refine hR.mono ?_;rintro e W1⟨rfl,hJ1,hm1,PR⟩;rw[hm]at hm1;rw[hf]at PR;clear hR hy hm hf
 gi_wp2
 gi_loopw [] (fun wr=>∃(D:List Nat) (r:List Bool) (A':Option AS) (c':Nat),Bi D wr/\Aj (D++ Q9 w r=Yl w m)/\Arr 1 C4 v0 v0 A' r/\E wr ⟨mb,0,Z⟩=I (R A' (Y r) c')/\Bo wr ⟨mb,0,Z⟩=false/\Y r<=c'/\c'<=c/\Y r<=Y m) (fun wr=>lenOf ((E wr ⟨mb,0,Z⟩).getD (U O 0)))
 case atStart=>exact⟨[1],m,A,c,hJ1,F rfl,h,hm1,PR,hc,Bg _,Bg _⟩
 case round=>
  clear hm1 PR;obtain⟨D,r,A',c',hJ,hinv,ar,hm,hf,hrc,hcc,hrl⟩:=hrel;obtain⟨hb,hwb⟩:=HB.out D wr hJ;rcases D4 (Y r) w with hlt | D8
  ·have FU:=ZZ r
   have hX:Aj (Q9 w r=[(2*DW r+1)*2^(w-1-Y r)]):=F (fh hlt);have OP:(2*DW r+1)*2^(w-1-Y r)<2^w:=fm w0 _ r (Bg _) _ (by rw[hX.out];simp);have bl2:DW r<4294967296:=Ck FU (LT (by decide:0<2) (show Y r<=32 by omega));have o1:=mj (n:=DW r) J;obtain⟨s1,_⟩:=zo (a:=2*DW r+1) (k:=w-1-Y r) J J;obtain⟨q,hq⟩:∃q,q=w-1-Y r:=⟨_,Q⟩
   have e1:(w:Int)-1-(Y r:Int)=(q:Int):=J;have e2:IntKind.i64.wrap ((w:Int)-1)=(w:Int)-1:=IntWalk.i64_in _ J;have e3:IntKind.i64.wrap (q:Int)=(q:Int):=IntWalk.i64_in _ J;have e4:IntKind.u64.wrap ((DW r:Int)*2)=(DW r:Int)*2:=IntWalk.u64_in _ J;rw[<-hq]at s1 OP hX;rw[Nat.shiftLeft_eq]at s1;obtain⟨AP,hN⟩:=Az (DW r);have cN:=fo A' c' r wr.drew ((ar.on hb).on (Ae _ _).drew) J;rw[hN]at cN s1 OP hX o1 bl2 e4;obtain⟨X,hXe⟩:=Az ((2*AP+1)*2^q);rw[hXe]at s1 OP hX;rw[show((2*AP+1:Nat):Int)=2*(AP:Int)+1 from by omega]at s1;obtain⟨fn2,fI,fJ,fK,hy2,FV⟩:=HY.out D X wr.drew (HD.out _ _ hJ) OP;have Hq:=F hq;have n0:(0:Int)<=(q:Int):=J;clear hXe OP hN FU hq
   gi_wp2
   gi_region_with (first | (gi_at_call 191;refine(JU.2 cN).mono ?_;rintro e w' ⟨rfl,rfl⟩) | (refine FV.mono ?_;rintro e W2 ⟨rfl,hJ2,Nh,hf2⟩))
   all_goals(
    try gi_wp2
    go_end0;exact⟨⟨_,Q⟩,by rw[<-hinv.out,hX.out];exact hJ2⟩)
  ·have hX:Aj (Q9 w r=DW (r.take w)::Q9 w (r.drop w)):=F (mh w0 D8)
   have OP:DW (r.take w)<2^w:=fm w0 _ r (Bg _) _ (by rw[hX.out];simp);have hlw:(r.take w).length=w:=by rw[DC];omega
   have cN:=fo A' c' (r.take w) wr (WT (ar.on hb) w) J;rw[hlw]at cN;obtain⟨X,hXe⟩:=Az (DW (r.take w));rw[hXe]at cN OP hX;obtain⟨fn2,fI,fJ,fK,hy2,FV⟩:=HY.out D X wr hJ OP;have i1:(w:Int)<=(c':Int):=J;have hld:Aj ((r.drop w).length=Y r-w):=F SI;obtain⟨b,off,x0,hA',BN,_,_⟩:=ar.bool (k:=0) J (Ae _ _);subst hA';have ard:=ar.drop w;clear hXe OP hlw;have arm:Aj (∀W2,Bi (D++ [X]) W2->E W2 ⟨wb,0,Z⟩=I (U O w)):=F (fun W2 h=>(HB.out _ W2 h).2);by_cases hcw:c'=w
   ·subst hcw
    have hrw:Y r=c':=J;have aq:Aj (r.drop c'=[]):=F (WB J);rw[hrw]at hm;clear hcc
    gi_wp2_with (first | (gi_at_call 191;refine(JU.2 cN).mono ?_;rintro e w' ⟨rfl,rfl⟩) | (refine FV.mono ?_;rintro e W2⟨rfl,hJ2,Nh,hf2⟩;rw[hm]at Nh;rw[hf]at hf2;have Aah:=arm.out W2 hJ2))
    go_roundw
    case rel=>exact⟨D++ [X],r.drop c',I ⟨b,off,Z⟩,0,HS.out _ _ _ hJ2,F (by rw[List.append_assoc,<-hinv.out,hX.out];rfl),qrf aq.out Arr.nil,by rw[aq.out];exact TK _ _ _ (by rw[Nh];rfl),by rw[GX];exact hf2,by rw[aq.out];exact BM _,BM _,by rw[aq.out];exact BM _⟩
    case measure=>rw[TK _ _ _ (by rw[Nh];rfl),hm];simp only[Option.getD_some,lenOf];omega
   ·gi_wp2_with (first | (gi_at_call 191;refine(JU.2 cN).mono ?_;rintro e w' ⟨rfl,rfl⟩) | (refine FV.mono ?_;rintro e W2⟨rfl,hJ2,Nh,hf2⟩;rw[hm]at Nh;rw[hf]at hf2;have Aah:=arm.out W2 hJ2))
    go_roundw
    case rel=>exact⟨D++ [X],r.drop w,I ⟨b,off+w,Z⟩,c'-w,HS.out _ _ _ hJ2,F (by rw[List.append_assoc,<-hinv.out,hX.out];rfl),by rw[JK]at ard;exact ard,by rw[hld.out];exact TK _ _ _ (by rw[Nh];rfl),by rw[GX];exact hf2,by rw[hld.out];omega,J,by rw[hld.out];omega⟩
    case measure=>rw[TK _ _ _ (by rw[Nh];rfl),hm];simp only[Option.getD_some,lenOf];omega
end
def W2(w:Nat):Prop:=w=8\/w=16
end Go.Proofs.YtjpidgffdkjjeaaGreat
