/- Contracts and plain laws. No condition. -/
import Derived.Deep.RegionHeld3
import Derived.Laws.BitsAllLaws
import Derived.Laws.CopyOwn
import Derived.StillTail
import Derived.Test.YtjpidgffdkjjeaaGreatCA
set_option linter.all false
set_option maxHeartbeats 16000000
namespace Go.Proofs.YtjpidgffdkjjeaaGreat
open Go.Proofs.Tryz
open Go.Proofs.Tryz renaming prog->AE
open List renaming length->Y
open Go.World renaming cell?->E,setCell->Ai,alloc->Ao,frozen?->Bo
open Go.Value renaming int->U,slice->R,pointer->AI,agg->Ba,tuple->Be,nilFunc->Bl,bool->Av
open Go.IntKind renaming i64->O,u64->AA,u32->BF,u8->Cd
open Option renaming none->Z,some->I
open Go.Ending renaming returned->AN
open Go.Obj renaming cells->N
open Go renaming World->V,Value->An,Calls->AL,Addr->AS
open Go.RowKit renaming Below->Ag,Hid->Aj
set_option maxRecDepth 100000
open Go.RowKit
section
variable{P:Program}{T t:TypeId}{args cs:Array An}{base bytes e j size sz:Nat}{f:FuncId}{o:Oper}{v z:An}{α:Type}
def ED(w:V):Type:={w':V // Ag w w w'}
instance Ai6 (w:V):Nonempty (ED w):=⟨⟨w,Ae _ _⟩⟩
def ED.w{w:V}(x:ED w):V:=x.1
def Di{w:V}{a:AS}(h:E w a=I v):∀x:ED w,E x.w a=I v:=
 fun x=>(x.2.cell (Ch w a h)).trans h
def Vq{w:V}{a:AS}(h:E w a=I v)(o:Obj):∀x:ED (Ao w o),E x.w a=I v:=
 Di (by rw[World.cell?_alloc_lt w o a (Ch w a h)];exact h)
def Uc{w:V}(h:cs[j]?=I v):∀x:ED (Ao w (N cs T)),E x.w ⟨w,j,Z⟩=I v:=
 Di (by rw[AX _ _ _ cs T (0,0) (CB w _)];exact h)
theorem Cb{w:V}(h:cs[j]?=I v):E (Ao w (N cs T)) ⟨w,j,Z⟩=I v:=by
 rw[AX _ _ _ cs T (0,0) (CB w _)];exact h
def AK{w w':V}{a:AS}(hb:Ag w w w')(h:E w a=I v):E w' a=I v:=
 (hb.cell (Ch w a h)).trans h
def AH{a b c:V}(h:Ag a a b)(k:Ag b b c):Ag a a c:=h.trans (k.mono h.size)
def AB{a w:V}(h:Ag a a w)(o:Obj):Ag a a (Ao w o):=h.alloc h.size o
def Jf{id:Nat}{Bn:Exit->Act->V->Prop}{a:Act}{w:V}{l:List Oper}(hm:P.follows .mixedOrders=true)(hB:Region.lexB .any l.toArray=true)
  (h:wpQuiet P l.toArray (fun w'=>∃x:ED w,w'=x.w) (fun a'=>∀w',(∃x:ED w,w'=x.w)->Bn .normal a' w') l a):(Code.region id l.toArray true).wp P Bn a w:=
 wp_region_quiet (C:=fun w'=>∃x:ED w,w'=x.w) hm hB ⟨⟨w.drew,(Ae _ _).drew⟩,rfl⟩ (by omega)
def qrl{p q:Prop}(h:q)(e:q->p:=by(intro h;refine Jf (by kernel_rfl) (by kernel_rfl) ?_;(repeat(go_big_quiet_step (fail)));refine GP ?_;exact h)):p:=e h
def Ss{P:Program}{f:FuncId}{args:Array An}{w:V}{x:ED w}{v:An}
  (h:AL P f args x.w fun e w'=>e=AN v/\Ag x.w.heap.size x.w w'):AL P f args x.w fun e w'=>e=AN v/\∃y:ED w,w'=y.w:=
 h.mono fun _ w' ⟨he,hb⟩=>⟨he,⟨w',AH x.2 hb⟩,Q⟩
def dI{P:Program}{f:FuncId}{args:Array An}{w:V}{x:ED w}{v:An}
  (h:AL P f args x.w fun e w'=>e=AN v/\x.w=w'):AL P f args x.w fun e w'=>e=AN v/\∃y:ED w,w'=y.w:=
 h.mono fun _ _ ⟨he,hb⟩=>⟨he,x,hb.symm⟩
def Arr(sz:Nat)(enc:α->List An)(w:V)(B:Nat)(A:Option AS)(l:List α):Prop:=
 l≠[]->∃b off,A=I ⟨b,off,Z⟩/\b<B/\∀i x,l[i]?=I x->∀j u,(enc x)[j]?=I u->E w ⟨b,off+i*sz+j,Z⟩=I u
section
variable {α:Type} {sz:Nat} {enc:α→List An} {w w':V} {B B':Nat} {A:Option AS} {l:List α}
def Arr.nil:Arr sz enc w B A []:=fun h=>(h Q).elim
theorem Arr.get(h:Arr sz enc w B A l){k:Nat}(hk:k<Y l)(hb:Ag B w w'):
  ∃b off,A=I ⟨b,off,Z⟩/\b<B/\∀j u,(enc l[k])[j]?=I u->E w' ⟨b,off+k*sz+j,Z⟩=I u:=by
 obtain⟨b,off,rfl,BN,hc⟩:=h (by grind);exact⟨b,off,Q,BN,fun j u hu=>(hb.cell (p:=⟨b,off+k*sz+j,Z⟩) BN).trans (hc k _ (CH hk) j u hu)⟩
def Arr.keep(h:Arr sz enc w B A l)(hb:Ag B w w'):Arr sz enc w' B A l:=fun hl=>by
 obtain⟨b,off,rfl,BN,hc⟩:=h hl;exact⟨b,off,Q,BN,fun i x hx j u hu=>(hb.cell (p:=⟨b,off+i*sz+j,Z⟩) BN).trans (hc i x hx j u hu)⟩
theorem Arr.up(h:Arr sz enc w B A l)(hB:B<=B'):Arr sz enc w B' A l:=fun hl=>by
 grind [Arr]
def Arr.on(h:Arr sz enc w w A l)(hb:Ag w w w'):Arr sz enc w' w' A l:=(h.keep hb).up hb.size
theorem Vr(hs:∀x,(enc x).length=sz):∀(l:List α) (i:Nat) (x:α),l[i]?=I x->∀j,j<sz->(l.flatMap enc)[i*sz+j]?=(enc x)[j]?
 | [],i,x,h,_,_=>by simp at h
 | y::l,0,x,h,j,hj=>by
  grind
 | y::l,i+1,x,h,j,hj=>by
  have h':l[i]?=I x:=by simpa using h
  have e:(i+1)*sz+j=sz+(i*sz+j):=by rw[Ol];omega
  rw[List.flatMap_cons,e,XN (by rw[hs];omega),hs];rw[show sz+(i*sz+j)-sz=i*sz+j from by omega];exact Vr hs l i x h' j hj
theorem Wr(hs:∀x,(enc x).length=sz)(l:List α):(l.flatMap enc).length=Y l*sz:=by
 induction l with
 | nil=>simp
 | cons x l ih=>grind
def Own(w:V)(base e sz:Nat)(enc:α->List An)(v:An)(l:List α):Prop:=w.ownsRow base e sz v (Y l) (l.flatMap enc)
theorem Own.nil:Own w base e sz enc (R Z 0 0) ([]:List α):=World.ownsRow_nil _ _ _ _
theorem Own.form(h:Own w base e sz enc v l)(hs:∀x,(enc x).length=sz):
  ∃A c,v=R A (Y l) c/\Y l<=c/\c<=maxLen/\(A=Z->c=0)/\Arr sz enc w w A l:=by
 rcases h.2 with⟨rfl,h0⟩ | ⟨g,cap,cur,rfl,_,hg,hn,hm,_,_⟩
 ·grind [Arr,Own]
 ·refine⟨_,_,Q,hn,hm,(fun h=>by cases h),fun _=>⟨g,0,rfl,(Bm.1 hg).1,fun i x hx j u hu=>?_⟩⟩
  have hj:j<sz:=by
   grind
  have:=World.ownsRow.cells (v:= R (I ⟨g,0,Z⟩) (Y l) cap) h Q (i*sz+j) u (by grind [Own,Vr]);rw[EE];unfold Addr.add at this
  grind
theorem Own.snoc{x:α}(h:w.ownsRow base e sz v (Y l+1) (l.flatMap enc++ enc x)):Own w base e sz enc v (l++ [x]):=by
 grind [Own]
theorem Own.keep{row:Option Nat}(h:Own w base e sz enc v l)(hg:w.grownBy w' row)(hne:v.ownBlock=Z\/v.ownBlock≠row):Own w' base e sz enc v l:=World.ownsRow.kept h hg hne
def Own.alloc(h:Own w base e sz enc v l)(o:Obj):Own (Ao w o) base e sz enc v l:=XO h o
def Db(h:Ag w w w'):w.grownBy w' Z:=⟨h.os,h.tape,h.output,h.size,fun k hk _=>h.block k hk⟩
theorem Own.below(h:Own w base e sz enc v l)(hb:Ag w w w'):Own w' base e sz enc v l:=by
 refine World.ownsRow.kept h (Db hb) ?_
 grind
end
theorem Vs{enc:α->List An}(w:V)(l:List α)(cs:Array An)(T:TypeId)(hcs:cs.toList=l.flatMap enc)(hs:∀x,(enc x).length=sz):
  Arr sz enc (Ao w (N cs T)) (Ao w (N cs T)) (I ⟨w,0,Z⟩) l:=fun _=>by
 refine⟨_,_,Q,by simp,fun i x hx j u hu=>?_⟩
 have hj:j<sz:=by
  grind
 refine Cb ?_;rw[EE,<-Array.getElem?_toList,hcs,Vr hs l i x hx j hj];exact hu
theorem Zn{P:Program}{w0:V}{ops:Array Oper}{rest:List Oper}{a:Act}{Bn:Exit->Act->V->Prop}(hgd:o.guard=Z)(s x:Operand)(t:TypeId)
  (ho:o.op=.call {callee:= .builtin .append,args:=#[s,x],argTypes:=#[t,t]})
  (base:Nat) (e:TypeId) (i:TypeInfo) (z:An) (size bytes:Nat) (ht:P.underlying t=I (.slice e)) (hi:P.info? e=I i) (hz:i.zero=I z)
  (hsize:i.size=size) (hby:i.bytes=bytes) (hzs:z.cells.size=size) (hsz:0<size)
  {α:Type} {enc:α->List An} (v:An) (l:List α) (x0:α) (cs:Array An) (T:TypeId) (hs:a.eval s=v) (hown:Own w0 base e size enc v l)
  {g:Nat} (hx:a.eval x=R (I ⟨g,0,Z⟩) 1 1) (hcs:cs.toList=enc x0) (hlen:(enc x0).length=size) (h1:∀u∈enc x0,u.oneCell'=true)
  (hbytes:(Y l+1)*bytes<=140737488355328) (I7:0<bytes) (hbase:base<=↑w0) (hg:g=↑w0)
  (h:∀v' w',Own w' base e size enc v' (l++ [x0])->Ag base w0 w'->wpList P ops Bn rest (a.put o.dst v') w'):wpList P ops Bn (o::rest) a (Ao w0 (N cs T)):=by
 subst hg
 have h63:Y l+1<=maxLen:=by
  have:=Vt (Y l+1) I7;unfold maxLen;omega
 refine wpList_append_own _ hgd s x t ho base e i z size bytes ht hi hz hsize hby hzs hsz v (Y l) (l.flatMap enc) hs (XO hown _) ⟨w0,0,Z⟩ 1 1 (enc x0) hx (by rw[hlen,Nat.one_mul]) (fun j u hu=>?_) h1 h63 hbytes (by simp;omega) (fun v' w' h2 h3 _=>h v' w' (Own.snoc h2) ?_)
 ·have PH:(⟨w0,0,Z⟩:AS).add j=⟨w0,j,Z⟩:=by unfold Addr.add;split <;> simp_all
  rw[PH];exact Cb (by rw[<-hu,<-hcs];simp)
 ·have hb:Ag base w0 (Ao w0 (N cs T)):=(Ae _ _).alloc hbase _
  exact hb.grown h3 (by simp;omega) (fun k hk=>(Cp hown k hk).1)
def Ef{w:V}{ops:Array Oper}{rest:List Oper}{o:Oper}{a:Act}{Bn:Exit->Act->V->Prop}{e:TypeId}(ht:P.underlying t=I (.slice e))(hf:(P.info? e).map (fun i=>(i.zero,i.size,i.bytes))=I (I z,size,bytes)){enc:α->List An}(l:List α)(x0:α)(hown:Own w base e size enc v l)(h1:∀u∈enc x0,u.oneCell'=true)
  (hbytes:(Y l+1)*bytes<=140737488355328) (hbase:base<=↑w) (h:∀v' w',Own w' base e size enc v' (l++ [x0])->Ag base w w'->wpList P ops Bn rest (a.put o.dst v') w') {s x:Operand} {cs:Array An} {T:TypeId} {g:Nat}
  (hgd:o.guard=Z:=by exact rfl) (ho:o.op=.call {callee:= .builtin .append,args:=#[s,x],argTypes:=#[t,t]}:=by exact rfl) (hs:a.eval s=v:=by exact rfl) (hx:a.eval x=R (I ⟨g,0,Z⟩) 1 1:=by exact rfl) (hcs:cs.toList=enc x0:=by exact rfl) (hlen:(enc x0).length=size:=by exact rfl) (hzs:z.cells.size=size:=by exact rfl) (hsz:0<size:=by decide) (I7:0<bytes:=by decide) (hg:g=↑w:=by first | exact rfl | simp):wpList P ops Bn (o::rest) a (Ao w (N cs T)):=by
 obtain⟨i,hi,hz,h2,h3⟩:=IA hf;exact Zn hgd s x t ho base e i z size bytes ht hi hz h2 h3 hzs hsz v l x0 cs T hs hown hx hcs hlen h1 hbytes I7 hbase hg h
theorem dJ{enc:α->List An}{w:V}{b off:Nat}{l:List α}(hs:∀x,(enc x).length=sz)(hsz:0<sz)
  (hc:∀i x,l[i]?=I x->∀j u,(enc x)[j]?=I u->E w ⟨b,off+i*sz+j,Z⟩=I u):∀j u,(l.flatMap enc)[j]?=I u->E w ((⟨b,off,Z⟩:AS).add j)=I u:=by
 intro j u hu;have hlt:j<Y l*sz:=by grind [Wr]
 have hi:=Nat.div_lt_of_lt_mul (by rwa [Om]at hlt);have hr:j%sz<sz:=IB _ hsz;have hj:j / sz*sz+j%sz=j:=by rw[Om];exact Nat.div_add_mod _ _
 have hx:=CH hi;have h1:=Vr hs l (j / sz) _ hx (j%sz) hr;rw[hj,hu]at h1;have h2:=hc _ _ hx _ _ h1.symm;rw[Nat.add_assoc,hj]at h2;have PH:(⟨b,off,Z⟩:AS).add j=⟨b,off+j,Z⟩:=by unfold Addr.add;grind
 grind
def Ws{P:Program}{w:V}{ops:Array Oper}{rest:List Oper}{a:Act}{Bn:Exit->Act->V->Prop}(hgd:o.guard=Z)(s x:Operand)(t:TypeId)
  (ho:o.op=.call {callee:= .builtin .append,args:=#[s,x],argTypes:=#[t,t]})
  (base:Nat) (e:TypeId) (i:TypeInfo) (z:An) (size bytes:Nat) (ht:P.underlying t=I (.slice e)) (hi:P.info? e=I i) (hz:i.zero=I z)
  (hsize:i.size=size) (hby:i.bytes=bytes) (hzs:z.cells.size=size) (hsz:0<size)
  {α:Type} {enc:α->List An} (hs':∀x,(enc x).length=size) (h1:∀x,∀u∈enc x,u.oneCell'=true) (v:An) (l:List α) (l2:List α) (A:Option AS) (c B:Nat) (hs:a.eval s=v) (hown:Own w base e size enc v l)
  (hx:a.eval x=R A (Y l2) c) (hA:Arr size enc w B A l2) (hnil:A=Z->c=0)
  (hbytes:(Y l+Y l2)*bytes<=140737488355328) (I7:0<bytes) (hbase:base<=↑w)
  (h:∀v' w',Own w' base e size enc v' (l++ l2)->Ag base w w'->wpList P ops Bn rest (a.put o.dst v') w'):wpList P ops Bn (o::rest) a w:=by
 have h63:Y l+Y l2<=maxLen:=by
  have:=Vt (Y l+Y l2) I7;unfold maxLen;omega
 have hgo:∀ad,A=I ad->(∀j u,(l2.flatMap enc)[j]?=I u->E w (ad.add j)=I u)->wpList P ops Bn (o::rest) a w:=by
  rintro ad rfl hnews;refine wpList_append_own _ hgd s x t ho base e i z size bytes ht hi hz hsize hby hzs hsz v (Y l) (l.flatMap enc) hs hown ad (Y l2) c (l2.flatMap enc) hx (Wr hs' l2) hnews (fun u hu=>?_) h63 hbytes hbase (fun v' w' h2 h3 _=>h v' w' ?_ ?_)
  ·obtain⟨y,_,hy⟩:=List.mem_flatMap.1 hu
   exact h1 y u hy
  ·unfold Own;rw[KZ,List.flatMap_append];exact h2
  ·exact(Ae _ _).grown h3 hbase (fun k hk=>(Cp hown k hk).1)
 cases l2 with
 | nil=>
  cases A with
  | none=>
   obtain rfl:c=0:=hnil Q;exact wpList_append_own_none hgd s x t ho base e i size ht hi v (Y l) (l.flatMap enc) hs hown hx (h v w (by simpa using hown) (Ae _ _))
  | some ad=>exact hgo ad Q (by simp)
 | cons y ys=>
  obtain⟨b,off,rfl,_,hc⟩:=hA (by simp);exact hgo _ Q (dJ hs' hsz hc)
def Wt{w:V}{ops:Array Oper}{rest:List Oper}{o:Oper}{a:Act}{Bn:Exit->Act->V->Prop}{e:TypeId}(ht:P.underlying t=I (.slice e))(hf:(P.info? e).map (fun i=>(i.zero,i.size,i.bytes))=I (I z,size,bytes)){enc:α->List An}(hs':∀x,(enc x).length=size)(h1:∀x,∀u∈enc x,u.oneCell'=true)(l l2:List α)(hown:Own w base e size enc v l){A:Option AS}{c B:Nat}(hA:Arr size enc w B A l2)(hnil:A=Z->c=0)
  (hbytes:(Y l+Y l2)*bytes<=140737488355328) (hbase:base<=↑w) (h:∀v' w',Own w' base e size enc v' (l++ l2)->Ag base w w'->wpList P ops Bn rest (a.put o.dst v') w') {s x:Operand}
  (hgd:o.guard=Z:=by exact rfl) (ho:o.op=.call {callee:= .builtin .append,args:=#[s,x],argTypes:=#[t,t]}:=by exact rfl) (hs:a.eval s=v:=by exact rfl) (hx:a.eval x=R A (Y l2) c:=by exact rfl) (hzs:z.cells.size=size:=by exact rfl) (hsz:0<size:=by decide) (I7:0<bytes:=by decide):wpList P ops Bn (o::rest) a w:=by
 obtain⟨i,hi,hz,h2,h3⟩:=IA hf;exact Ws hgd s x t ho base e i z size bytes ht hi hz h2 h3 hzs hsz hs' h1 v l l2 A c B hs hown hx hA hnil hbytes I7 hbase h
def jD{enc:α->List An}(w:V)(base:Nat)(e:TypeId)(hb:base<=↑w):Own (Ao w (N #[] e)) base e sz enc (R (I ⟨w,0,Z⟩) 0 0) ([]:List α):=
 World.ownsRow_made w #[] 0 hb (BM _) (by simp)
def Calls.on{FD:Array An}{w:V}{Bn:Ending->V->Prop}(h:args=FD)(hc:AL P f FD w Bn):AL P f args w Bn:=h▸hc
def Cg{k:IntKind}{a b:Int}(h:a=b):Ending.returned (.int k a)=AN (.int k b):=by rw[h]
def JJ{a b:Bool}(h:a=b):Ending.returned (Av a)=AN (Av b):=by rw[h]
end
section
variable{a:Act}{fuel:Nat}{listed:Array Bool}{p q:Prop}{w:World}
def AG(h:p:=by kernel_rfl):p:=h
theorem J(h:p:=by omega):p:=h
def AO(h:p:=by simp):p:=h
def AC(h:p:=by decide):p:=h
def Az.{u}{α:Sort u}(a:α):∃y,a=y:=⟨a,rfl⟩
def zp(h:q)(e:q->p:=by intro h;(try simp only[Act.put,List.getElem_toArray,List.getElem_cons_succ,List.getElem_cons_zero,List.setIfInBounds_toArray,List.set_cons_zero,List.set_cons_succ]);exact h):p:=e h
def zq(h:q)(e:q->p:=by intro h;(try simp only[Act.put,List.setIfInBounds_toArray,List.set_cons_zero,List.set_cons_succ]);exact h):p:=e h
section
variable {P:Program} {md:Region.Mode} {ops:Array Oper} {Bn:Exit→Act→World→Prop} {S:World→Prop}
def tQ(i:Nat){oi:Oper}{v:Value}{fuel:Nat}{listed:Array Bool}{a:Act}{w:World}(h:q)(hi:ops[i]?=I oi:=by exact rfl)
  (hs:Region.noSelect ops=true:=by kernel_rfl) (hf:Region.free md ops listed i=true:=by kernel_rfl) (hr:(Region.ready md ops listed).contains i=true:=by kernel_rfl)
  (hQ:∀c a w,Bn (.panic c) (a.put oi.dst v) w->Bn (.panic c) a w:=by exact fun _ _ _ h=>h) (hy:YieldsIf P ops S oi v a:=by(refine Or.inl ⟨by rfl,?_⟩;intro wz hSz;(try dsimp only at hSz);go_simp;(try with_reducible rfl)))
  (hS:S w:=by assumption) (e:q->wpAnyH P md ops Bn S fuel (listed.setIfInBounds i true) (a.put oi.dst v) w:=by intro h;(try simp only[Act.put,List.getElem_toArray,List.getElem_cons_succ,List.getElem_cons_zero,List.setIfInBounds_toArray,List.set_cons_zero,List.set_cons_succ]);exact h):wpAnyH P md ops Bn S (fuel+1) listed a w:=
 G3 hi hs hf hr hQ hy hS (e h)
def url(i:Nat){o:Oper}(h:∀K':Act->World->Prop,Shut (∀a w,S w->(S w->wpAnyH P md ops Bn S fuel (listed.setIfInBounds i true) a w)->K' a w)->if Region.wanted o (yielded ops a.tmps)=true then Oper.wp P o a w K' Bn else K' (a.put o.dst undef) w)
  (ho:ops[i]?=I o:=by exact rfl) (hr:Region.ready md ops listed=[i]:=by kernel_rfl):wpAnyH P md ops Bn S (fuel+1) listed a w:=
 wpAnyH_ready hr (by simp) (Dj ho h GQ)
def I8(rs:List Nat)(h:AllReadyH P md ops Bn S fuel listed a w rs)(hr:Region.ready md ops listed=rs:=by kernel_rfl)(hne:rs≠[]:=by simp):wpAnyH P md ops Bn S (fuel+1) listed a w:=
 wpAnyH_ready hr hne h
def Ce(h:Bn .normal a w)(hr:Region.ready md ops listed=[]:=by kernel_rfl):wpAnyH P md ops Bn S fuel listed a w:=wpAnyH_done hr h _
end
end
section
variable{k:Nat}{α:Type}
structure Bf where
 basis:Int
 kind:Int
structure AQ where
 basis:Int
 bit:Bool
 cls:Int
 ph:Int
 seen:Bool
instance:CoeOut AQ (Array An):=⟨fun z=>#[U O z.basis,Av z.bit,U O z.cls,U O z.ph,Av z.seen]⟩
structure CK where
 slot:Int
 basis:Int
structure CA where
 slot:Int
 how:Int
 basis:Int
 bit:Bool
instance:CoeOut CA (Array An):=⟨fun z=>#[U O z.slot,U O z.how,U O z.basis,Av z.bit]⟩
def Bf.enc(c:Bf):List An:=[U O c.basis,U O c.kind]
def AQ.enc(c:AQ):List An:=[U O c.basis,Av c.bit,U O c.cls,U O c.ph,Av c.seen]
def CK.enc(c:CK):List An:=[U O c.slot,U O c.basis]
def CA.enc(c:CA):List An:=[U O c.slot,U O c.how,U O c.basis,Av c.bit]
def BD(n:Int):List An:=[U O n]
def C4(b:Bool):List An:=[Av b]
def Bf.BY(c:Bf):Y c.enc=2:=Q
def AQ.BY(c:AQ):Y c.enc=5:=Q
def CK.BY(c:CK):Y c.enc=2:=Q
def CA.BY(c:CA):Y c.enc=4:=Q
def DY(c:Int):(BD c).length=1:=Q
def Dk(c:Bool):(C4 c).length=1:=Q
theorem Bf.one(c:Bf):∀u∈c.enc,u.oneCell'=true:=by simp[Bf.enc,Value.oneCell']
theorem AQ.one(c:AQ):∀u∈c.enc,u.oneCell'=true:=by simp[AQ.enc,Value.oneCell']
theorem CK.one(c:CK):∀u∈c.enc,u.oneCell'=true:=by simp[CK.enc,Value.oneCell']
theorem CA.one(c:CA):∀u∈c.enc,u.oneCell'=true:=by simp[CA.enc,Value.oneCell']
def On(c:Int):∀u∈BD c,u.oneCell'=true:=by simp[BD,Value.oneCell']
def XP(c:Bool):∀u∈C4 c,u.oneCell'=true:=by simp[C4,Value.oneCell']
section
variable {w w':V} {B:Nat} {A:Option AS} {k:Nat}
def Arr.clk{l:List Bf}(h:Arr 2 Bf.enc w B A l)(hk:k<Y l)(hb:Ag B w w'):
  ∃b off qb qk,A=I ⟨b,off,Z⟩/\b<B/\Aj (l[k]?=I ⟨qb,qk⟩)/\E w' ⟨b,off+k*2,Z⟩=I (U O qb)/\E w' ⟨b,off+k*2+1,Z⟩=I (U O qk):=by
 obtain⟨b,off,rfl,BN,hc⟩:=h.get hk hb;exact⟨b,off,_,_,Q,BN,CH hk,hc 0 _ Q,hc 1 _ Q⟩
def Arr.hrd{l:List CK}(h:Arr 2 CK.enc w B A l)(hk:k<Y l)(hb:Ag B w w'):
  ∃b off qs qb,A=I ⟨b,off,Z⟩/\b<B/\Aj (l[k]?=I ⟨qs,qb⟩)/\E w' ⟨b,off+k*2,Z⟩=I (U O qs)/\E w' ⟨b,off+k*2+1,Z⟩=I (U O qb):=by
 obtain⟨b,off,rfl,BN,hc⟩:=h.get hk hb;exact⟨b,off,_,_,Q,BN,CH hk,hc 0 _ Q,hc 1 _ Q⟩
def Arr.pls{l:List AQ}(h:Arr 5 AQ.enc w B A l)(hk:k<Y l)(hb:Ag B w w'):
  ∃b off pb BK pc Cf ps,A=I ⟨b,off,Z⟩/\b<B/\Aj (l[k]?=I ⟨pb,BK,pc,Cf,ps⟩)/\E w' ⟨b,off+k*5,Z⟩=I (U O pb)/\E w' ⟨b,off+k*5+1,Z⟩=I (Av BK)/\
   E w' ⟨b,off+k*5+2,Z⟩=I (U O pc)/\E w' ⟨b,off+k*5+3,Z⟩=I (U O Cf)/\E w' ⟨b,off+k*5+4,Z⟩=I (Av ps):=by
 obtain⟨b,off,rfl,BN,hc⟩:=h.get hk hb;exact⟨b,off,_,_,_,_,_,Q,BN,CH hk,hc 0 _ Q,hc 1 _ Q,hc 2 _ Q,hc 3 _ Q,hc 4 _ Q⟩
theorem Arr.int{l:List Int}(h:Arr 1 BD w B A l)(hk:k<Y l)(hb:Ag B w w'):
  ∃b off x,A=I ⟨b,off,Z⟩/\b<B/\Aj (l[k]?=I x)/\E w' ⟨b,off+k,Z⟩=I (U O x):=by
 obtain⟨b,off,rfl,BN,hc⟩:=h.get hk hb;exact⟨b,off,_,Q,BN,CH hk,by have:=hc 0 _ Q;grind⟩
theorem Arr.bool{l:List Bool}(h:Arr 1 C4 w B A l)(hk:k<Y l)(hb:Ag B w w'):
  ∃b off x,A=I ⟨b,off,Z⟩/\b<B/\Aj (l[k]?=I x)/\E w' ⟨b,off+k,Z⟩=I (Av x):=by
 obtain⟨b,off,rfl,BN,hc⟩:=h.get hk hb;exact⟨b,off,_,Q,BN,CH hk,by have:=hc 0 _ Q;grind⟩
end
def jE(w:V)(pb:Int)(BK:Bool)(pc Cf:Int)(ps:Bool)(T:TypeId):
  (∀x:ED (Ao w (N #[U O pb,Av BK,U O pc,U O Cf,Av ps] T)),E x.w ⟨w,0,Z⟩=I (U O pb))/\
  (∀x:ED (Ao w (N #[U O pb,Av BK,U O pc,U O Cf,Av ps] T)),E x.w ⟨w,1,Z⟩=I (Av BK))/\
  (∀x:ED (Ao w (N #[U O pb,Av BK,U O pc,U O Cf,Av ps] T)),E x.w ⟨w,2,Z⟩=I (U O pc))/\
  (∀x:ED (Ao w (N #[U O pb,Av BK,U O pc,U O Cf,Av ps] T)),E x.w ⟨w,3,Z⟩=I (U O Cf))/\
  (∀x:ED (Ao w (N #[U O pb,Av BK,U O pc,U O Cf,Av ps] T)),E x.w ⟨w,4,Z⟩=I (Av ps)):=
 ⟨Uc Q,Uc Q,Uc Q,Uc Q,Uc Q⟩
def AR(n a b:Int):Bool:=decide (a<=n/\n<=b)
def GR(k:Int):Bool:=decide (k=1\/k=2)
def Bf.ok(c:Bf):Bool:=AR c.basis 0 1&&AR c.kind 0 3
def AQ.ok(c:AQ):Bool:=AR c.basis 0 1&&AR c.cls 0 2&&AR c.ph 0 3
def Bz(ok:α->Bool)(l:List α):Int:=if 4096<Y l then 5 else if l.all ok then 0 else 2
def Tq(p:List AQ)(c:List Bf):Int:=if Bz AQ.ok p=0 then Bz Bf.ok c else Bz AQ.ok p
theorem N8{l:List α}{x:α}(hx:l[k]?=I x):l.take (k+1)=l.take k++ [x]:=by
 obtain⟨hk,rfl⟩:=EF.1 hx;exact Wu hk
theorem Vu{ok:α->Bool}{l:List α}{x:α}(hx:l[k]?=I x)(h:(l.take k).all ok=true)(ho:ok x=true):(l.take (k+1)).all ok=true:=by
 rw[N8 hx,Su,h];grind
theorem ve{ok:α->Bool}{l:List α}{x:α}(hx:l[k]?=I x)(ho:ok x=false):l.all ok=false:=by
 grind
def XQ{ok:α->Bool}{l:List α}(h:4096<Y l):Bz ok l=5:=by simp[Bz,h]
theorem XR{ok:α->Bool}{l:List α}(h:¬4096<Y l){x:α}(hk:l[k]?=I x)(hx:ok x=false):Bz ok l=2:=by grind [Bz]
theorem XS{ok:α->Bool}{l:List α}(h:¬4096<Y l)(hk:Y l<=k)(hx:(l.take k).all ok=true):Bz ok l=0:=by
 rw[EG hk]at hx;grind [Bz]
theorem Lb{ok:α->Bool}{l:List α}:Bz ok l=0↔Y l<=4096/\l.all ok=true:=by
 grind [Bz]
end
section
variable{P:Program}{k sz:Nat}{o:Oper}{v:An}{w:V}{α:Type}
theorem N9(f:α->An)(l:List α):l.flatMap (fun x=>[f x])=l.map f:=by
 induction l with
 | nil=>rfl
 | cons x l ih=>grind
def vj{P:Program}{w:V}{ops:Array Oper}{rest:List Oper}{a:Act}{Bn:Exit->Act->V->Prop}(hgd:o.guard=Z)(l c:Operand)(t:TypeId)(hop:o.op=Op.makeSlice t l c)
  (e:TypeId) (i:TypeInfo) (z:An) (bytes:Nat) (ht:P.underlying t=I (.slice e)) (hi:P.info? e=I i) (hz:i.zero=I z) (hsize:i.size=1) (hby:i.bytes=bytes) (FE:z.cells=#[z])
  {α:Type} (f:α->An) (d:α) (hd:f d=z) (kl kc:IntKind) (L C:Int) (n:Nat) (hl:a.eval l=.int kl L) (hc:a.eval c=.int kc C) (hL:L=(n:Int)) (hC:C=(n:Int)) (hn:bytes*n<=281474976710656) (Na:n<=maxLen)
  (h:∀w',Own w' w e 1 (fun x=>[f x]) (R (I ⟨w,0,Z⟩) n n) (List.replicate n d)->Ag w w w'->wpList P ops Bn rest (a.put o.dst (R (I ⟨w,0,Z⟩) n n)) w'):
  wpList P ops Bn (o::rest) a w:=by
 refine wpList_make_full w hgd l c t hop w e i z 1 ht hi hz hsize kl kc L C n hl hc hL hC (qrf hby hn) Na (Bg _) (fun w' h1 h2=>h w' ?_ ⟨h2.os,h2.tape,h2.output,h2.size,fun k hk=>h2.block k hk AO⟩);unfold Own;rw[FE,JK,toList_madeCells_one]at h1;rw[N9,Ue,List.map_replicate,hd];exact h1
def Nb{w:V}{ops:Array Oper}{rest:List Oper}{o:Oper}{a:Act}{Bn:Exit->Act->V->Prop}{t e:TypeId}{z:An}{bytes:Nat}(ht:P.underlying t=I (.slice e))(hf:(P.info? e).map (fun i=>(i.zero,i.size,i.bytes))=I (I z,1,bytes))(f:α->An)(d:α)(n:Nat)
  (h:∀w',Own w' w e 1 (fun x=>[f x]) (R (I ⟨w,0,Z⟩) n n) (List.replicate n d)->Ag w w w'->wpList P ops Bn rest (a.put o.dst (R (I ⟨w,0,Z⟩) n n)) w')
  (hn:bytes*n<=281474976710656:=by first | decide | omega) (Na:n<=maxLen:=by first | decide | (unfold maxLen;omega)) {kl kc:IntKind} {L C:Int} {lo co:Operand} (hgd:o.guard=Z:=by exact rfl) (ho:o.op=Op.makeSlice t lo co:=by exact rfl) (hl:a.eval lo=.int kl L:=by exact rfl) (hc:a.eval co=.int kc C:=by exact rfl) (hL:L=(n:Int):=by first | exact rfl | omega) (hC:C=(n:Int):=by first | exact rfl | omega) (FE:z.cells=#[z]:=by exact rfl) (hd:f d=z:=by exact rfl):wpList P ops Bn (o::rest) a w:=by
 obtain⟨i,hi,hz,h2,h3⟩:=IA hf;exact vj hgd lo co t ho e i z bytes ht hi hz h2 h3 FE f d hd kl kc L C n hl hc hL hC hn Na h
section
variable {α:Type} {f:α→An} {w:V} {base e g n cap:Nat} {l:List α}
def Own.Eg(h:Own w base e 1 (fun x=>[f x]) (R (I ⟨g,0,Z⟩) n cap) l)(hn:Y l=n){x:α}(hx:l[k]?=I x):E w ⟨g,k,Z⟩=I (f x):=by
 subst hn;have hk:=(EF.1 hx).1;have:=World.ownsRow.cellAt h k J;rw[this,N9,List.getElem?_map,hx];rfl
def Own.Dc(h:Own w base e 1 (fun x=>[f x]) (R (I ⟨g,0,Z⟩) n cap) l)(hn:Y l=n)(k:Nat):Bo w ⟨g,k,Z⟩=false:=by subst hn;exact World.ownsRow.frozenAt h k
def Own.Ft(h:Own w base e 1 (fun x=>[f x]) (R (I ⟨g,0,Z⟩) n cap) l)(hn:Y l=n)(k:Nat)(x:α):Own (Ai w ⟨g,k,Z⟩ (f x)) base e 1 (fun x=>[f x]) (R (I ⟨g,0,Z⟩) n cap) (l.set k x):=by
 subst hn;have:=(World.ownsRow.stored h k (f x)).1;unfold Own;rw[LN];rw[N9]at this ⊢;rw[List.map_set];omega
def Own.dK{enc:α->List An}(h:Own w base e sz enc (R (I ⟨g,0,Z⟩) n cap) l):g<↑w:=(Cp h g Q).2
theorem Own.down{base':Nat}{enc:α->List An}(h:Own w base e sz enc v l)(hb:base'<=base):Own w base' e sz enc v l:=by
 refine⟨h.1,?_⟩;rcases h.2 with hn | ⟨g,cap,cur,hv,hg,r⟩
 ·grind
 ·exact .inr ⟨g,cap,cur,hv,J,r⟩
end
def Dm(L:List α)(d:α)(k:Nat):List α:=L.take k++ List.replicate (Y L-k) d
def Ug(L:List α)(d:α):Dm L d 0=List.replicate (Y L) d:=by simp[Dm]
theorem Sv(L:List α)(d:α)(h:k<=Y L):(Dm L d k).length=Y L:=by grind [Dm]
def Uh(L:List α)(d:α)(h:Y L<=k):Dm L d k=L:=by
 unfold Dm;rw[EG h,show Y L-k=0 from by omega];simp
def Tr{L:List α}(d:α){x:α}(h:L[k]?=I x):(Dm L d k).set k x=Dm L d (k+1):=by
 have hk:=(EF.1 h).1;unfold Dm;have hl:(L.take k).length=k:=by simp;omega
 rw[N8 h,List.set_append,AU J,hl,Lc,show Y L-k=(Y L-(k+1))+1 from by omega,List.replicate_succ,List.set_cons_zero];simp
theorem Ts{L:List α}(d:α)(h:k<Y L):(Dm L d k)[k]?=I d:=by
 grind [Dm]
def Own.drew{base e:Nat}{enc:α->List An}{l:List α}(h:Own w base e sz enc v l):Own w.drew base e sz enc v l:=h
end
section
variable{k m n x y:Nat}{l:List Nat}
def BH(b:Nat):List Nat->Nat
 | []=>0
 | x::l=>x+b*BH b l
def G4(b n:Nat):List Nat:=if h:2<=b/\0<n then n%b::G4 b (n / b)else[]
termination_by n
decreasing_by exact Nat.div_lt_self h.2 h.1
def Eo:List Nat->List Nat
 | []=>[]
 | x::l=>if Eo l=[]/\x=0 then[]else x::Eo l
def BZ(b:Nat)(l:List Nat):Prop:=∀x∈l,x<b
section
variable {b:Nat}
def BZ.nil:BZ b []:=fun x h=>by cases h
theorem BZ.cons(hx:x<b)(h:BZ b l):BZ b (x::l):=fun y hy=>by
 grind [BZ]
def BZ.head(h:BZ b (x::l)):x<b:=h x AO
def BZ.tail(h:BZ b (x::l)):BZ b l:=fun y hy=>h y (by simp[hy])
def BZ.get(h:BZ b l)(hx:l[k]?=I x):x<b:=h x (DI hx)
def BZ.take(h:BZ b l)(k:Nat):BZ b (l.take k):=fun x hx=>h x (Ui hx)
theorem BZ.app{m:List Nat}(h:BZ b l)(h':BZ b m):BZ b (l++ m):=fun x hx=>by
 grind [BZ]
theorem BZ.set(h:BZ b l)(hx:x<b)(k:Nat):BZ b (l.set k x):=fun y hy=>by
 grind [BZ]
theorem BZ.rep(h:0<b)(n:Nat):BZ b (List.replicate n 0):=fun x hx=>by
 grind
theorem Zo(l m:List Nat):BH b (l++ m)=BH b l+b^Y l*BH b m:=by
 induction l with
 | nil=>simp[BH]
 | cons x l ih=>grind [BH]
def dL(x:Nat):BH b [x]=x:=by simp[BH]
theorem jG(n:Nat):BH b (List.replicate n 0)=0:=by
 induction n with
 | zero=>rfl
 | succ n ih=>grind [BH]
theorem Tu(h:l[k]?=I x):BH b (l.take (k+1))=BH b (l.take k)+b^k*x:=by
 obtain⟨hk,rfl⟩:=EF.1 h;rw[Wu hk,Zo,dL,DC,Oo J]
def XT(l:List Nat)(k:Nat)(h:k<=Y l):BH b l=BH b (l.take k)+b^k*BH b (l.drop k):=by
 have:=Zo (b:=b) (l.take k) (l.drop k);rw[XU,DC,Oo h]at this;omega
theorem LP(h:BZ b l):BH b l<b^Y l:=by
 induction l with
 | nil=>simp[BH]
 | cons x l ih=>
  have h1:=h.head;have h2:=ih h.tail;simp only[BH,List.length_cons,Nat.pow_succ];rw[Om (b^Y l) b];have:b*(BH b l+1)<=b*b^Y l:=LQ _ h2
  grind
theorem dM(h:l[k]?=I x):BH b (l.set k y)+b^k*x=BH b l+b^k*y:=by
 induction l generalizing k with
 | nil=>simp at h
 | cons z l ih=>
  cases k with
  | zero=>grind [BH]
  | succ k=>
   grind [BH]
theorem Vv:G4 b 0=[]:=by rw[G4];simp
theorem Zp(hb:2<=b)(h:0<n):G4 b n=n%b::G4 b (n / b):=by grind [G4]
theorem Zq(hb:2<=b)(n:Nat):BH b (G4 b n)=n:=by
 induction n using Nat.strongRecOn with
 | ind n ih=>
  by_cases h:0<n
  ·rw[Zp hb h,BH,ih _ (Nat.div_lt_self h hb)]
   exact Wv n b
  grind [BH,G4]
theorem Zr(hb:2<=b)(n:Nat):BZ b (G4 b n):=by
 induction n using Nat.strongRecOn with
 | ind n ih=>
  by_cases h:0<n
  ·rw[Zp hb h];exact BZ.cons (IB _ J) (ih _ (Nat.div_lt_self h hb))
  grind [BZ,G4]
theorem vk(hb:2<=b)(h:BZ b l):Eo l=G4 b (BH b l):=by
 induction l with
 | nil=>rw[BH,Vv];rfl
 | cons x l ih=>
  have ih:=ih h.tail;have hx:=h.head;rw[Eo];split
  ·grind [G4,BH,BZ,Eo]
  ·rename_i h1
   have hp:0<BH b (x::l):=by
    rw[BH];rcases Nc x with rfl | hx0
    ·have:BH b l≠0:=fun h0=>h1 ⟨by rw[ih,h0,Vv],rfl⟩
     have:0<b*BH b l:=I9 J J;omega
    ·omega
   rw[Zp hb hp,ih,BH,XV,Nat.mod_eq_of_lt hx,XW _ _ J,Ww hx,EE]
theorem Vw(l:List Nat):Eo l=l.take (Eo l).length:=by
 induction l with
 | nil=>rfl
 | cons x l ih=>
  grind [Eo]
theorem Vx(l:List Nat):(Eo l).length<=Y l:=by
 grind [Eo,Vw]
theorem vo(l:List Nat):Eo (l++ [0])=Eo l:=by
 induction l with
 | nil=>simp[Eo]
 | cons x l ih=>grind [Eo]
def vp(l:List Nat)(h:x≠0):Eo (l++ [x])=l++ [x]:=by
 induction l with
 | nil=>simp[Eo,h]
 | cons y l ih=>rw[List.cons_append,Eo,ih,AU AO]
theorem Uj(hb:2<=b)(h:n<b^k):(G4 b n).length<=k:=by
 induction k generalizing n with
 | zero=>grind [G4]
 | succ k ih=>
  by_cases h0:0<n
  ·rw[Zp hb h0,List.length_cons]
   have:=ih (n:=n / b) (by rw[Nat.div_lt_iff_lt_mul J];grind);omega
  grind
theorem Wx(hb:2<=b)(n:Nat):n<b^(G4 b n).length:=by
 grind [G4,LP,Zr,Zq]
def jH(hb:2<=b)(h:(G4 b n).length<(G4 b m).length):n<m:=by
 have h1:=Wx hb n;have h2:¬m<b^(G4 b n).length:=fun h'=>by have:=Uj hb h';omega
 omega
theorem jI{m:List Nat}(hl:BZ b l)(hm:BZ b m)(he:Y l=Y m)(hx:l[k]?=I x)(hy:m[k]?=I y)(ht:l.drop (k+1)=m.drop (k+1))(h:x<y):BH b l<BH b m:=by
 have hk:=(EF.1 hx).1;have h1:=XT (b:=b) l (k+1) J;have h2:=XT (b:=b) m (k+1) J;rw[h1,h2,ht,Tu hx,Tu hy];have h3:=LP (hl.take k);rw[DC,Oo J]at h3;have:b^k*(x+1)<=b^k*y:=LQ _ h
 grind
def vt{m:List Nat}(hx:l[k]?=I x)(hy:m[k]?=I x)(ht:l.drop (k+1)=m.drop (k+1)):l.drop k=m.drop k:=by
 obtain⟨h1,e1⟩:=EF.1 hx;obtain⟨h2,e2⟩:=EF.1 hy;rw[PI h1,PI h2,e1,e2,ht]
end
def Ey(n m:Nat):Int:=if n<m then -1 else if n=m then 0 else 1
def XX(h:n<m):Ey n m=-1:=by simp[Ey,h]
theorem XY(h:m<n):Ey n m=1:=by grind [Ey]
def vu(h:n=m):Ey n m=0:=by simp[Ey,h]
end
section
variable {P:Program} {ops:Array Oper} {md:Region.Mode} {C:V→Prop}
def WF(P:Program)(md:Region.Mode)(ops:Array Oper)(C:V->Prop)(n:Nat)(L:Array Bool->Act->Prop):Nat->Array Bool->Act->Prop
 | 0,listed,a=>L listed a
 | f+1,listed,a=>Region.ready md ops listed≠[]/\∀i∈Region.ready md ops listed,i<n/\qOp P ops C i (WF P md ops C n L f (listed.setIfInBounds i true)) a
theorem jV{n g:Nat}{L:Array Bool->Act->Prop}{Q':Exit->Act->V->Prop}(hL:∀listed a w,C w->L listed a->wpAny P md ops Q' g listed a w):
  ∀(f:Nat) (listed:Array Bool) (a:Act) (w:V),C w->WF P md ops C n L f listed a->wpAny P md ops Q' (f+g) listed a w
 | 0,listed,a,w,hw,h=>by grind [WF]
 | f+1,listed,a,w,hw,h=>by
  rw[show f+1+g=(f+g)+1 by omega];exact⟨fun h0=>absurd h0 h.1,fun i hi=>wpOp_of_qOp hw (fun a' w' hw' h'=>jV hL f _ a' w' hw' h') (h.2 i hi).2⟩
theorem ww{n i:Nat}{oi:Oper}{v:An}{L:Array Bool->Act->Prop}(hi:ops[i]?=I oi)(Vz:∀(j:Nat) (o:Oper) cs b,ops[j]?=I o->o.op≠ .select cs b)
  (hs:Region.sinkB md ops n=true) (hc:Region.chainB md ops n=true) (hn:n<ops.size) (Dp:i<n)
  (hdone:∀listed a,L listed a->∀j∈Region.ready md ops listed,n<=j):
  ∀(f:Nat) (listed:Array Bool) (a:Act),HeadInv md ops n listed->
   (∀j oj,ops[j]?=I oj->j≠i->listed.getD j true=false->(∀e∈oj.after,Region.binds md e=true->e.on≠i)->oi.apart ops oj=true)->
   i∈Region.ready md ops listed->YieldsIn P ops C oi v a->
   WF P md ops C n L f (listed.setIfInBounds i true) (a.put oi.dst v)->WF P md ops C n L (f+1) listed a:=by
 intro f
 induction f with
 | zero=>
  intro listed a inv _ hr hy H;refine⟨fun h=>(by grind),fun j hj=>?_⟩;have hjn:=WG fun h=>tail_waits hs hc hn inv _ i Q Dp (mem_ready.1 hr).1 j h hj
  refine⟨hjn,?_⟩;by_cases Lf:j=i
  ·subst Lf;exact hy.qOp hi H
  ·have:=hdone _ _ H j (ready_mono hj Lf)
   omega
 | succ f ih=>
  intro listed a inv jW hr hy H;have hun:=(mem_ready.1 hr).1;refine⟨fun h=>(by grind),fun j hj=>?_⟩;have hjn:=WG fun h=>tail_waits hs hc hn inv _ i Q Dp hun j h hj
  refine⟨hjn,?_⟩;by_cases Lf:j=i
  ·subst Lf;exact hy.qOp hi H
  ·obtain⟨wy,oj,hoj,hall⟩:=mem_ready.1 hj
   have wA:∀e∈oj.after,Region.binds md e=true->e.on≠i:=fun e he hb heq=>by
    grind
   have h2:=qOp_put hoj (jW j oj hoj Lf wy wA) (fun cs b=>Vz i oi cs b hi) (fun cs b=>Vz j oj cs b hoj) hy (H.2 j (ready_mono hj Lf)).2;refine qOp_mono (fun a' h3=>ih (listed.setIfInBounds j true) a' (inv.set hj hjn) (fun k ok hk QR wB hno=>jW k ok hk QR ?_ hno) (ready_mono hr (Ne.symm Lf)) h3.1 ?_) h2
   ·by_cases hjk:j=k
    ·grind
    ·rw[getD_set_ne true hjk]at wB;omega
   ·rw[Array.setIfInBounds_comm _ _ Lf]
    grind
theorem jX{n g:Nat}{Lq:Act->Prop}(Vz:Region.noSelect ops=true)(hs:Region.sinkB md ops n=true)(hc:Region.chainB md ops n=true)(hn:n<ops.size):
  ∀(l:List Oper) (k:Nat) (listed:Array Bool) (a:Act),(∀j,j<Y l->l[j]?=ops[k+j]?)->k+Y l=n->HeadInv md ops n listed->
  Region.lexHead md ops g (Y l) k listed=true->wpQuiet P ops C Lq l a->
  WF P md ops C n (fun listed' a'=>Region.seqB md ops g n listed'=true/\Lq a') (Y l) listed a
 | [],k,listed,a,_,hk,_,hB,h=>by
  have:k=n:=J;subst this;exact⟨by simpa[Region.lexHead]using hB,h⟩
 | o::l,k,listed,a,hl,hk,inv,hB,h=>by
  have h0:ops[k]?=I o:=by simpa using(hl 0 AO).symm
  simp only[List.length_cons,Region.lexHead,Bool.and_eq_true]at hB;obtain⟨⟨hr,hf⟩,hB'⟩:=hB;have PK:k<n:=by grind
  have hr':k∈Region.ready md ops listed:=by grind
  have hst:qOp P ops C k (wpQuiet P ops C Lq l) a:=by unfold qOp;simp only[h0];exact h
  obtain⟨v,hy,hK⟩:=yieldsIn_of_qOp h0 hst
  exact ww h0 (Region.noSelect_spec Vz) hs hc hn PK (fun listed' a' hL=>seqB_ready hL.1) (Y l) listed a inv (Region.free_spec h0 hf) hr' hy
   (jX Vz hs hc hn l (k+1) _ _ (fun j hj=>by have:=hl (j+1) qsm;grind) (by grind) (inv.set hr' PK) hB' hK)
end
def dZ{P:Program}{id:Nat}{Bn:Exit->Act->V->Prop}{a:Act}{w:V}{l:List Oper}(n:Nat)(hm:P.follows .mixedOrders=true)(hB:Region.lexTailB .any l.toArray n=true)
  (h:wpQuiet P l.toArray (fun w'=>∃x:ED w,w'=x.w) (fun a'=>∀w',(∃x:ED w,w'=x.w)->wpList P l.toArray Bn (l.drop n) a' w') (l.take n) a):(Code.region id l.toArray true).wp P Bn a w:=by
 simp only[Region.lexTailB,Bool.and_eq_true,decide_eq_true_eq]at hB;obtain⟨⟨⟨⟨Vz,hn⟩,hs⟩,hc⟩,wC⟩:=hB;have hn':n<Y l:=qsu hn;have htl:(l.take n).length=n:=by simp;omega
 have hdl:(l.drop n).length=l.toArray.size-n:=AO
 have wE:HeadInv .any l.toArray n (Array.replicate l.toArray.size false):=
  ⟨AO,fun j oj _ hl=>(by rw[getD_replicate_false]at hl;cases hl),fun t _ ht=>getD_in (qsu ht) (getD_replicate_false _ _)⟩
 have H:=jX (md:= .any) (g:=l.toArray.size-n) Vz hs hc hn (l.take n) 0 _ a (fun j hj=>by
  have hj':j<n:=by rw[htl]at hj;exact hj
  simp[hj']) (qsu htl) wE (qrf htl wC) h
 refine wp_region_any hm ?_
 have:=jV (Q':=Bn) (g:=l.toArray.size-n) (fun listed a' w' hw' hL=>by
  have:=wpAny_of_seq (md:= .any) (Q':=Bn) (l.drop n) n listed a' w' (fun j=>by simp[List.getElem?_drop]) (qrf hdl hL.1) (hL.2 w' hw')
  rwa [hdl]at this) _ _ _ {w with drawn:=w.drawn+1} ⟨⟨w.drew,(Ae _ _).drew⟩,rfl⟩ H
 rw[htl,show n+(l.toArray.size-n)=l.toArray.size by omega]at this;exact this
section
variable{k m n:Nat}
def ch:Nat->Nat->Nat
 | _,0=>1
 | 0,_+1=>0
 | n+1,k+1=>ch n k+ch n (k+1)
theorem Y7(n:Nat):ch n 0=1:=by grind [ch]
def ek(n k:Nat):ch (n+1) (k+1)=ch n k+ch n (k+1):=Q
theorem WI(h:n<k):ch n k=0:=by
 induction n generalizing k with
 | zero=>cases k with
  | zero=>omega
  | succ k=>rfl
 | succ n ih=>cases k with
  | zero=>omega
  | succ k=>grind [ch]
theorem kw(n:Nat):ch n n=1:=by
 induction n with
 | zero=>rfl
 | succ n ih=>rw[ek,ih,WI J]
theorem kC(n k:Nat):(k+1)*ch n (k+1)=(n-k)*ch n k:=by
 induction n generalizing k with
 | zero=>simp[ch]
 | succ n ih=>
  cases k with
  | zero=>
   grind [ch]
  | succ k=>
   by_cases hk:k+1<=n
   ·have h1:=ih (k+1)
    have h2:=ih k;obtain⟨d,rfl⟩:∃d,n=k+1+d:=⟨n-(k+1),J⟩
    rw[ek (k+1+d) (k+1),ek (k+1+d) k];rw[show k+1+d-(k+1)=d from by omega]at h1;rw[show k+1+d-k=d+1 from by omega]at h2;rw[show k+1+d+1-(k+1)=d+1 from by omega,Nat.mul_add,Nat.mul_add,h1,<-h2,<-Ol,<-Ol]
    grind
   grind [ch]
theorem wT{a b:Nat}(h:a+b=n):ch n a=ch n b:=by
 induction n generalizing a b with
 | zero=>grind
 | succ n ih=>
  cases a with
  | zero=>grind [ch,Y7,kw]
  | succ a=>cases b with
   | zero=>grind [ch,Y7,kw]
   | succ b=>grind [ch]
theorem em(n k:Nat):ch n k<=2^n:=by
 induction n generalizing k with
 | zero=>cases k <;> simp[ch]
 | succ n ih=>cases k with
  | zero=>grind [ch]
  | succ k=>grind [ch]
theorem ZC(n k:Nat):ch n k*(n-k) / (k+1)=ch n (k+1):=by
 rw[Om (ch n k),<-kC,Nat.mul_div_cancel_left _ J]
def kE(h:k<n):ch n (k+1)*(k+1) / (n-k)=ch n k:=by
 rw[Om,kC,Nat.mul_div_cancel_left _ J]
def CV(f:Nat->Nat):Nat->Nat
 | 0=>0
 | n+1=>CV f n+f n
theorem kF{f:Nat->Nat}(h:∀i,i<n->f i=0):CV f n=0:=by
 induction n with
 | zero=>rfl
 | succ n ih=>grind [CV]
theorem wU(f g:Nat->Nat)(n:Nat):CV (fun i=>f i+g i) n=CV f n+CV g n:=by
 induction n with
 | zero=>rfl
 | succ n ih=>grind [CV]
theorem kG(f:Nat->Nat)(n:Nat):CV f (n+1)=f 0+CV (fun i=>f (i+1)) n:=by
 induction n with
 | zero=>simp[CV]
 | succ n ih=>grind [CV]
theorem kH(f:Nat->Nat)(h:n<=m):CV f n<=CV f m:=by
 induction m with
 | zero=>grind
 | succ m ih=>
  grind [CV]
theorem kI(f:Nat->Nat)(h:n<=m)(h0:∀i,n<=i->f i=0):CV f m=CV f n:=by
 induction m with
 | zero=>grind
 | succ m ih=>
  grind [CV]
theorem wW(n:Nat):∀m,n<m->CV (ch n) m=2^n:=by
 induction n with
 | zero=>
  intro m h;rw[kI (ch 0) (n:=1) J (fun i hi=>WI J)];rfl
 | succ n ih=>
  intro m h;obtain⟨k,rfl⟩:∃k,m=k+1:=⟨m-1,J⟩
  rw[kG,Y7];have e:CV (fun i=>ch (n+1) (i+1)) k=CV (ch n) k+CV (fun i=>ch n (i+1)) k:=wU (ch n) (fun i=>ch n (i+1)) k;have h1:=kG (ch n) k
  grind [CV,ch]
def Ox(total bad sample seen:Nat):Nat:=CV (fun i=>ch bad i*ch (total-bad) (sample-i)) (seen+1)
def wX{total bad sample seen:Nat}(hb:bad<=total):Ox total bad sample seen<=(seen+1)*2^total:=by
 have h:∀n,CV (fun i=>ch bad i*ch (total-bad) (sample-i)) n<=n*2^total:=by
  intro n
  induction n with
  | zero=>simp[CV]
  | succ n ih=>
   rw[CV,Ol,Nat.one_mul];have h1:ch bad n*ch (total-bad) (sample-n)<=2^bad*2^(total-bad):=Nd (em _ _) (em _ _);rw[<-Ou,show bad+(total-bad)=total from by omega]at h1;omega
 exact h _
end
end Go.Proofs.YtjpidgffdkjjeaaGreat
