/- Contracts and plain laws. No condition. -/
import Derived.Lib.LazyBuf
import Derived.Maps.Own
import Derived.Maps.OwnOps
import Derived.Maps.OwnSet
import Derived.Maps.RangeWalk
import Derived.Test.YtjpidgffdkjjeaaGreatCA
import Derived.Test.YtjpidgffdkjjeaaGreatC02
import Derived.Test.YtjpidgffdkjjeaaGreatC04
import Derived.Test.YtjpidgffdkjjeaaGreatC08
set_option linter.all false
set_option maxHeartbeats 16000000
namespace Go.Proofs.YtjpidgffdkjjeaaGreat
open Go.Proofs.Tryz
open Go.Proofs.Tryz renaming prog->AE
open List renaming length->Y
open Go.World renaming cell?->E,setCell->Ai,alloc->Ao,frozen?->Bo
open Go.Value renaming int->U,slice->R,pointer->AI,agg->Ba,tuple->Be,nilFunc->Bl,bool->Av
open Go.IntKind renaming i64->O,u64->AA,u32->BF,u8->Cd
open Option renaming none->Z,some->I
open Go.Ending renaming returned->AN
open Go.Obj renaming cells->N
open Go renaming World->V,Value->An,Calls->AL,Addr->AS
open Go.RowKit renaming Below->Ag,Hid->Aj
set_option maxRecDepth 100000
open Go.RowKit Go.Maps
section
variable{W b mb nb:Nat}{bits:List Bool}{row:Option Nat}{u:List Nat}{w w':V}
def UC:Keyed AE 3:=int_keyed underlying3
def ag(w:V):(zeroValue 3).run AE w=.ok (.int .i64 0) w:=AG
def Kv(w:V)(mb:Nat)(u:List Nat):Prop:=
 ∃D:DataW Unit,w.ownsMap AE 3 (plainElem AE 3) mb (Y u) D/\Tidy D/\∀c:Int,has D (.int .i64 c)=true↔∃n∈u,(n:Int)=c
def Kv.kept(h:Kv w mb u)(hg:w.grownBy w' row)(hne:I mb≠row):Kv w' mb u:=by
 obtain⟨D,h1,h2,h3⟩:=h;exact⟨D,h1.kept hg hne,h2,h3⟩
def Kv.lt(h:Kv w mb u):mb<↑w:=by
 obtain⟨D,h1,_⟩:=h;exact h1.lt
theorem Kv.new(w:V):Kv (Ao w (.map #[] 0)) w []:=
 ⟨.map [],World.ownsMap_made _ _ _ _,tidy_empty,fun c=>by simp[has_eq]⟩
structure CG(w:V)(b nb mb W:Nat)(bits:List Bool)(u:List Nat):Prop where
 wd:W=8\/W=16\/W=32
 c0:E w ⟨b,0,Z⟩=I (.pointer (I ⟨nb,0,Z⟩))
 c1:E w ⟨b,1,Z⟩=I (.int .i64 W)
 c2:∃A c,E w ⟨b,2,Z⟩=I (.slice A (Y bits) c)/\Arr 1 C4 w w A bits/\Y bits<=c/\c<=maxLen/\(A=Z->c=0)/\∀a,A=I a->a.block≠mb/\a.block<↑w
 d0:E w ⟨nb,0,Z⟩=I (.map (I mb))
 us:Kv w mb u
 bm:b≠mb
 nm:nb≠mb
 bl:Y bits<=65536
 un:u.Nodup
 ub:∀x∈u,x<Y bits / (2*W)
 fr:Bo w ⟨b,2,Z⟩=false
theorem fu:∀(AW:Nat) (u:List Nat),u.Nodup->(∀x∈u,x<AW)->Y u<=AW
 | 0,[],_,_=>by simp
 | 0,x::u,_,h=>by have:=h x AO;omega
 | AW+1,u,hn,h=>by
  by_cases hr:AW∈u
  ·have h1:=fu AW (u.erase AW) (hn.erase AW) (fun x hx=>by
    grind)
   grind
  ·have h1:=fu AW u hn (fun x hx=>by
    grind)
   omega
def CG.ul(h:CG w b nb mb W bits u):Y u<=65536:=by
 have h1:=fu _ u h.un h.ub;have h2:=Sy (Y bits) (2*W);have:=h.bl;omega
def mG{α:Type}{sz:Nat}{enc:α->List An}{A:Option AS}{l:List α}(h:Arr sz enc w w A l)(hg:w.grownBy w' row)(hne:∀a,A=I a->I a.block≠row):Arr sz enc w' w' A l:=fun hl=>by
 obtain⟨b,off,rfl,BN,hc⟩:=h hl;exact⟨b,off,Q,Ck BN hg.size,fun i x hx j u hu=>hg.cell (hc i x hx j u hu) (show I b≠row from hne _ Q)⟩
def CG.kept(h:CG w b nb mb W bits u)(hg:w.grownBy w' row)(h1:I b≠row)(h2:I nb≠row)(h3:I mb≠row)(h4:∀A c,E w ⟨b,2,Z⟩=I (.slice A (Y bits) c)->∀a,A=I a->I a.block≠row):CG w' b nb mb W bits u:=by
 obtain⟨wd,c0,c1,⟨A,c,c2,ar,l1,l2,l3,l4⟩,d0,us,bm,nm,bl,un,ub,fr⟩:=h;exact⟨wd,hg.cell c0 h1,hg.cell c1 h1,⟨A,c,hg.cell c2 h1,mG ar hg (h4 A c c2),l1,l2,l3,fun a ha=>⟨(l4 a ha).1,Ck (l4 a ha).2 hg.size⟩⟩,hg.cell d0 h2,us.kept hg h3,bm,nm,bl,un,ub,(hg.frozen_far ⟨b,2,Z⟩ (Ch _ _ c2) h1).trans fr⟩
def CG.on(h:CG w b nb mb W bits u)(hb:Ag w w w'):CG w' b nb mb W bits u:=
 h.kept (Db hb) AO AO AO AO
def fw(w:V)(n:Nat):Ag w w (w.drewN n):=⟨Q,Q,Q,Bg _,fun _ _=>rfl⟩
def Yo(b nb:Nat)(w:V)(c0:E w ⟨b,0,Z⟩=I (.pointer (I ⟨nb,0,Z⟩))):AL AE 148 #[.pointer (I ⟨b,0,Z⟩)] w fun e w'=>e=AN (.bool true)/\w=w':=by
 go_in;go_wp2;go_ret;exact⟨Q,Q⟩
def fy(b nb mb W:Nat)(bits:List Bool)(u:List Nat)(w:V)(h:CG w b nb mb W bits u):AL AE 193 #[.pointer (I ⟨b,0,Z⟩)] w fun e w'=>e=AN (.int .i64 ((Y bits / (2*W):Nat):Int))/\Ag w w w':=by
 obtain⟨wd,c0,c1,⟨A,c,c2,ar,l1,l2,l3,l4⟩,d0,us,bm,nm,bl,un,ub⟩:=h;have cV:=Yo b nb w c0;unfold maxLen at l2;obtain⟨AW,hR⟩:∃AW:Nat,Y bits / (2*W)=AW:=⟨_,Q⟩
 rw[hR];rcases wd with rfl | rfl | rfl
 all_goals(
  go_in;go_wp2_with(go_at_call 148;refine mqv (cV) ?_);go_quiet (fail);go_wp2;go_ret;exact⟨Cg (by rw[<-hR];simp),fw _ _⟩)
def zu(A:Option AS)(n c:Nat)(w:V):(binOp .eql 44 (.slice A n c) (.slice Z 0 0)).run AE w=.ok (.bool A.isNone) w:=Lib.run_eql_slice_nil w _ _ A n c 0 0 Tryz.underlying44
def Yp(A:Option AS)(c:Nat)(l:List Bool)(w:V)(hA:Arr 1 C4 w w A l)(nA:A=Z->c=0)(hl:Y l<=c)(hc:c<=maxLen)(hl2:Y l<=100000):
  AL AE 126 #[.slice A (Y l) c] w fun e w'=>∃v,e=AN v/\Own w' w 4 1 C4 v l/\Ag w w w':=by
 have hn:=fun w'=>zu A (Y l) c w'
 cases A with
 | none=>
  obtain rfl:c=0:=nA Q;obtain rfl:l=[]:=WC J;have UD:∀w',(binOp .eql 44 (.slice Z 0 0) (.slice Z 0 0)).run AE w'=.ok (.bool true) w':=fun w'=>hn w'
  clear hn;go_in;go_wp2;go_ret;exact⟨_,Q,Own.nil,Ae _ _⟩
 | some a=>
  have hsome:∀w',(binOp .eql 44 (.slice (I a) (Y l) c) (.slice Z 0 0)).run AE w'=.ok (.bool false) w':=fun w'=>hn w'
  have oe:=jD (α:=Bool) (sz:=1) (enc:=C4) w w 4 (Bg _);have oA:=hA.keep (AB (Ae _ _) (N #[] 4));have fB:(([]:List Bool).length+Y l)*1<=140737488355328:=by simp;omega
  have zv:↑w<=(Ao w (N #[] 4)).heap.size:=AO;clear hn;go_in;go_wp2_with(at_builtin;refine Wt Tryz.underlying44 Rn Dk XP ([]:List Bool) l oe oA nA fB zv ?_;intro v1 w1 Dy hb1;rw[Uy]at Dy);go_ret;exact⟨_,Q,Dy,(AB (Ae _ _) _).trans hb1⟩
def zx(W:Nat)(hW:W=8\/W=16\/W=32)(A:Option AS)(c:Nat)(l:List Bool)(w:V)(hA:Arr 1 C4 w w A l)(nA:A=Z->c=0)(hl:Y l<=c)(hc:c<=maxLen)(hl2:Y l<=65536):
  AL AE 117 #[.int .i64 W,.slice A (Y l) c] w fun e w'=>∃b nb mb,e=AN (.tuple #[.pointer (I ⟨b,0,Z⟩),.int .i64 0])/\CG w' b nb mb W l []/\w.heap.size<=b/\w.heap.size<=nb/\w.heap.size<=mb/\(∀A' c',E w' ⟨b,2,Z⟩=I (.slice A' (Y l) c')->∀a,A'=I a->w.heap.size<=a.block)/\Ag w w w':=by
 have hmm:=@run_makeMap AE;have d1:decide (65536<(Y l:Int))=false:=by simp;omega
 have cC:=qbw w fun w' hb=>Yp A c l w' (hA.on hb) nA hl hc J
 rcases hW with rfl | rfl | rfl
 all_goals(
  go_in;have w0:Ag w w (Ao w (.map #[] 0)):=AB (Ae _ _) _;have u0:=Kv.new w;have q1:Ag w w (Ao (Ao w (.map #[] 0)) (N #[.map (I w.heap.size)] 239)):=AB w0 _;have d0:E (Ao (Ao w (.map #[] 0)) (N #[.map (I w.heap.size)] 239)) ⟨↑w+1,0,Z⟩=I (.map (I w.heap.size)):=AO;go_wp2_with fail;refine(cC _ q1).mono ?_;rintro e w2⟨v2,rfl,CU,hb2⟩;have us2:=(u0.kept (Db (AB (Ae _ _) _)) AO).kept (Db hb2) AO;have d2:=AK hb2 d0;have lt2:w.heap.size+2<=w2.heap.size:=by have:=hb2.size;simpa using this
  have q2:=q1.trans (hb2.mono q1.size);obtain⟨A2,c2,rfl,l2,m2,n2,Nv⟩:=CU.form Dk
  have hbase:∀a,A2=I a->w.heap.size+2<=a.block/\a.block<↑w2:=fun a ha=>by
   subst ha;have:=Cp CU a.block Q;simpa using this
  clear cC u0 d0;go_wp2;go_ret2;refine⟨w2,↑w+1,w,Q,⟨AC,Cb Q,Cb Q,⟨A2,c2,Cb Q,Nv.on (AB (Ae _ _) _),l2,m2,n2,fun a ha=>by have:=hbase a ha;simp;omega⟩,AK (AB (Ae _ _) _) d2,us2.kept (Db (AB (Ae _ _) _)) AO,J,J,hl2,AO,AO,CJ _ _ _ _ _ (CB _ _)⟩,J,J,Bg _,?_,q2.alloc J _⟩;intro A' c' hc' a ha;rw[Cb (j:=2) Q]at hc';cases hc';have:=hbase a ha;omega)
end
section
variable{left:Lit->Bool}{s κ:Nat}{u:List Nat}
def Lo(u:List Nat)(s:Nat):Nat:=u.foldr (fun i k=>if i%2=s then max k (i+2)else k) s
theorem mY(s:Nat):∀u:List Nat,s<=Lo u s/\(Lo u s=s\/∃i∈u,i%2=s/\Lo u s=i+2)/\∀i∈u,i%2=s->i+2<=Lo u s
 | []=>⟨Bg _,.inl Q,AO⟩
 | i::u=>by
  obtain⟨h1,h2,h3⟩:=mY s u;have e:Lo (i::u) s=if i%2=s then max (Lo u s) (i+2)else Lo u s:=Q
  rw[e];by_cases hi:i%2=s
  ·rw[Bd hi]
   refine⟨J,?_,?_⟩
   ·rcases Nat.le_total (Lo u s) (i+2)with hm | hm
    ·exact .inr ⟨i,AO,hi,J⟩
    ·rw[Nat.max_eq_left hm]
     rcases h2 with h2 | ⟨j,hj,h4,h5⟩
     ·exact .inl h2
     ·exact .inr ⟨j,by simp[hj],h4,h5⟩
   ·intro j hj hjs
    rcases List.mem_cons.1 hj with rfl | hj
    ·omega
    ·have:=h3 j hj hjs;omega
  ·rw[AU hi]
   refine⟨h1,?_,?_⟩
   ·rcases h2 with h2 | ⟨j,hj,h4,h5⟩
    ·exact .inl h2
    ·exact .inr ⟨j,by simp[hj],h4,h5⟩
   ·intro j hj hjs
    rcases List.mem_cons.1 hj with rfl | hj
    ·exact(hi hjs).elim
    ·exact h3 j hj hjs
structure NxI(u:List Nat)(s:Nat)(left:Lit->Bool)(κ:Nat):Prop where
 ge:s<=κ
 at_:κ=s\/∃i∈u,i%2=s/\κ=i+2
 up:∀i∈u,left (.int .i64 (i:Int))=false->i%2=s->i+2<=κ
theorem NxI.done(h:NxI u s left κ)(h0:∀k,left k=false):κ=Lo u s:=by
 obtain⟨s1,s2,s3⟩:=mY s u;obtain⟨a,b,c⟩:=h
 grind
theorem NxI.step{n:Nat}(h:NxI u s left κ)(hn:n∈u):NxI u s (fun z=>left z && !z.sameKey (.int .i64 (n:Int))) (if n%2=s then max κ (n+2)else κ):=by
 obtain⟨a,b,c⟩:=h
 have key:∀i:Nat,(left (.int .i64 (i:Int)) && !(Lit.int .i64 (i:Int)).sameKey (.int .i64 (n:Int)))=false->i=n\/left (.int .i64 (i:Int))=false:=by
  intro i hi;by_cases Dp:i=n
  ·omega
  ·right
   have:(Lit.int .i64 (i:Int)).sameKey (.int .i64 (n:Int))=false:=sameKey_ne qsm
   grind
 by_cases hs:n%2=s
 ·rw[Bd hs]
  refine⟨J,?_,fun i hi hl his=>?_⟩
  all_goals grind
 ·rw[AU hs]
  refine⟨a,b,fun i hi hl his=>?_⟩
  grind
def zZ(nb mb:Nat)(u:List Nat)(s:Nat)(w:V)(hs:s<=1)(d0:E w ⟨nb,0,Z⟩=I (.map (I mb)))(us:Kv w mb u)(ub:∀x∈u,x<70000):
  AL AE 212 #[.pointer (I ⟨nb,0,Z⟩),.int .i64 s] w fun e w'=>e=AN (.int .i64 (Lo u s:Nat))/\Ag w w w':=by
 obtain⟨D,own,tidy,Mg⟩:=us;go_in;go_wp2_with(at_range;refine wpList_range_own _ Q _ 234 Q 3 3 UC underlying234 _ mb (Y u) D Q own ?_;intro w0 hrg0 hg0 hs0);go_frame;go_loopw [5,6] (fun kv _ wr=>∃(left:Lit->Bool) (cnt κ:Nat),kv=.int .i64 κ/\κ<=70010/\Aj (NxI u s left κ)/\wr.ranges AE 3 (plainElem AE 3) mb w (Y u) D left cnt/\Ag w w wr) (fun _ _ wr=>wr.rangeLeft mb w)
 case atStart=>
  refine⟨_,_,s,Q,J,F ⟨Bg _,.inl Q,fun i hi hl=>?_⟩,hrg0,(Ae _ _).grown hg0 (Bg _) AO⟩;have:=(Mg i).2 ⟨i,hi,rfl⟩;rw[this]at hl;cases hl
 case round=>
  obtain⟨left,cnt,κ,rfl,hκ,inv,hrg,hb⟩:=hrel
  go_wp2_with(first
   | (at_next;refine wpList_next_ranges_ii _ Q _ Q 3 3 .i64 .i64 UC underlying3 underlying3 mb w (Y u) _ _ _ Q hrg ?_ ?_)
   | go_in)
  ·intro _ hl0
   have hd:=F (inv.out.done hl0);go_wp2;go_ret;exact⟨Cg (by rw[hd.out]),hb⟩
  ·intro x c w1 mZ hwx hwc Mh hat am hlt ER hs1 hen
   obtain⟨n,hn,rfl⟩:=(Mg x).1 (has_true_of_atKey hat);have hn7:=ub n hn;have inv2:=F (inv.out.step hn);have hb1:=hb.grown ER hb.size AO;by_cases hp:n%2=s
   ·have e1:((n:Int)%2 == (s:Int))=true:=by simp;omega
    rw[Bd hp]at inv2;have hmx:(if(κ:Int)<(n:Int)+2 then(n:Int)+2 else(κ:Int))=((max κ (n+2):Nat):Int):=by split <;> omega
    go_wp2;exact⟨⟨_,mZ,max κ (n+2),by first | rfl | exact congrArg _ J,J,inv2,am,hb1⟩,by rw[am.left_eq,hrg.left_eq];exact hlt⟩
   ·have e1:((n:Int)%2 == (s:Int))=false:=by simp;omega
    rw[AU hp]at inv2;go_wp2;exact⟨⟨_,mZ,κ,Q,J,inv2,am,hb1⟩,by rw[am.left_eq,hrg.left_eq];exact hlt⟩
def JT(W:Nat)(bits:List Bool)(u:List Nat)(s:Int):Int:=if s=0\/s=1 then(if Y bits / (2*W)<=Lo u s.toNat then 14 else 0)else 2
def Dr(W:Nat)(bits:List Bool)(u:List Nat)(s:Int):Nat:=if JT W bits u s=0 then Lo u s.toNat else 0
def Aaa(b nb mb W:Nat)(bits:List Bool)(u:List Nat)(s:Int)(w:V)(h:CG w b nb mb W bits u):
  AL AE 168 #[.pointer (I ⟨b,0,Z⟩),.int .i64 s] w fun e w'=>e=AN (.tuple #[.int .i64 (Dr W bits u s:Nat),.int .i64 (JT W bits u s)])/\Ag w w w':=by
 have cV:=Yo b nb w h.c0;have c0:=h.c0;by_cases hs:s=0\/s=1
 ·obtain⟨k,rfl,hk⟩:∃k:Nat,s=(k:Int)/\k<=1:=by
   rcases hs with rfl | rfl
   ·exact⟨0,Q,AC⟩
   ·exact⟨1,Q,AC⟩
  have ub:∀x∈u,x<70000:=fun x hx=>by
   have h1:=h.ub x hx;have h2:=Sy (Y bits) (2*W);have:=h.bl;omega
  have cN:=zZ nb mb u k w hk h.d0 h.us ub;have cR:=qbw w fun w' hb=>fy b nb mb W bits u w' (h.on hb)
  have eE:JT W bits u (k:Int)=if Y bits / (2*W)<=Lo u k then 14 else 0:=by unfold JT;rw[Bd hs];rfl
  have eI:Dr W bits u (k:Int)=if JT W bits u (k:Int)=0 then Lo u k else 0:=Q
  rw[eI,eE];generalize bits.length / (2*W)=AW at*;generalize Lo u k=K at*;clear eI eE
  have ways:(((k:Int) != 0)=false)\/(((k:Int) != 0)=true/\((k:Int) != 1)=false):=by
   rcases hs with h | h
   ·left;simp;omega
   ·right;simp;omega
  clear hs;by_cases hr:AW<=K
  focus
   have d1:decide (AW<=K)=true:=qsu hr
   rw[Bd hr]
  rotate_left
  focus
   have d1:decide (AW<=K)=false:=qsu hr
   rw[AU hr]
  rotate_left
  all_goals
   rcases ways with hw | ⟨hw,hw2⟩
   all_goals(
    go_enter Tryz.func168,Tryz.ntmps168
    go_wp2_with(first
     | (go_at_call 148;refine mqv (cV) ?_)
     | (go_at_call 212;refine gqz cN fun w1 hb1=>?_)
     | (go_at_call 193;refine gqz (cR _ hb1) fun w2 hb2=>?_))
    go_ret2;exact⟨Q,AH hb1 hb2⟩)
 ·have eE:JT W bits u s=2:=by unfold JT;rw[AU hs]
  have eI:Dr W bits u s=0:=by unfold Dr;rw[eE];rfl
  rw[eE,eI];have h1:(s != 0)=true:=by simp;omega
  have h2:(s != 1)=true:=by simp;omega
  clear eE eI hs;go_enter Tryz.func168,Tryz.ntmps168;go_wp2_with(go_at_call 148;refine mqv (cV) ?_);go_ret2;exact⟨Q,Ae _ _⟩
end
open Go.Shelf
section
attribute [local go_sem] Oper.semAt_some
def Aaj(w key:Nat)(A:Option AS)(c:Nat)(m:List Bool)(v:V)(hw:Wd w)(hk:key<2^w)(h:Arr 1 C4 v v A m)(hl:Y m<=65536)(hc:Y m<=c)(Rp:c<=maxLen):
  CallsIn Fence.wide 10 AE 99 #[U O w,U AA key,R A (Y m) c] v fun e v'=>e=AN (Be #[U AA (Mi w key m),U O 0])/\Ag v v v':=by
 have hel:Aj (Gb (w:Int) key=0):=F (by rcases hw with rfl | rfl | rfl <;> (unfold Gb;rw[Bd AC];simp;exact hk));have fe:w<=32:=by rcases hw with h | h | h <;> omega
 have w0:0<w:=by rcases hw with h | h | h <;> omega
 have p64:2^w<=4294967296:=LT (by decide:0<2) fe;have P64:=F p64;have Hk:=F hk;have Hw:=F hw;clear p64 hk hw
 have cE:=nh (w:Int) key 1 (I ⟨↑v+2,0,Z⟩) (((v.alloc (N #[U O w] 3)).alloc (N #[U AA key] 22)).alloc (N #[U AA key] 22)) (by
  have:=Vs (enc:=Ym) (sz:=1) ((v.alloc (N #[U O w] 3)).alloc (N #[U AA key] 22)) [key] #[U AA key] 22 Q mv;simpa using this)
 rw[hel.out]at cE;have d1:decide (65536<(Y m:Int))=false:=by simp;omega
 have hF:∀f,Fence.wide.fn f:=fun _=>trivial
 refine callsIn_of_wp_marks func99 Q trivial ?_ Q;simp only[Tryz.ntmps99,List.size_toArray,List.length_cons,List.length_nil,Nat.reduceAdd,Nat.reduceSub,Array.replicate_succ,Array.replicate_zero,List.push_toArray,List.append_toArray,List.nil_append,List.cons_append]
 gi_wp2_with (first
  | (gi_at_call 145;refine(JU.2 cE).mono ?_;rintro e w' ⟨rfl,rfl⟩)
  | (gi_at_call 146;refine(JU.2 (Aaf _ _ _ _ _)).mono ?_;rintro e w' ⟨rfl,rfl⟩))
 obtain⟨wS,Rt⟩:∃wS,wS=((((((v.alloc (N #[U O w] 3)).alloc (N #[U AA key] 22)).alloc (N #[U AA key] 22)).alloc (N #[U AA 0] 22)).alloc (N #[U O w] 3)).alloc (N #[R A (Y m) c] 44)):=⟨_,Q⟩
 have sz:wS.heap.size=v.heap.size+6:=by rw[Rt];simp
 have c0:E wS ⟨v,0,Z⟩=I (U O w):=by rw[Rt];simp[go_sem]
 have c1:E wS ⟨↑v+1,0,Z⟩=I (U AA key):=by rw[Rt];simp[go_sem]
 have c3:E wS ⟨↑v+3,0,Z⟩=I (U AA 0):=by rw[Rt];simp[go_sem]
 have f3:Bo wS ⟨↑v+3,0,Z⟩=false:=by rw[Rt];simp[go_sem]
 have c4:E wS ⟨↑v+4,0,Z⟩=I (U O w):=by rw[Rt];simp[go_sem]
 have c5:E wS ⟨↑v+5,0,Z⟩=I (R A (Y m) c):=by rw[Rt];simp[go_sem]
 have f5:Bo wS ⟨↑v+5,0,Z⟩=false:=by rw[Rt];simp[go_sem]
 have hbS:Ag v v wS:=by rw[Rt];exact AB (AB (AB (AB (AB (AB (Ae _ _) _) _) _) _) _) _
 rw[<-Rt];clear Rt cE d1;have hn:∀{i j:Nat},i≠j->(⟨↑v+i,0,Z⟩:AS)≠⟨↑v+j,0,Z⟩:=fun h e=>by injection e with e;omega
 have UD:(⟨v,0,Z⟩:AS)≠⟨↑v+5,0,Z⟩:=by intro e;injection e with e;omega
 have hn3:(⟨v,0,Z⟩:AS)≠⟨↑v+3,0,Z⟩:=by intro e;injection e with e;omega
 refine Aai (α:=Nat) Q J (gf:=190) (lb:=#[AI (I ⟨↑v+5,0,Z⟩),AI (I ⟨↑v+4,0,Z⟩)]) Q trivial (enters_of func190 AG Q)
  (Rq:=fun x=>#[U AA x]) (Kp:=fun X Bp=>E Bp ⟨↑v+5,0,Z⟩=E X ⟨↑v+5,0,Z⟩/\Bo Bp ⟨↑v+5,0,Z⟩=Bo X ⟨↑v+5,0,Z⟩)
  (St:=fun X Bp=>Bp=X.drew\/∃u,Bp=X.setCell ⟨↑v+5,0,Z⟩ u) (OK:=fun x=>x<2^w) (xs:=Yl w m)
  (fun pre W=>(E W ⟨↑v+3,0,Z⟩=I (U AA (OL w key pre:Int))/\Bo W ⟨↑v+3,0,Z⟩=false/\E W ⟨v,0,Z⟩=I (U O w)/\E W ⟨↑v+1,0,Z⟩=I (U AA key)/\E W ⟨↑v+4,0,Z⟩=I (U O w)/\OL w key pre<2^w)/\Ag v v W)
  ?seq (fun h k=>⟨k.1.trans h.1,k.2.trans h.2⟩) ?putk ?keeps (fun _=>rfl)
  (OwnFrom.and (Own.from (fun s X Bp row hs hg hr=>⟨cell_kept hs.1 hg hr,(frozen_kept hs.1 hg hr).trans hs.2.1,cell_kept hs.2.2.1 hg hr,cell_kept hs.2.2.2.1 hg hr,cell_kept hs.2.2.2.2.1 hg hr,hs.2.2.2.2.2⟩) _) (ownFrom_below (Bg _) hbS.size))
  ?step ⟨⟨c3,f3,c0,c1,c4,Ow AC⟩,hbS⟩
  (fun x=>{tmps:=#[U O w,U AA key,R A (Y m) c,AI (I ⟨v,0,Z⟩),AI (I ⟨↑v+1,0,Z⟩),undef,U AA 0,U O 0,U O 0,AI (I ⟨↑v+3,0,Z⟩),U AA x,U O w,U AA key,R (I ⟨↑v+2,0,Z⟩) 1 1,U O 0,U O 0,Av false,undef,R A (Y m) c,U O (Y m),Av false,U O w,R A (Y m) c,
   .func (.func 190) #[] #[AI (I ⟨↑v+5,0,Z⟩),AI (I ⟨↑v+4,0,Z⟩)],U AA x,undef,undef,undef,undef,undef,undef,undef],defers:=[]}) ?assign ?body ?done
 case seq=>
  intro l Bi W hbW hJs hJI hY h0;have:=Aag l w A c m (v.heap.size+5) (v.heap.size+4) v W Bi Hw (fun pre x W hj hx=>hY pre x W hj hx) (fun pre W x hj=>hJs pre _ _ hj (.inr ⟨x,rfl⟩)) (fun pre W hj=>hJs pre _ _ hj (.inl Q)) (fun pre W hj=>⟨(hJI _ _ hj).2,(hJI _ _ hj).1.2.2.2.2.1⟩) h J hc Rp h0 (AK hbW c5) ((hbW.frozen (Ch _ _ c5)).trans f5);exact this
 case putk=>
  intro W l o o' hl ho Qe;have hne:↑v+5≠l:=J;exact⟨Fx (World.putObj_heap_other hne),WU (World.putObj_heap_other hne)⟩
 case keeps=>
  rintro X Bp (rfl | ⟨u,rfl⟩)
  ·exact KeepsOthers.drew _
  ·exact KeepsOthers.setCell _ _ _
 case step=>
  rintro s X Bp ⟨⟨e1,e2,e3,e4,e5,e6⟩,hb⟩ (rfl | ⟨u,rfl⟩)
  ·exact⟨⟨e1,e2,e3,e4,e5,e6⟩,hb.drew⟩
  ·refine⟨⟨?_,?_,?_,?_,?_,e6⟩,hb.setCell AO _⟩
   ·rw[GY _ _ _ _ (hn AC)];exact e1
   ·rw[GX];exact e2
   ·rw[GY _ _ _ _ UD.symm];exact e3
   ·rw[GY _ _ _ _ (hn AC)];exact e4
   ·rw[GY _ _ _ _ (hn AC)];exact e5
 case assign=>
  intro l x W K hK
  gi_wp2
  exact hK
 case body=>
  rintro l pre x W ⟨⟨e1,e2,e3,e4,e5,e6⟩,hb⟩ hx;have hX:=eY (a:=OL w key pre) (b:=x) (by have:=P64.out;omega) (by have:=P64.out;omega);have OP:OL w key pre ^^^ x<2^w:=VF e6 hx;have ct:=(JU (n:=7)).2 (zm w (OL w key pre ^^^ x) key W Hw OP Hk);have st:Aj (OL w key (pre++ [x])=gm w (OL w key pre ^^^ x) key):=F (zg _ _ _ _);have gl:=F (mf Hw key _ OP);clear OP e6 hx
  gi_wp2
  refine(CallsIn.inRound l ct).mono ?_;rintro e w'⟨rfl,rfl⟩
  gi_wp2
  refine⟨(KeepsOthers.setCell _ _ _).from _,⟨?_,?_⟩,⟨?_,?_,?_,?_,?_,?_⟩,?_⟩
  ·rw[GY _ _ _ _ (hn AC)]
  ·rw[GX]
  ·rw[st.out];exact TK _ _ _ (by rw[e1];rfl)
  ·rw[GX];exact e2
  ·rw[GY _ _ _ _ hn3.symm];exact e3
  ·rw[GY _ _ _ _ (hn AC)];exact e4
  ·rw[GY _ _ _ _ (hn AC)];exact e5
  ·rw[st.out];exact gl.out
  ·exact hb.setCell AO _
 case done=>
  rintro D W hD ⟨⟨e1,e2,e3,e4,e5,e6⟩,hb⟩ hK
  gi_wp2
  refine⟨AO,.inl ⟨_,_,rfl,run_takeDeferred hK,?_⟩⟩;exact⟨_,results_tmp2 Q _ _ _,Q,hb.trans (belowK_b (w:=v) (Bg _) W D _ _ J hK Q Q)⟩
def nj(w:Int)(key:Nat)(A:Option AS)(c:Nat)(m:List Bool)(v:V)(h:Arr 1 C4 v v A m)(hc:Y m<=c)(Rp:c<=maxLen):
  AL AE 99 #[U O w,U AA key,R A (Y m) c] v fun e v'=>e=AN (Be #[U AA (Mj w key m),U O (Ih w key m)])/\Ag v v v':=by
 have cE:=nh w key 1 (I ⟨↑v+2,0,Z⟩) (((v.alloc (N #[U O w] 3)).alloc (N #[U AA key] 22)).alloc (N #[U AA key] 22)) (by
  have:=Vs (enc:=Ym) (sz:=1) ((v.alloc (N #[U O w] 3)).alloc (N #[U AA key] 22)) [key] #[U AA key] 22 Q mv;simpa using this)
 by_cases h0:Gb w key=0
 ·rcases fH w with⟨n,rfl,hn,hB⟩ | ⟨hB,_,_,_⟩
  ·have hk:key<2^n:=by
    by_cases hk:key<2^n
    ·exact hk
    ·unfold Gb at h0;rw[Bd hB]at h0;simp[hk]at h0
   by_cases hl:65536<Y m
   ·obtain⟨f1,f2⟩:=Aad (m:=m) hB hk hl
    have F1:=F f1;have F2:=F f2;have d1:decide (65536<(Y m:Int))=true:=by simp;omega
    rw[h0]at cE;clear f1 f2 hB hk h0;go_enter func99,Tryz.ntmps99;go_wp2_with(go_at_call 145;refine mqv (cE) ?_);go_ret2;exact⟨by rw[F1.out,F2.out];rfl,AB (AB (AB (Ae _ _) _) _) _⟩
   ·obtain⟨f1,f2⟩:=Aae (m:=m) hB hk hl
    rw[f1,f2];exact JU.1 (Aaj n key A c m v hn hk h J hc Rp)
  ·exfalso
   unfold Gb at h0;rw[AU (by simp[hB])]at h0;cases h0
 ·have f1:Ih w key m=Gb w key:=by unfold Ih;rw[AU h0]
  have f2:Mj w key m=0:=by unfold Mj;rw[f1,AU h0]
  have F1:=F f1;have F2:=F f2;have d1:(Gb w key != 0)=true:=qsu h0;clear f1 f2 h0;go_enter func99,Tryz.ntmps99;go_wp2_with(go_at_call 145;refine mqv (cE) ?_);go_ret2;exact⟨by rw[F1.out,F2.out];rfl,AB (AB (AB (Ae _ _) _) _) _⟩
end
def Ny(w:Int)(key:Nat)(m:List Bool):Int:=if 512<Y m then 4 else Ih w key m
def JV(w:Int)(key:Nat)(m:List Bool):Nat:=if 512<Y m then 0 else Mj w key m
def cfE(w:Int)(key:Nat)(m:List Bool)(d:Nat):Int:=if Ny w key m=0/\JV w key m≠d then 19 else Ny w key m
def nr(w:Int)(key:Nat)(A:Option AS)(c:Nat)(m:List Bool)(v:V)(h:Arr 1 C4 v v A m)(hc:Y m<=c)(Rp:c<=maxLen):
  AL AE 41 #[U O w,U AA key,R A (Y m) c] v fun e v'=>e=AN (Be #[U AA (JV w key m),U O (Ny w key m)])/\Ag v v v':=by
 by_cases hl:512<Y m
 ·have F1:Aj (Ny w key m=4/\JV w key m=0):=F ⟨by unfold Ny;rw[Bd hl],by unfold JV;rw[Bd hl]⟩
  have d1:decide (512<(Y m:Int))=true:=by simp;omega
  go_in;go_wp2;go_ret2;exact⟨by rw[F1.out.1,F1.out.2];rfl,Ae _ _⟩
 ·have F1:Aj (Ny w key m=Ih w key m/\JV w key m=Mj w key m):=F ⟨by unfold Ny;rw[AU hl],by unfold JV;rw[AU hl]⟩
  have d1:decide (512<(Y m:Int))=false:=by simp;omega
  have cH:=nj w key A c m v h hc Rp;go_in;go_wp2_with(go_at_call 99;refine gqz cH fun w1 hb1=>?_);go_ret2;exact⟨by rw[F1.out.1,F1.out.2];rfl,hb1⟩
theorem Aak(w:Int)(key:Nat)(m:List Bool)(d:Nat):
  (cfE w key m d=Ny w key m/\(Ny w key m == 0)=false)\/(cfE w key m d=0/\Ny w key m=0/\JV w key m=d)\/(cfE w key m d=19/\Ny w key m=0/\((JV w key m:Int) != (d:Int))=true):=by
 grind [cfE,Ny,JV]
def Aal(w:Int)(key d:Nat)(A:Option AS)(c:Nat)(m:List Bool)(v:V)(h:Arr 1 C4 v v A m)(hc:Y m<=c)(Rp:c<=maxLen):
  AL AE 237 #[U O w,U AA key,R A (Y m) c,U AA d] v fun e v'=>e=AN (U O (cfE w key m d))/\Ag v v v':=by
 have cD:=nr w key A c m v h hc Rp;have cs:=Aak w key m d;generalize Ny w key m=AM at*;generalize JV w key m=AP at*;generalize cfE w key m d=AY at*;rcases cs with⟨rfl,h1⟩ | ⟨rfl,rfl,rfl⟩ | ⟨rfl,rfl,h2⟩
 all_goals(
  go_in;go_wp2_with(go_at_call 41;refine gqz cD fun w1 hb1=>?_);go_ret;exact⟨Q,hb1⟩)
section
variable{key w:Nat}
theorem horner_lt(hw:Wd w)(cs:List Nat)(h:∀c∈cs,c<2^w):OL w key cs<2^w:=by
 have go:∀(cs:List Nat) (g:Nat),g<2^w->(∀c∈cs,c<2^w)->cs.foldl (fun h c=>gm w (h ^^^ c) key) g<2^w:=by
  intro cs
  induction cs with
  | nil=>grind
  | cons c cs ih=>intro g hg hc;exact ih _ (mf hw _ _ (VF hg (hc c AO))) (fun y hy=>hc y (by simp[hy]))
 grind [OL,Wd,gm]
theorem fX(hw:Wd w)(m:List Bool):Mi w key m<2^w:=
 horner_lt hw _ (mi (by grind [Wd]) m)
theorem Aam(hw:Wd w)(m:List Bool):Mi w key m<2^64:=
 Ck (fX hw m) (LT AC (by grind [Wd]))
end
section
variable{m:List Bool}{n pad:Nat}
def Lr(w:Int)(key pad:Nat)(m:List Bool):Int:=if II w=true/\¬pad<2^w.toNat then 3 else Ih w key m
def Ml(w:Int)(key pad:Nat)(m:List Bool):Nat:=if Lr w key pad m=0 then Mi w.toNat key m ^^^ pad else 0
theorem Aan{w:Int}(h:II w=false)(key pad:Nat)(m:List Bool):Lr w key pad m=2/\Ml w key pad m=0:=by
 grind [Lr,Ml,II,Aac]
theorem Aao(h:II (n:Int)=true)(key:Nat)(hp:¬pad<2^n)(m:List Bool):Lr n key pad m=3/\Ml n key pad m=0:=by
 grind [Lr,Ml,II]
theorem Aap(key:Nat)(hp:pad<2^n)(he:Ih n key m≠0):Lr n key pad m=Ih n key m/\Ml n key pad m=0:=by
 grind [Lr,Ih,Ml]
theorem Aaq(key:Nat)(hp:pad<2^n)(he:Ih n key m=0):Lr n key pad m=0/\Ml n key pad m=Mi n key m ^^^ pad:=by
 grind [Lr,Ml,Mi,Ih]
theorem nu(h:Wd n):((n:Int) != 8)=false\/(((n:Int) != 8)=true/\((n:Int) != 16)=false)\/(((n:Int) != 8)=true/\((n:Int) != 16)=true/\((n:Int) != 32)=false):=by
 grind [Wd]
def nE(w:Int)(key pad:Nat)(A:Option AS)(c:Nat)(m:List Bool)(v:V)(h:Arr 1 C4 v v A m)(hc:Y m<=c)(Rp:c<=maxLen):
  AL AE 195 #[U O w,U AA key,U AA pad,R A (Y m) c] v fun e v'=>e=AN (Be #[U AA (Ml w key pad m),U O (Lr w key pad m)])/\Ag v v v':=by
 rcases fH w with⟨n,rfl,hn,hB⟩ | ⟨hB,h8,h16,SF⟩
 ·have s1:=nf (key:=pad) (w:=n)
  have n32:n<=32:=by rcases hn with h | h | h <;> omega
  by_cases h1:pad<2^n
  ·rw[Ds (qsu h1)]at s1
   have cH:=nj n key A c m v h hc Rp;by_cases he:Ih n key m=0
   focus
    obtain⟨e1,e2⟩:=Aaq key h1 he
    have hN:Mj n key m=Mi n key m:=by unfold Mj;rw[Bd he];simp
    rw[he,hN]at cH;have hx:=mr (Aam (key:=key) hn m) (Ck h1 (LT AC (show n<=64 by omega)));rw[e1,e2];generalize Mi n key m=H at*;clear e1 e2 he hN h1 hB
   rotate_left
   focus
    obtain⟨e1,e2⟩:=Aap key h1 he
    have he':(Ih n key m != 0)=true:=qsu he;rw[e1,e2];generalize Ih n key m=AM at*;generalize Mj n key m=AP at*;clear e1 e2 he h1 hB
   rotate_left
   all_goals
    rcases nu hn with h8 | ⟨h8,h16⟩ | ⟨h8,h16,SF⟩
    all_goals(
     clear hn;go_enter Tryz.func195,Tryz.ntmps195;go_wp2_with(go_at_call 99;refine gqz cH fun w1 hb1=>?_);go_ret2;exact⟨Q,hb1⟩)
  ·rw[Er (qsu h1)]at s1
   obtain⟨e1,e2⟩:=Aao hB key h1 m;rw[e1,e2];clear e1 e2 hB h1;rcases nu hn with h8 | ⟨h8,h16⟩ | ⟨h8,h16,SF⟩
   all_goals(
    clear hn;go_enter Tryz.func195,Tryz.ntmps195;go_wp2;go_ret2;exact⟨Q,Ae _ _⟩)
 ·obtain⟨e1,e2⟩:=Aan hB key pad m
  have g8:(w != 8)=true:=qsu h8;have g16:(w != 16)=true:=qsu h16;have g32:(w != 32)=true:=qsu SF;rw[e1,e2];clear e1 e2 hB;go_enter Tryz.func195,Tryz.ntmps195;go_wp2;go_ret2;exact⟨Q,Ae _ _⟩
end
def au(A:Option AS)(c:Nat)(l:List Bool)(w:V)(h:Arr 1 C4 w w A l)(hl:Y l<=40):
  AL AE 194 #[.slice A (Y l) c] w fun e w'=>e=AN (.tuple #[.int .u64 (DW l),.int .i64 0])/\w=w':=by
 have d1:decide (64<(Y l:Int))=false:=by simp;omega
 go_in;go_wp2_with(go_at_call 191;refine mqv (fo A c l w h hl) ?_);go_ret2;exact⟨Q,Q⟩
def Qf(W:Nat)(bits:List Bool)(n:Nat):Nat:=DW ((bits.drop (2*W*n)).take W)
def OR(W:Nat)(bits:List Bool)(n:Nat):Nat:=DW (((bits.drop (2*W*n)).drop W).take W)
def EX(W:Nat)(bits:List Bool)(u:List Nat)(n:Int)(m:List Bool):Int:=
 if n<0 then 3 else if((Y bits / (2*W):Nat):Int)<=n then 14 else if n.toNat∈u then 16 else Lr W (Qf W bits n.toNat) (OR W bits n.toNat) m
def Ky(W:Nat)(bits:List Bool)(n:Int)(m:List Bool):Nat:=Ml W (Qf W bits n.toNat) (OR W bits n.toNat) m
def Aar(T:Nat)(x:Nat)(v:An)(w:V)(h:E w ⟨x,0,Z⟩=I v)(hf:Bo w ⟨x,0,Z⟩=false)(hv:v.oneCell'=true):
  AL AE 213 #[.int .u64 T,.pointer (I ⟨x,0,Z⟩)] w fun e w'=>e=AN (.int .i64 0)/\w'=Ai w ⟨x,0,Z⟩ (.int .u64 T):=by
 go_in;go_wp2;go_ret;exact⟨Q,Q⟩
def Aas(T t:Nat)(x:Nat)(w:V)(h:E w ⟨x,0,Z⟩=I (.int .u64 t)):
  AL AE 156 #[.int .u64 T,.pointer (I ⟨x,0,Z⟩)] w fun e w'=>e=AN (.int .i64 (if t=T then 0 else 15))/\w=w':=by
 by_cases h2:t=T
 ·subst h2
  rw[Bd Q];go_in;go_wp2;go_ret;exact⟨Q,Q⟩
 ·rw[AU h2]
  have e1:((t:Int) != (T:Int))=true:=by simp;omega
  go_in;go_wp2;go_ret;exact⟨Q,Q⟩
def nF{P:Program}{ops:Array Oper}{C:V->Prop}{Bn:Act->Prop}{a:Act}{o:Oper}{rest:List Oper}(hg:o.guard=Z)(m:Operand)(t:TypeId)(hop:o.op=Op.call {callee:= .builtin .len,args:=#[m],argTypes:=#[t]})
  (v:An) (mb:Nat) (hm:a.eval m=.map (I mb)) (hl:∀w,C w->(Builtin.len_ #[t] o.type #[.map (I mb)]).run P w=.ok v w) (h:wpQuiet P ops C Bn rest (a.put o.dst v)):wpQuiet P ops C Bn (o::rest) a:=by
 refine BigFrame.wpQuiet_want (by simp[Region.wanted,hg]) fun K hK=>⟨v,fun w hw=>?_,hK _ h⟩
 unfold Oper.quietAt;simp[execOp,hop,resolve,invoke,builtin,hm,hl w hw,Result.andThen];exact⟨Q,Q⟩
theorem CG.more{w w':V}{b nb mb W:Nat}{bits:List Bool}{u:List Nat}{k:Nat}{D:DataW Unit}{d:DataW Unit}(h:CG w b nb mb W bits u)(hg:w.grownBy w' (I mb))(own:w'.ownsMap AE 3 (plainElem AE 3) mb (Y u+1) (D.put (.int .i64 (k:Int)) d))
  (tidy:Tidy D) (Mg:∀c:Int,has D (.int .i64 c)=true↔∃n∈u,(n:Int)=c) (hu:¬k∈u) (hk:k<Y bits / (2*W)) (hkey:WideAt.IsKeyLit (.int .i64 (k:Int))):CG w' b nb mb W bits (k::u):=by
 obtain⟨wd,c0,c1,⟨A,c,c2,ar,l1,l2,l3,l4⟩,d0,us,bm,nm,bl,un,ub,fr⟩:=h;refine⟨wd,hg.cell c0 (by grind),hg.cell c1 (by grind),⟨A,c,hg.cell c2 (by grind),mG ar hg (fun a ha=>by grind),l1,l2,l3,fun a ha=>⟨(l4 a ha).1,Ck (l4 a ha).2 hg.size⟩⟩,hg.cell d0 (by grind),⟨_,own,tidy.put hkey d,fun c=>?_⟩,bm,nm,bl,List.nodup_cons.2 ⟨hu,un⟩,fun x hx=>?_,(hg.frozen_far ⟨b,2,Z⟩ (Ch _ _ c2) (by grind)).trans fr⟩
 ·by_cases hc:c=(k:Int)
  ·subst hc
   rw[has_put_same tidy.isMap hkey];simp
  ·rw[has_put_other (by grind),Mg]
   grind
 grind
def Aat(b nb mb W:Nat)(bits:List Bool)(u:List Nat)(n:Int)(M:Option AS)(mc:Nat)(m:List Bool)(x:Nat)(w:V)(h:CG w b nb mb W bits u)(hM:Arr 1 C4 w w M m)(lm:Y m<=mc)(mm:mc<=maxLen)
  (hx:E w ⟨x,0,Z⟩=I (.int .u64 0)) (hf:Bo w ⟨x,0,Z⟩=false) (hb:b<x) (hnb:nb<x) (hmb:mb<x) (hbl:∀A c,E w ⟨b,2,Z⟩=I (.slice A (Y bits) c)->∀a,A=I a->a.block<x):
  AL AE 155 #[.pointer (I ⟨b,0,Z⟩),.int .i64 n,.slice M (Y m) mc,.func (.func 213) #[] #[.pointer (I ⟨x,0,Z⟩)]] w fun e w'=>e=AN (.int .i64 (EX W bits u n m))/\
   ((EX W bits u n m≠0/\Ag w w w')\/(EX W bits u n m=0/\CG w' b nb mb W bits (n.toNat::u)/\E w' ⟨x,0,Z⟩=I (.int .u64 (Ky W bits n m))/\∃wm,Ag x w wm/\wm.grownBy w' (I mb))):=by
 have cV:=Yo b nb w h.c0;have cR:=fy b nb mb W bits u w h;have Qg:Y bits / (2*W)<=65536:=Br (Sy _ _) h.bl;obtain⟨AW,hR⟩:∃AW:Nat,Y bits / (2*W)=AW:=⟨_,Q⟩
 rw[hR]at cR Qg;by_cases h1:n<0
 ·have e1:EX W bits u n m=3:=by unfold EX;rw[Bd h1]
  rw[e1];have d1:decide (n<0)=true:=qsu h1;clear e1 h1;go_in;go_wp2_with(go_at_call 148;refine mqv (cV) ?_);go_ret;exact⟨Q,.inl ⟨AC,Ae _ _⟩⟩
 have d1:decide (n<0)=false:=qsu h1;by_cases h2:(AW:Int)<=n
 ·have e1:EX W bits u n m=14:=by unfold EX;rw[AU h1,hR,Bd h2]
  rw[e1];have d2:decide ((AW:Int)<=n)=true:=qsu h2;clear e1 h1 h2;go_in
  go_wp2_with(first
   | (go_at_call 148;refine mqv (cV) ?_)
   | (go_at_call 193;refine gqz cR fun w1 hb1=>?_))
  go_ret;exact⟨Q,.inl ⟨AC,hb1⟩⟩
 have d2:decide ((AW:Int)<=n)=false:=qsu h2;obtain⟨k,rfl⟩:=DV (show 0<=n by omega);have kR:k<AW:=J;have Aau:k<9223372036854775808:=J;have hP:=h;obtain⟨wd,c0,c1,⟨A,c,c2,ar,l1,l2,l3,l4⟩,d0,us,bm,nm,bl,un,ub⟩:=h;obtain⟨D,own,tidy,Mg⟩:=us;have hkey:keyOf AE 3 (.int .i64 (k:Int))=I (.int .i64 (k:Int)):=keyOf_int_mk underlying3 (VI J);by_cases hu:k∈u
 ·have e1:EX W bits u k m=16:=by unfold EX;rw[AU J,hR,AU h2];simp[hu]
  rw[e1];have hh:=(Mg k).2 ⟨k,hu,rfl⟩;clear e1 h1 h2 Mg;go_in
  go_wp2_with(first
   | (go_at_call 148;refine mqv (cV) ?_)
   | (go_at_call 193;refine gqz cR fun w1 hb1=>?_;have z0:=AK hb1 c0;have z1:=AK hb1 d0;have Ii:=own.kept (Db hb1) AO)
   | (at_lookup;refine av _ Q _ _ 234 Q 3 3 .i64 UC underlying234 underlying3 (ag _) mb (Y u) D Q Ii _ _ Q hkey ?_;intro c9 hat hwc;rw[hh]))
  go_ret;exact⟨Q,.inl ⟨AC,hb1⟩⟩
 ·have hh:has D (.int .i64 (k:Int))=false:=by
   cases hc:has D (.int .i64 (k:Int))with
   | false=>rfl
   | true=>
    obtain⟨n,hn,he⟩:=(Mg k).1 hc;have:n=k:=J;exact(hu (this▸hn)).elim
  have e1:EX W bits u k m=Lr W (Qf W bits k) (OR W bits k) m:=by unfold EX;rw[AU J,hR,AU h2];simp[hu]
  have e2:Ky W bits k m=Ml W (Qf W bits k) (OR W bits k) m:=Q
  have hWn:2*W*k+2*W<=Y bits:=by
   have h3:=Nat.div_mul_le_self (Y bits) (2*W);rw[hR]at h3;have h4:(k+1)*(2*W)<=AW*(2*W):=PX _ J;rw[Ol,Nat.one_mul,Om k]at h4;omega
  have W0:0<W:=by rcases wd with rfl | rfl | rfl <;> decide
  obtain⟨ab,ao,rfl,hab,_⟩:=ar (by rintro rfl;simp at hWn;omega);have OS:Arr 1 C4 w w (I ⟨ab,ao+2*W*k,Z⟩) (bits.drop (2*W*k)):=by have:=ar.drop (2*W*k);rwa [JK]at this
  have lD:(bits.drop (2*W*k)).length=Y bits-2*W*k:=AO;have arK:=WT OS W;have lK:((bits.drop (2*W*k)).take W).length=W:=by rw[DC,lD];omega
  have Yv:Arr 1 C4 w w (I ⟨ab,ao+2*W*k+W,Z⟩) ((bits.drop (2*W*k)).drop W):=by have:=OS.drop W;rwa [JK]at this
  have Ru:=WT Yv W;have lP:(((bits.drop (2*W*k)).drop W).take W).length=W:=by rw[DC,SI,lD];omega
  have cK:=fun cc w' (hb:Ag w w w')=>au _ cc _ w' (arK.on hb) (by rw[lK];rcases wd with rfl | rfl | rfl <;> decide)
  have cP:=fun cc w' (hb:Ag w w w')=>au _ cc _ w' (Ru.on hb) (by rw[lP];rcases wd with rfl | rfl | rfl <;> decide)
  have cT:=qbw w fun w' hb=>nE W (Qf W bits k) (OR W bits k) M mc m w' (hM.on hb) lm mm
  simp only[lK,lP]at cK cP;rw[e1,e2];rw[show DW ((bits.drop (2*W*k)).take W)=Qf W bits k from rfl]at cK;rw[show DW (((bits.drop (2*W*k)).drop W).take W)=OR W bits k from rfl]at cP;generalize Qf W bits k=key at*;generalize OR W bits k=pad at*;generalize Lr W key pad m=AM at*;generalize Ml W key pad m=T at*;unfold maxLen at l2;have xlt:x<↑w:=Ch w _ hx;clear e1 e2 h1 h2 lD lK lP OS arK Ru Yv;rcases wd with rfl | rfl | rfl
  all_goals(
   simp only[Nat.reduceMul]at cK cP hWn;go_in
   go_wp2_with(first
    | (go_at_call 148;refine mqv (cV) ?_)
    | (go_at_call 193;refine gqz cR fun w1 hb1=>?_;have z0:=AK hb1 c0;have z1:=AK hb1 d0;have z2:=AK hb1 c1;have z3:=AK hb1 c2;have Ii:=own.kept (Db hb1) AO)
    | (at_lookup;refine av _ Q _ _ 234 Q 3 3 .i64 UC underlying234 underlying3 (ag _) mb (Y u) D Q Ii _ _ Q hkey ?_;intro c9 hat hwc;rw[hh]))
   go_quiet (fail);have bq:Ag w w (w1.drewN nq):=AH hb1 (fw _ _);have y0:=AK bq c0;have y1:=AK bq d0;have y2:=AK bq c1;clear z0 z1 z2 z3 Ii;generalize w1.drewN nq=w2 at*;go_wp2_with(go_at_call 194;refine mqv (cK _ _ bq) ?_);have L2:=Di y2;have cPL:=fun cc (x:ED w2)=>dI (cP cc x.w (AH bq x.2))
   refine Jf AG AG ?_;(repeat(go_big_quiet_step (((go_at_call 194;exact cPL _ _)))));refine GP ?_;rintro w3⟨⟨_,hb3⟩,rfl⟩;have q3:=AH bq hb3;clear cP cPL cK L2 cR cV;have x2:=AK hb3 y2;by_cases hE:AM=0
   ·subst hE
    go_wp2_with(go_at_call 195;refine gqz (cT _ q3) fun w4 hb4=>?_;have q4:=AH q3 hb4);have f4:=(q4.frozen (p:=⟨x,0,Z⟩) xlt).trans hf;refine gqz (Aar T x (.int .u64 0) w4 (AK q4 hx) f4 Q) fun w5 Ct=>?_;have g5:w4.grownBy w5 (I x):=by rw[Ct];exact Dt _ _ _ _
    have B5:Ag x w4 w5:=by rw[Ct];exact(Ae _ _).setCell (p:=⟨x,0,Z⟩) (Bg _) _
    have z5:E w5 ⟨x,0,Z⟩=I (.int .u64 T):=by rw[Ct];exact World.cell?_setCell_same _ _ _ (AK q4 hx)
    clear Ct f4 cT;have Q5:=(q4.mono J).trans B5
    have xa:∀A c,E w4 ⟨b,2,Z⟩=I (.slice A (Y bits) c)->∀a,A=I a->I a.block≠I x:=fun A' c' hc' a ha=>by
     rw[AK q4 c2]at hc';cases hc';cases ha;have:=hbl _ _ c2 _ Q;simp at this ⊢;omega
    have P5:=(hP.on q4).kept g5 qsm qsm qsm xa;have Ed:=(own.kept (Db q4) AO).kept g5 qsm;have k0:=Di P5.c0;have k1:=Di P5.d0;have hlen:=fun(y:ED w5)=>(Ed.kept (Db y.2) AO).len underlying234 3
    go_wp2_with fail;refine dZ 16 AG AG ?_;simp only[List.take_succ_cons,List.take_zero,List.drop_succ_cons,List.drop_zero]
    repeat(go_big_quiet_step (fail))
    refine nF Q _ _ Q (.int .i64 (Maps.size D)) mb Q (fun w' ⟨y,hy⟩=>by rw[hy];exact hlen y) ?_;refine zq ?_;refine GP ?_;rintro w6⟨⟨_,BV⟩,rfl⟩;have Ls:=Ed.kept (Db BV) AO;have P6:=P5.on BV;have ul:=hP.ul;have sD:=own.size_le;have ulm:Y u<maxLen:=by unfold maxLen;omega
    have wfs:(Lit.int .i64 (Maps.size D:Int)).wf=true:=VI J;have z6:=AK BV z5;go_wp2_with(at_mapUpdate;refine wpList_mapUpdate_own _ Q _ _ _ 234 Q 3 3 UC underlying234 _ mb (Y u) D Q Ls ulm _ _ _ Q Q hkey _ [] (plainElem_int underlying3 wfs) ?_;intro w7 Mm hg7);go_ret;exact⟨Q,⟨P6.more hg7 Mm tidy Mg hu (qrf hR kR) (by simp[WideAt.IsKeyLit]),hg7.cell z6 qsm,_,Q5.trans (BV.mono (by have:=Q5.size;omega)),hg7⟩⟩
   ·have hE':(AM == 0)=false:=qsu hE
    go_wp2_with(go_at_call 195;refine gqz (cT _ q3) fun w4 hb4=>?_;have q4:=AH q3 hb4);go_ret;exact⟨Q,.inl ⟨hE,q4⟩⟩)
def fY{w w':V}(h:Ag w w w')(row:Option Nat):w.grownBy w' row:=(Db h).but row
def nG(b nb mb W:Nat)(bits:List Bool)(u:List Nat)(n:Int)(M:Option AS)(mc:Nat)(m:List Bool)(w:V)(h:CG w b nb mb W bits u)(hM:Arr 1 C4 w w M m)(lm:Y m<=mc)(mm:mc<=maxLen):
  AL AE 169 #[.pointer (I ⟨b,0,Z⟩),.int .i64 n,.slice M (Y m) mc] w fun e w'=>e=AN (.tuple #[.int .u64 (if EX W bits u n m=0 then Ky W bits n m else 0),.int .i64 (EX W bits u n m)])/\
   ((EX W bits u n m≠0/\Ag w w w')\/(EX W bits u n m=0/\CG w' b nb mb W bits (n.toNat::u)/\w.grownBy w' (I mb))):=by
 have q1:Ag w w (Ao w (N #[.int .u64 0] 22)):=AB (Ae _ _) _;have z1:E (Ao w (N #[.int .u64 0] 22)) ⟨w,0,Z⟩=I (.int .u64 0):=Cb Q;have lt:∀{a:AS} {v:An},E w a=I v->a.block<↑w:=fun hc=>Ch w _ hc
 have hbl:∀A c,E (Ao w (N #[.int .u64 0] 22)) ⟨b,2,Z⟩=I (.slice A (Y bits) c)->∀a,A=I a->a.block<↑w:=fun A c hc a ha=>by
  obtain⟨A0,JW,h2,_,_,_,_,h4⟩:=h.c2;rw[AK q1 h2]at hc;cases hc;exact(h4 a ha).2
 have cW:=Aat b nb mb W bits u n M mc m w _ (h.on q1) (hM.on q1) lm mm z1 AO (lt h.c0) (lt h.d0) h.us.lt hbl;generalize EX W bits u n m=AM at*;generalize Ky W bits n m=T at*;by_cases hE:AM=0
 ·subst hE
  simp only[ne_eq,not_true_eq_false,false_and,true_and,false_or,if_true]at cW ⊢;go_in;go_wp2_with(go_at_call 155;refine cW.mono ?_;rintro e w2 ⟨rfl,P2,z2,wm,B2,g2⟩);go_ret2;exact⟨Q,P2,(fY (q1.trans B2) _).trans g2⟩
 ·simp only[ne_eq,hE,not_false_eq_true,true_and,false_and,or_false,if_false]at cW ⊢
  go_in;go_wp2_with(go_at_call 155;refine gqz cW fun w2 hb2=>?_;have z2:=AK hb2 z1);go_ret2;exact⟨Q,AH q1 hb2⟩
def IJ(W:Nat)(bits:List Bool)(u:List Nat)(n:Int)(m:List Bool)(t:Nat):Int:=if EX W bits u n m=0 then(if t=Ky W bits n m then 0 else 15)else EX W bits u n m
def Aav(b nb mb W:Nat)(bits:List Bool)(u:List Nat)(n:Int)(M:Option AS)(mc:Nat)(m:List Bool)(x:Nat)(w:V)(h:CG w b nb mb W bits u)(hM:Arr 1 C4 w w M m)(lm:Y m<=mc)(mm:mc<=maxLen)
  (t:Nat) (hx:E w ⟨x,0,Z⟩=I (.int .u64 t)):
  AL AE 155 #[.pointer (I ⟨b,0,Z⟩),.int .i64 n,.slice M (Y m) mc,.func (.func 156) #[] #[.pointer (I ⟨x,0,Z⟩)]] w fun e w'=>e=AN (.int .i64 (IJ W bits u n m t))/\
   ((IJ W bits u n m t≠0/\Ag w w w')\/(IJ W bits u n m t=0/\CG w' b nb mb W bits (n.toNat::u)/\w.grownBy w' (I mb))):=by
 have cV:=Yo b nb w h.c0;have cR:=fy b nb mb W bits u w h;have Qg:Y bits / (2*W)<=65536:=Br (Sy _ _) h.bl;obtain⟨AW,hR⟩:∃AW:Nat,Y bits / (2*W)=AW:=⟨_,Q⟩
 rw[hR]at cR Qg;by_cases h1:n<0
 ·have e1:IJ W bits u n m t=3:=by unfold IJ EX;rw[Bd h1];rfl
  rw[e1];have d1:decide (n<0)=true:=qsu h1;clear e1 h1;go_in;go_wp2_with(go_at_call 148;refine mqv (cV) ?_);go_ret;exact⟨Q,.inl ⟨AC,Ae _ _⟩⟩
 have d1:decide (n<0)=false:=qsu h1;by_cases h2:(AW:Int)<=n
 ·have e1:IJ W bits u n m t=14:=by unfold IJ EX;rw[AU h1,hR,Bd h2];rfl
  rw[e1];have d2:decide ((AW:Int)<=n)=true:=qsu h2;clear e1 h1 h2;go_in
  go_wp2_with(first
   | (go_at_call 148;refine mqv (cV) ?_)
   | (go_at_call 193;refine gqz cR fun w1 hb1=>?_))
  go_ret;exact⟨Q,.inl ⟨AC,hb1⟩⟩
 have d2:decide ((AW:Int)<=n)=false:=qsu h2;obtain⟨k,rfl⟩:=DV (show 0<=n by omega);have kR:k<AW:=J;have Aau:k<9223372036854775808:=J;have hP:=h;obtain⟨wd,c0,c1,⟨A,c,c2,ar,l1,l2,l3,l4⟩,d0,us,bm,nm,bl,un,ub⟩:=h;obtain⟨D,own,tidy,Mg⟩:=us;have hkey:keyOf AE 3 (.int .i64 (k:Int))=I (.int .i64 (k:Int)):=keyOf_int_mk underlying3 (VI J);by_cases hu:k∈u
 ·have e0:EX W bits u k m=16:=by unfold EX;rw[AU J,hR,AU h2];simp[hu]
  have e1:IJ W bits u k m t=16:=by unfold IJ;rw[e0];rfl
  rw[e1];have hh:has D (.int .i64 (k:Int))=true:=(Mg k).2 ⟨k,hu,rfl⟩;clear e0 e1 h1 h2 Mg;go_in
  go_wp2_with(first
   | (go_at_call 148;refine mqv (cV) ?_)
   | (go_at_call 193;refine gqz cR fun w1 hb1=>?_;have z0:=AK hb1 c0;have z1:=AK hb1 d0;have Ii:=own.kept (Db hb1) AO)
   | (at_lookup;refine av _ Q _ _ 234 Q 3 3 .i64 UC underlying234 underlying3 (ag _) mb (Y u) D Q Ii _ _ Q hkey ?_;intro c9 hat hwc;rw[hh]))
  go_ret;exact⟨Q,.inl ⟨AC,hb1⟩⟩
 ·have hh:has D (.int .i64 (k:Int))=false:=by
   cases hc:has D (.int .i64 (k:Int))with
   | false=>rfl
   | true=>
    obtain⟨n,hn,he⟩:=(Mg k).1 hc;have:n=k:=J;exact(hu (this▸hn)).elim
  have e1:EX W bits u k m=Lr W (Qf W bits k) (OR W bits k) m:=by unfold EX;rw[AU J,hR,AU h2];simp[hu]
  have e2:Ky W bits k m=Ml W (Qf W bits k) (OR W bits k) m:=Q;have e3:IJ W bits u k m t=if EX W bits u k m=0 then(if t=Ky W bits k m then 0 else 15)else EX W bits u k m:=Q
  have hWn:2*W*k+2*W<=Y bits:=by
   have h3:=Nat.div_mul_le_self (Y bits) (2*W);rw[hR]at h3;have h4:(k+1)*(2*W)<=AW*(2*W):=PX _ J;rw[Ol,Nat.one_mul,Om k]at h4;omega
  have W0:0<W:=by rcases wd with rfl | rfl | rfl <;> decide
  obtain⟨ab,ao,rfl,hab,_⟩:=ar (by rintro rfl;simp at hWn;omega);have OS:Arr 1 C4 w w (I ⟨ab,ao+2*W*k,Z⟩) (bits.drop (2*W*k)):=by have:=ar.drop (2*W*k);rwa [JK]at this
  have lD:(bits.drop (2*W*k)).length=Y bits-2*W*k:=AO;have arK:=WT OS W;have lK:((bits.drop (2*W*k)).take W).length=W:=by rw[DC,lD];omega
  have Yv:Arr 1 C4 w w (I ⟨ab,ao+2*W*k+W,Z⟩) ((bits.drop (2*W*k)).drop W):=by have:=OS.drop W;rwa [JK]at this
  have Ru:=WT Yv W;have lP:(((bits.drop (2*W*k)).drop W).take W).length=W:=by rw[DC,SI,lD];omega
  have cK:=fun cc w' (hb:Ag w w w')=>au _ cc _ w' (arK.on hb) (by rw[lK];rcases wd with rfl | rfl | rfl <;> decide)
  have cP:=fun cc w' (hb:Ag w w w')=>au _ cc _ w' (Ru.on hb) (by rw[lP];rcases wd with rfl | rfl | rfl <;> decide)
  have cT:=qbw w fun w' hb=>nE W (Qf W bits k) (OR W bits k) M mc m w' (hM.on hb) lm mm
  simp only[lK,lP]at cK cP;rw[e3,e1,e2];rw[show DW ((bits.drop (2*W*k)).take W)=Qf W bits k from rfl]at cK;rw[show DW (((bits.drop (2*W*k)).drop W).take W)=OR W bits k from rfl]at cP;generalize Qf W bits k=key at*;generalize OR W bits k=pad at*;generalize Lr W key pad m=AM at*;generalize Ml W key pad m=T at*;obtain⟨G,hG⟩:∃G:Int,(if AM=0 then(if t=T then 0 else 15)else AM)=G:=⟨_,Q⟩
  rw[hG];have HG:=F hG;clear hG;unfold maxLen at l2;have xlt:x<↑w:=Ch w _ hx;clear e1 e2 e3 h1 h2 lD lK lP OS arK Ru Yv;rcases wd with rfl | rfl | rfl
  all_goals(
   simp only[Nat.reduceMul]at cK cP hWn;go_in
   go_wp2_with(first
    | (go_at_call 148;refine mqv (cV) ?_)
    | (go_at_call 193;refine gqz cR fun w1 hb1=>?_;have z0:=AK hb1 c0;have z1:=AK hb1 d0;have z2:=AK hb1 c1;have z3:=AK hb1 c2;have Ii:=own.kept (Db hb1) AO)
    | (at_lookup;refine av _ Q _ _ 234 Q 3 3 .i64 UC underlying234 underlying3 (ag _) mb (Y u) D Q Ii _ _ Q hkey ?_;intro c9 hat hwc;rw[hh]))
   go_quiet (fail);have bq:Ag w w (w1.drewN nq):=AH hb1 (fw _ _);have y0:E (w1.drewN nq) ⟨b,0,Z⟩=_:=AK bq c0;have y1:E (w1.drewN nq) ⟨nb,0,Z⟩=_:=AK bq d0;have y2:E (w1.drewN nq) ⟨b,1,Z⟩=_:=AK bq c1;clear z0 z1 z2 z3 Ii;generalize w1.drewN nq=w2 at*;go_wp2_with(go_at_call 194;refine mqv (cK _ _ bq) ?_);have L2:=Di y2;have cPL:=fun cc (x:ED w2)=>dI (cP cc x.w (AH bq x.2))
   refine Jf AG AG ?_;(repeat(go_big_quiet_step (((go_at_call 194;exact cPL _ _)))));refine GP ?_;rintro w3⟨⟨_,hb3⟩,rfl⟩;have q3:=AH bq hb3;clear cP cPL cK L2 cR cV;have x0:=AK hb3 y0;have x1:=AK hb3 y1;have x2:=AK hb3 y2;by_cases hE:AM=0
   ·subst hE
    go_wp2_with(go_at_call 195;refine gqz (cT _ q3) fun w4 hb4=>?_;have q4:=AH q3 hb4);refine(Aas T t x w4 (AK q4 hx)).mono ?_;rintro e w5⟨rfl,rfl⟩;clear cT;by_cases ht:t=T
    ·have hG0:=F (show G=0 by rw[<-HG.out];simp[ht])
     rw[Bd ht];have P5:=hP.on q4;have Ed:=own.kept (Db q4) AO;have k0:=Di P5.c0;have k1:=Di P5.d0;have hlen:=fun(y:ED w4)=>(Ed.kept (Db y.2) AO).len underlying234 3
     clear ht;go_wp2_with fail;refine dZ 16 AG AG ?_;simp only[List.take_succ_cons,List.take_zero,List.drop_succ_cons,List.drop_zero]
     repeat(go_big_quiet_step (fail))
     refine nF Q _ _ Q (.int .i64 (Maps.size D)) mb Q (fun w' ⟨y,hy⟩=>by rw[hy];exact hlen y) ?_;refine zq ?_;refine GP ?_;rintro w6⟨⟨_,BV⟩,rfl⟩;have Ls:=Ed.kept (Db BV) AO;have P6:=P5.on BV;have ul:=hP.ul;have sD:=own.size_le;have ulm:Y u<maxLen:=by unfold maxLen;omega
     have wfs:(Lit.int .i64 (Maps.size D:Int)).wf=true:=VI J;go_wp2_with(at_mapUpdate;refine wpList_mapUpdate_own _ Q _ _ _ 234 Q 3 3 UC underlying234 _ mb (Y u) D Q Ls ulm _ _ _ Q Q hkey _ [] (plainElem_int underlying3 wfs) ?_;intro w7 Mm hg7);go_ret;exact⟨by rw[hG0.out];rfl,.inr ⟨hG0.out,P6.more hg7 Mm tidy Mg hu (qrf hR kR) (by simp[WideAt.IsKeyLit]),(fY (AH q4 BV) _).trans hg7⟩⟩
    ·have hG0:=F (show G=15 by rw[<-HG.out];simp[ht])
     rw[AU ht];clear ht;go_wp2;go_ret;exact⟨by rw[hG0.out];rfl,.inl ⟨by rw[hG0.out];decide,q4⟩⟩
   ·have hE':(AM == 0)=false:=qsu hE
    go_wp2_with(go_at_call 195;refine gqz (cT _ q3) fun w4 hb4=>?_;have q4:=AH q3 hb4);have hG0:=F (show G=AM by rw[<-HG.out];simp[hE]);go_ret;exact⟨by rw[hG0.out];rfl,.inl ⟨qrf hG0.out hE,q4⟩⟩)
def Aaw(b nb mb W:Nat)(bits:List Bool)(u:List Nat)(n:Int)(M:Option AS)(mc:Nat)(m:List Bool)(t:Nat)(w:V)(h:CG w b nb mb W bits u)(hM:Arr 1 C4 w w M m)(lm:Y m<=mc)(mm:mc<=maxLen):
  AL AE 108 #[.pointer (I ⟨b,0,Z⟩),.int .i64 n,.slice M (Y m) mc,.int .u64 t] w fun e w'=>e=AN (.int .i64 (IJ W bits u n m t))/\
   ((IJ W bits u n m t≠0/\Ag w w w')\/(IJ W bits u n m t=0/\CG w' b nb mb W bits (n.toNat::u)/\w.grownBy w' (I mb))):=by
 have q1:Ag w w (Ao w (N #[.int .u64 t] 22)):=AB (Ae _ _) _;have z1:E (Ao w (N #[.int .u64 (t:Int)] 22)) ⟨w,0,Z⟩=I (.int .u64 t):=Cb Q;have cW:=Aav b nb mb W bits u n M mc m w _ (h.on q1) (hM.on q1) lm mm t z1;generalize IJ W bits u n m t=AM at*;go_in;go_wp2_with(go_at_call 155;refine gqz cW fun w2 hres=>?_);go_ret;refine⟨Q,?_⟩;rcases hres with⟨hE,hb⟩ | ⟨hE,hp,hg⟩
 ·exact .inl ⟨hE,AH q1 hb⟩
 ·exact .inr ⟨hE,hp,(fY q1 _).trans hg⟩
section
variable{k n:Int}{s:Nat}{w w':V}
def Lx(n k:Int):Int:=if AR n 0 512=true/\AR k 0 n=true then 0 else 3
theorem VV(h:Lx n k=0):0<=n/\n<=512/\0<=k/\k<=n:=by
 unfold Lx at h
 grind [AR]
def NM(s:Nat)(n k:Int):List Int:=if Lx n k=0 then Jt s n.toNat k.toNat else[]
def rsL(s:Nat)(n k:Int):List Int:=if Lx n k=0 then Mv (Jt s n.toNat k.toNat) n.toNat else[]
theorem AbT(h:Lx n k≠0):Lx n k=3/\NM s n k=[]/\rsL s n k=[]:=by
 grind [Lx,NM,rsL]
theorem AbV(L:List Int)(n:Nat):(Mv L n).length<=n:=by
 grind [Mv,Mu]
def AbW(h:w.grownBy w' Z):Ag w w w':=⟨h.os,h.tape,h.output,h.size,fun k hk=>h.block k hk AO⟩
theorem AbX{p:Prop}[Decidable p]{b:Bool}(h:decide p=b):if b then p else¬p:=by
 grind
def SmR(w w':V)(s:Nat)(n k:Int)(e:Ending):Prop:=∃v1 v2,e=AN (Be #[v1,v2,U O (Lx n k)])/\Own w' w 3 1 BD v1 (NM s n k)/\Own w' w 3 1 BD v2 (rsL s n k)/\Ag w w w'
theorem pK(h:Lx n k≠0)(hb:Ag w w w'):SmR w w' s n k (AN (Be #[R Z 0 0,R Z 0 0,U O 3])):=by
 grind [SmR,Lx,AbT,Own.nil]
theorem AbY{n k:Nat}(h:Lx n k=0){v1 v2:An}(h1:Own w' w 3 1 BD v1 (Jt s n k))(h2:Own w' w 3 1 BD v2 (Mv (Jt s n k) n))(hb:Ag w w w'):SmR w w' s n k (AN (Be #[v1,v2,U O 0])):=
 ⟨v1,v2,by rw[h],by unfold NM;grind,by unfold rsL;grind,hb⟩
def AbZ(s:Nat)(n k:Int)(w:V):AL AE 82 #[U O n,U O k,U AA s] w fun e w'=>SmR w w' s n k e:=by
 by_cases h:Lx n k=0
 ·obtain⟨n0,n1,k0,k1⟩:=VV h
  obtain⟨n,rfl⟩:=DV n0;obtain⟨k,rfl⟩:=DV k0;have hB1:AR (n:Int) 0 512=true:=by simp[AR];omega
  have RK:AR (k:Int) 0 (n:Int)=true:=by simp[AR];omega
  have cB1:=fun w'=>DJ (n:Int) 0 512 w'
  have cB2:=fun w'=>DJ (k:Int) 0 (n:Int) w'
  simp only[hB1]at cB1;simp only[RK]at cB2;have PK:k<=n:=J;have H:=F h;have cD:=fun w1 (hz:E w1 ⟨w,0,Z⟩=I (U AA s)) (hf:Bo w1 ⟨w,0,Z⟩=false) (h1:E w1 ⟨w,1,Z⟩=I (Av true))=>Abc w s n k w w1 J PK hz hf h1 (Bg _)
  have cD1:=cD _ (Cb (w:=w) (cs:=#[U AA s,Av true]) (T:=219) (j:=0) Q) AO (Cb (w:=w) (cs:=#[U AA s,Av true]) (T:=219) (j:=1) Q);have ps:=AaP s n k;have pl:=X5 (s:=s) PK;have pm:=fun x (h:x∈Jt s n k)=>oH h
  obtain⟨L,hL⟩:=Az (Jt s n k);rw[hL]at cD1 ps pl pm;have HL:=F hL;obtain⟨i0,hi,hz0,hz1,hz2⟩:=IA gy;have Hi:=F hi;have EJ:=F hz0;have Ep:=F hz1;have Eh:=F hz2;have z0:=AaT (L:=L) (fun x hx=>(pm x hx).1);have Z0:=F z0;have Pl:=F pl;have Ps:=F ps;clear hi hz0 hz1 hz2 cD h hB1 RK hL z0 pl pm ps;go_in
  go_wp2_with(first
   | (go_at_call 89;refine Calls.on (FD:=#[U O n,U O 0,U O 512]) Q ?_;refine(cB1 _).mono ?_;rintro e w' ⟨rfl,rfl⟩)
   | (go_at_call 89;refine Calls.on (FD:=#[U O k,U O 0,U O n]) Q ?_;refine(cB2 _).mono ?_;rintro e w' ⟨rfl,rfl⟩)
   | (go_at_call 83;refine(TJ s _).mono ?_;rintro e w' ⟨rfl,rfl⟩)
   | (go_at_call 133;refine cD1.mono ?_;rintro e w2 ⟨v2,rfl,CU,hb2⟩)
   | (at_make;refine WR _ Q _ _ 37 Q w2 3 i0 _ 1 underlying37 Hi EJ Ep _ _ _ (n-k) Q Q J (by rw[Eh.out];omega) (by unfold maxLen;omega) (Bg _) ?_;intro w3 EW Jk))
  have hb3:=AbW Jk;have pL:Own w3 w2 3 1 BD (R (I ⟨w2,0,Z⟩) 0 (n-k)) ([]:List Int):=EW;have b2:=(AB (Ae _ _) _).trans hb2;have s2:=b2.size;have nx0:Fp L ((0:Nat):Int)=0:=Z0.out;have Nx0:=F nx0;clear nx0 cD1 Jk EW;go_loopw [11,12,36] (fun rv nv iv wr=>∃j:Nat,j<=n/\iv=U O j/\nv=U O (Fp L (j:Int):Nat)/\Own wr w2 3 1 BD rv (Mv L j)/\Ag w2 w2 wr) (fun _ _ i _=>n-(intOf i).toNat);exact⟨0,BM _,rfl,by rw[Nx0.out];rfl,pL,hb3⟩
  obtain⟨j,hj,rfl,rfl,ow,hb⟩:=hrel;obtain⟨w6,rfl⟩:=qgn wr;clear pL hb3;have Ls:=CU.below hb;have sz:=hb.size;rcases D4 j n with hlt | D8
  ·have d3:decide ((j:Int)<(n:Int))=true:=by simp;omega
   have Ku:=AaS L (j:Int);rw[Pl.out]at Ku;rcases oI L (j:Int) Ps with⟨h1,h2,h3⟩ | ⟨h1,h2,h3⟩
   ·have r1:=F (AaQ h1)
    rw[show(j:Int)+1=((j+1:Nat):Int)from by omega]at h3;obtain⟨q,hq⟩:=Az (Fp L (j:Int));rw[hq]at h2 h3 Ku ⊢;have RJ:q<k:=by have:=(EF.1 h2).1;rw[Pl.out]at this;exact this
    obtain⟨g,c,rfl,_,_⟩:=pJ Ls (by rw[Pl.out];omega);have cq:=Own.Eg (f:=Value.int .i64) Ls Q h2;rw[Pl.out];have d4':decide (q<k)=true:=by simp;omega
    have H3:=F h3;clear h1 h2 h3 hq Ls;go_wp2_with fail;exact⟨⟨j+1,J,qgm,by rw[H3.out];rfl,qrf r1.out ow,hb⟩,qio⟩
   ·have r1:=F (AaR h1)
    rw[show(j:Int)+1=((j+1:Nat):Int)from by omega]at h3;obtain⟨q,hq⟩:=Az (Fp L (j:Int));rw[hq]at h2 h3 Ku ⊢;have fB:((Mv L j).length+1)*8<=140737488355328:=by have:=AbV L j;omega
    have H3:=F h3
    have ways:decide ((q:Int)<(k:Int))=false\/(decide ((q:Int)<(k:Int))=true/\∃(g c:Nat) (y:Int),v2=R (I ⟨g,0,Z⟩) k c/\E w6 ⟨g,q,Z⟩=I (U O y)/\(y == (j:Int))=false):=by
     by_cases RJ:q<k
     ·right
      obtain⟨g,c,hv,_,_⟩:=pJ Ls (by rw[Pl.out];omega);rw[Pl.out]at hv;obtain⟨y,hy⟩:∃y,L[q]?=I y:=⟨_,CH (qrf Pl.out RJ)⟩
      subst hv;refine⟨by simp;omega,g,c,y,Q,Own.Eg (f:=Value.int .i64) Ls Pl hy,?_⟩;have:y≠(j:Int):=fun e=>h2 (by rw[hy,e])
      simpa using this
     ·left;simp;omega
    clear h1 h2 h3 hq Ls;have d4':decide (q<k)=decide ((q:Int)<(k:Int)):=AO;rcases ways with d4 | ⟨d4,g,c,y,rfl,cq,e4⟩
    all_goals(
     rw[d4]at d4';have RJ:=AbX d4';simp only[if_true,if_false,Bool.false_eq_true]at RJ;go_wp2_with(at_builtin;refine Zn (g:=w6.heap.size) Q _ _ 37 Q w2 3 i0 _ 1 8 underlying37 Hi EJ Ep Eh Q AC _ (Mv L j) (j:Int) #[U O j] 3 Q ow Q Q Q (On _) fB AC sz Q ?_;intro v5 w5 Ed Bh);exact⟨⟨j+1,J,qgm,by rw[H3.out],qrf r1.out Ed,hb.trans Bh⟩,qio⟩)
  ·obtain rfl:j=n:=J
   generalize Fp L (j:Int)=q at*;go_wp2;go_ret3;exact AbY H (by rw[HL.out];exact RH Ls (by have:=(AB (Ae w w) (N #[U AA s,Av true] 219)).size;exact this)) (qrf HL.out (RH ow s2)) (b2.trans (hb.mono s2))
 ·have ways:AR n 0 512=false\/(AR n 0 512=true/\AR k 0 n=false):=by
   unfold Lx at h;cases h1:AR n 0 512 with
   | false=>exact .inl Q
   | true=>
    cases h2:AR k 0 n with
    | false=>exact .inr ⟨rfl,rfl⟩
    | true=>exact(h (by rw[Bd ⟨h1,h2⟩])).elim
  have cB1:=fun w'=>DJ n 0 512 w'
  have cB2:=fun w'=>DJ k 0 n w'
  have H:=F h;clear h;rcases ways with h1 | ⟨h1,h2⟩
  ·simp only[h1]at cB1
   clear h1 cB2;go_in;go_wp2_with(go_at_call 89;refine(cB1 _).mono ?_;rintro e w' ⟨rfl,rfl⟩);go_ret3;exact pK H (Ae _ _)
  ·simp only[h1]at cB1
   simp only[h2]at cB2;clear h1 h2;go_in
   go_wp2_with(first
    | (go_at_call 89;refine Calls.on (FD:=#[U O n,U O 0,U O 512]) Q ?_;refine(cB1 _).mono ?_;rintro e w' ⟨rfl,rfl⟩)
    | (go_at_call 89;refine Calls.on (FD:=#[U O k,U O 0,U O n]) Q ?_;refine(cB2 _).mono ?_;rintro e w' ⟨rfl,rfl⟩))
   go_ret3;exact pK H (Ae _ _)
end
def AdK:(prog.info? 326).map (fun i=>(i.zero,i.size,i.bytes))=I (I (Ba #[U O 0,U O 0]),2,16):=AG
def AdL(A:Option AS)(n:Nat)(c:List Bf)(s f t:Int)(w:V)(hA:Arr 2 Bf.enc w w A c)(h0:Bz Bf.ok c=0)(hab:V3 s f t=true):
  AL AE 221 #[R A (Y c) n,U O s,U O f,U O t] w fun e w'=>∃v,e=AN (Be #[v,U O 0])/\Own w' w 326 2 CK.enc v (Ir c s f t (Y c))/\Ag w w w':=by
 have hlen:=(Lb.1 h0).1;have Hab:=hab;simp only[V3,Bool.and_eq_true]at Hab;obtain⟨⟨b1,b2⟩,b3⟩:=Hab;have B1:=F b1;have B2:=F b2;have B3:=F b3;simp only[AR,decide_eq_true_eq]at b1 b2 b3;obtain⟨s1,s2⟩:=b1;obtain⟨t1,t2⟩:=b2;obtain⟨f1,f2⟩:=b3;have H0:=F h0;clear h0 hab;go_in
 go_wp2_with(first
  | (go_at_call 140;refine gqz (SD A n c _ hA J) fun w2 hb2=>?_;rw[H0.out])
  | (go_at_call 267;refine(VB _ _).mono ?_;rintro e w'⟨rfl,rfl⟩;rw[B1.out])
  | (go_at_call 89;refine(DJ _ _ _ _).mono ?_;rintro e w'⟨rfl,rfl⟩;first | rw[B2.out] | rw[B3.out]))
 go_loopw [11,36] (fun v i wr=>∃k:Nat,k<=Y c/\i=U O k/\Own wr w 326 2 CK.enc v (Ir c s f t k)/\Ag w w wr) (fun _ i _=>Y c-(intOf i).toNat);exact⟨0,BM _,rfl,Own.nil,hb2⟩
 obtain⟨k,hk,rfl,hown,hb⟩:=hrel;have hle:=iw c s f t k;by_cases hlt:k<Y c
 ·obtain⟨b,off,qb,qk,rfl,BN,hq,c0,c1⟩:=hA.clk hlt hb
  cases MD:GR qk
  ·have Hs:=F MD;clear MD
   go_wp2_with(go_at_call 141;refine gqz (TA _ _ _) fun w3 hb3=>?_;rw[Hs.out]);go_roundw
   case rel=>exact⟨k+1,J,qgm,by rw[iu hq (.inl Hs.out)];exact(hown.alloc _).below hb3,AH (AB hb _) hb3⟩
   case measure=>simp[intOf];omega
  ·have Hs:=F MD;clear MD
   by_cases h1:(k:Int)-s<f
   ·have h1':decide (f<=(k:Int)-s)=false:=by simp;omega
    go_wp2_with(go_at_call 141;refine gqz (TA _ _ _) fun w3 hb3=>?_;rw[Hs.out]);go_roundw;exact⟨k+1,J,qgm,by rw[iu hq (.inr (.inl h1))];exact(hown.alloc _).below hb3,AH (AB hb _) hb3⟩;simp[intOf];omega
   ·by_cases h2:t<=(k:Int)-s
    ·have h1':decide (f<=(k:Int)-s)=true:=by simp;omega
     have W5:decide ((k:Int)-s<t)=false:=by simp;omega
     go_wp2_with(go_at_call 141;refine gqz (TA _ _ _) fun w3 hb3=>?_;rw[Hs.out]);go_roundw;exact⟨k+1,J,qgm,by rw[iu hq (.inr (.inr h2))];exact(hown.alloc _).below hb3,AH (AB hb _) hb3⟩;simp[intOf];omega
    ·have h1':decide (f<=(k:Int)-s)=true:=by simp;omega
     have W5:decide ((k:Int)-s<t)=true:=by simp;omega
     go_wp2_with(first
      | (go_at_call 141;refine gqz (TA _ _ _) fun w3 hb3=>?_;rw[Hs.out];have d0:E w3 ⟨wr,0,Z⟩=I (U O qb):=AK hb3 (Cb Q);have Km:=(hown.alloc _).below hb3;have hb4:=AH (AB hb _) hb3)
      | (at_builtin;refine Ef underlying322 AdK (Ir c s f t k) ⟨(k:Int)-s,qb⟩ Km (CK.one _) J hb4.size ?_;intro v' w5 QQ Bh))
     go_roundw
     case rel=>exact⟨k+1,J,qgm,by rw[AdJ hq Hs J J];exact QQ,hb4.trans Bh⟩
     case measure=>simp[intOf];omega
 ·go_wp2
  go_ret2;obtain rfl:k=Y c:=J;exact⟨_,Q,hown,hb⟩
theorem AdM{s f t:Int}(h:V3 s f t=false):AR s (-16) 16=false\/(AR s (-16) 16=true/\AR t 0 4096=false)\/(AR s (-16) 16=true/\AR t 0 4096=true/\AR f 0 t=false):=by
 unfold V3 at h;cases h1:AR s (-16) 16 <;> cases h2:AR t 0 4096 <;> cases h3:AR f 0 t <;> simp_all
def AdN(A:Option AS)(n:Nat)(c:List Bf)(s f t:Int)(w:V)(hA:Arr 2 Bf.enc w w A c)(hl:Y c<=4611686018427387904):
  AL AE 221 #[R A (Y c) n,U O s,U O f,U O t] w fun e w'=>∃v,e=AN (Be #[v,U O (We c s f t)])/\Own w' w 326 2 CK.enc v (MK c s f t)/\Ag w w w':=by
 by_cases h0:Bz Bf.ok c=0
 ·cases hab:V3 s f t
  ·have hE:We c s f t=3:=by simp[We,h0,hab]
   have hL:MK c s f t=[]:=by simp[MK,hab]
   rw[hE,hL];have H0:=F h0;rcases AdM hab with b1 | ⟨b1,b2⟩ | ⟨b1,b2,b3⟩
   ·have B1:=F b1
    clear b1 hab h0 hE hL;go_in
    go_wp2_with(first
     | (go_at_call 140;refine gqz (SD A n c _ hA hl) fun w2 hb2=>?_;rw[H0.out])
     | (go_at_call 267;refine(VB _ _).mono ?_;rintro e w'⟨rfl,rfl⟩;rw[B1.out]))
    go_ret2;exact⟨_,Q,Own.nil,hb2⟩
   ·have B1:=F b1;have B2:=F b2
    clear b1 b2 hab h0 hE hL;go_in
    go_wp2_with(first
     | (go_at_call 140;refine gqz (SD A n c _ hA hl) fun w2 hb2=>?_;rw[H0.out])
     | (go_at_call 267;refine(VB _ _).mono ?_;rintro e w'⟨rfl,rfl⟩;rw[B1.out])
     | (go_at_call 89;refine(DJ _ _ _ _).mono ?_;rintro e w'⟨rfl,rfl⟩;rw[B2.out]))
    go_ret2;exact⟨_,Q,Own.nil,hb2⟩
   ·have B1:=F b1;have B2:=F b2;have B3:=F b3
    clear b1 b2 b3 hab h0 hE hL;go_in
    go_wp2_with(first
     | (go_at_call 140;refine gqz (SD A n c _ hA hl) fun w2 hb2=>?_;rw[H0.out])
     | (go_at_call 267;refine(VB _ _).mono ?_;rintro e w'⟨rfl,rfl⟩;rw[B1.out])
     | (go_at_call 89;refine(DJ _ _ _ _).mono ?_;rintro e w'⟨rfl,rfl⟩;first | rw[B2.out] | rw[B3.out]))
    go_ret2;exact⟨_,Q,Own.nil,hb2⟩
  ·have hE:We c s f t=0:=by simp[We,h0,hab]
   have hL:MK c s f t=Ir c s f t (Y c):=by simp[MK,hab,h0]
   rw[hE,hL];exact AdL A n c s f t w hA h0 hab
 ·have hE:We c s f t=Bz Bf.ok c:=by simp[We,h0]
  have hL:MK c s f t=[]:=by simp[MK,h0]
  rw[hE,hL];have h0':(Bz Bf.ok c != 0)=true:=qsu h0;clear hE hL;go_in;go_wp2_with(go_at_call 140;refine gqz (SD A n c _ hA hl) fun w2 hb2=>?_);go_ret2;exact⟨_,Q,Own.nil,hb2⟩
theorem Aeh{l m:List C8}(h:DZ (l++ m)=0):DZ l=0/\DZ m=0:=by
 induction l with
 | nil=>grind [DZ]
 | cons x l ih=>
  grind [DZ]
theorem iB{k b:Int}(hk:EI k=true)(hb:AR b 0 65536=true):PY ⟨k,b⟩=0:=by grind [PY,EI,AR]
theorem Aei{l:List C8}{k b:Int}(h:CF l=0)(hk:EI k=true)(hb:AR b 0 65536=true):
  (∃e,Fk l k b=.no e/\e≠0)\/(∃L,Fk l k b=.yes L/\CF L=0/\Y L<=Y l+1/\∀p,G8 p L=G8 p l+(if p k=true then b else 0)):=by
 obtain⟨hl,hf⟩:=Ns.1 h;have BN:=WS hb;rcases List.eq_nil_or_concat l with rfl | ⟨l',x,rfl⟩
 ·grind [Fk,CF,G8,EI,AR,DZ,lX,Ns,iB]
 ·simp only[List.concat_eq_append]at*
  obtain⟨f1,f2⟩:=Aeh hf;have hx:=Yh f2 (k:=0) (x:=x) Q;have e:=lY (l:=l'++ [x]) (x:=x) h hk hb AO;rw[e];by_cases hxk:x.kind=k
  ·rw[Bd hxk]
   by_cases ho:65536<x.bits+b
   ·grind
   ·right
    rw[AU ho]
    have hs:(l'++ [x]).set ((l'++ [x]).length-1) ⟨k,x.bits+b⟩=l'++ [⟨k,x.bits+b⟩]:=by
     grind [EI,AR,CF,DZ,Fk]
    rw[hs];refine⟨_,Q,Ns.2 ⟨by grind,?_⟩,AO,fun p=>?_⟩
    ·grind [DZ,EI,AR,CF,Fk,ZW,iB]
    ·rw[ZX,ZX]
     simp only[G8,hxk]
     grind
  ·rw[AU hxk]
   by_cases hn:(l'++ [x]).length=1000
   ·grind
   ·right
    rw[AU hn];refine⟨_,Q,Ns.2 ⟨by grind,?_⟩,AO,fun p=>?_⟩
    ·rw[ZW _ _ hf,DZ,Bd (iB hk hb)];rfl
    ·rw[ZX];simp[G8]
end Go.Proofs.YtjpidgffdkjjeaaGreat
