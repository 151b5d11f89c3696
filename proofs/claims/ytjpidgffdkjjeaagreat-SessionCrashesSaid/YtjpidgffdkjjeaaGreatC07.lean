/- Contracts and plain laws. No condition. -/
import Derived.Deep.LoopGhost
import Derived.DeepKeys4
import Derived.Maps.Own
import Derived.Maps.OwnOps
import Derived.Maps.OwnSet
import Derived.StillTailTactics
import Derived.Test.YtjpidgffdkjjeaaGreatCA
import Derived.Test.YtjpidgffdkjjeaaGreatC01
import Derived.Test.YtjpidgffdkjjeaaGreatC02
import Derived.Test.YtjpidgffdkjjeaaGreatC03
import Derived.Test.YtjpidgffdkjjeaaGreatC04
set_option linter.all false
set_option maxHeartbeats 16000000
namespace Go.Proofs.YtjpidgffdkjjeaaGreat
open Go.Proofs.Tryz
open Go.Proofs.Tryz renaming prog->AE
open List renaming length->Y
open Go.World renaming cell?->E,setCell->Ai,alloc->Ao,frozen?->Bo
open Go.Value renaming int->U,slice->R,pointer->AI,agg->Ba,tuple->Be,nilFunc->Bl,bool->Av
open Go.IntKind renaming i64->O,u64->AA,u32->BF,u8->Cd
open Option renaming none->Z,some->I
open Go.Ending renaming returned->AN
open Go.Obj renaming cells->N
open Go renaming World->V,Value->An,Calls->AL,Addr->AS
open Go.RowKit renaming Below->Ag,Hid->Aj
set_option maxRecDepth 100000
open Go.RowKit Go.Maps
section
variable{mb:Nat}{q:Ca}{told:List (Ca × Bool)}{w:V}
def Ca.enc(q:Ca):List An:=[.int .i64 (q.pass:Int),.int .i64 (q.fr:Int),.int .i64 (q.BG:Int)]
def qv(q:Ca):An:= .agg q
def RF(x:Ca × Bool):List An:=[.int .i64 (x.1.pass:Int),.int .i64 (x.1.fr:Int),.int .i64 (x.1.BG:Int),.bool x.2]
def Ca.BY(q:Ca):Y q.enc=3:=Q
def YC(x:Ca × Bool):(RF x).length=4:=Q
def Ca.low(q:Ca):Prop:=q.pass<1099511627776/\q.fr<1099511627776/\q.BG<1099511627776
def OW(q:Ca):Lit:= .string (keyBytes [.int .i64 (q.pass:Int),.int .i64 (q.fr:Int),.int .i64 (q.BG:Int)])
def YD:Keyed AE 245:=Keyed.of_law (deep_law_laid (show laidOutB AE=true by kernel_rfl) (m:=2) J (Ib AG) AG AG)
theorem X8(h:q.low):keyOf AE 245 (qv q)=I (OW q):=by
 obtain⟨h1,h2,h3⟩:=h;have w1:(Lit.int .i64 (q.pass:Int)).wf=true:=VI J;have w2:(Lit.int .i64 (q.fr:Int)).wf=true:=VI J;have w3:(Lit.int .i64 (q.BG:Int)).wf=true:=VI J;have hu:=underlying245;have hi:=underlying3;have hk:prog.keyType 245=true:=AG;have hf:(qv q).formed AE 245=true:=AG;have hC:prog.cellsOf 245=3:=AG;have hD:prog.cellsOf 3=1:=AG
 have one:∀(d:Nat) (n:Int),(Lit.int .i64 n).wf=true->prog.keyLits (d+1) 3 [.int .i64 n]=I [.int .i64 n]:=fun d n hn=>by
  unfold Program.keyLits
  grind
 have hl:∀M:Nat,0<M->prog.keyLits (M+1) 245 (qv q).cells.toList=I [.int .i64 (q.pass:Int),.int .i64 (q.fr:Int),.int .i64 (q.BG:Int)]:=fun M hM=>by
  obtain⟨AP,rfl⟩:∃AP,M=AP+1:=⟨M-1,J⟩
  unfold Program.keyLits;rw[hu];simp only[qv,Value.cells]
  simp_all
 have hp:0<prog.types.size:=Ib AG;unfold keyOf
 grind [qv,OW]
def p7(w:V):(zeroValue 4).run AE w=.ok (.bool false) w:=AG
theorem Aa2{r:Ca}(hq:q.low)(hr:r.low)(h:OW q=OW r):q=r:=by
 have e:=YD.inj (X8 hq) (h▸X8 hr);obtain⟨a,b,c⟩:=q;obtain⟨x,y,z⟩:=r
 grind [Ca.low,OW,qv]
structure Aa3(w:V)(mb:Nat)(told:List (Ca × Bool))(D:DataW Unit):Prop where
 own:w.ownsMap AE 245 (plainElem AE 4) mb (Y told) D
 has:∀q,q.low->(has D (OW q)=true↔q∈told.map (·.1))
 miss:∀q,q.low->q∉told.map (·.1)->∀z,D.atKey (OW q) z=z
 at_:∀x∈told,∀z,D.atKey (OW x.1) z=.lit (.bool x.2)
 low:∀x∈told,x.1.low
 nod:(told.map (·.1)).Nodup
def FX(w:V)(mb:Nat)(told:List (Ca × Bool)):Prop:=∃D,Aa3 w mb told D
def FX.kept{w':V}{row:Option Nat}(h:FX w mb told)(hg:w.grownBy w' row)(hne:I mb≠row):FX w' mb told:=by
 obtain⟨D,h1,h2,h3,h4,h5,h6⟩:=h;exact⟨D,h1.kept hg hne,h2,h3,h4,h5,h6⟩
def FX.lt(h:FX w mb told):mb<↑w:=by
 obtain⟨D,h1⟩:=h;exact h1.own.lt
theorem FX.new(w:V):FX (Ao w (.map #[] 0)) w []:=
 ⟨.map [],World.ownsMap_made _ _ _ _,fun q _=>by simp[has_eq],fun q _ _ z=>rfl,fun x hx=>(by cases hx),fun x hx=>(by cases hx),List.nodup_nil⟩
def FJ(told:List (Ca × Bool))(q:Ca):Option Bool:=(told.find? fun x=>decide (x.1=q)).map (·.2)
def Aa4(m:BP)(q:Ca):m.look q=FJ m.told q:=Q
def p8:FJ told q=Z↔q∉told.map (·.1):=gw (m:={X7 []with told:=told})
def pf{a:Bool}(h:FJ told q=I a):(q,a)∈told:=AaY (m:={X7 []with told:=told}) h
theorem FX.look(h:FX w mb told)(hq:q.low):
  (Instr.lookup 242 (.map (I mb)) (qv q) false).run AE w=.ok (.bool ((FJ told q).getD false)) w/\
  (Instr.lookup 242 (.map (I mb)) (qv q) true).run AE w=.ok (.tuple #[.bool ((FJ told q).getD false),.bool (FJ told q).isSome]) w:=by
 obtain⟨D,h⟩:=h;have hz:plainElem (H:=Unit) AE 4 (.bool false)=I (.lit (.bool false),[]):=plainElem_bool underlying4 false
 have inv:∀{v:An} {d:DataW Unit} {ps:List MemPlace} {b:Bool},plainElem AE 4 v=I (d,ps)->d=.lit (.bool b)->v=.bool b:=fun{v d ps b} h1 h2=>by
  subst h2;unfold plainElem at h1
  grind
 have hv:D.atKey (OW q) (.lit (.bool false))=.lit (.bool ((FJ told q).getD false)):=by
  cases hl:FJ told q with
  | none=>exact h.miss q hq (p8.1 hl) _
  | some a=>exact h.at_ (q,a) (pf hl) _
 have hh:has D (OW q)=(FJ told q).isSome:=by
  cases hl:FJ told q with
  | none=>
   have:=mt (h.has q hq).1 (p8.1 hl)
   grind
  | some a=>exact(h.has q hq).2 (Ld.2 ⟨_,pf hl,rfl⟩)
 obtain⟨v,ps,h1,h2⟩:=h.own.lookup YD underlying242 (p7 w) hz (X8 hq);obtain⟨v',ps',h3,h4⟩:=h.own.look_ok YD underlying242 (p7 w) hz (X8 hq)
 grind
theorem FX.more(h:FX w mb told)(hq:q.low)(hn:q∉told.map (·.1))(hl:Y told<maxLen)(a:Bool):
  ∃w',(Instr.mapUpdate 242 (.map (I mb)) (qv q) (.bool a)).run AE w=.ok () w'/\FX w' mb (told++ [(q,a)])/\w.grownBy w' (I mb):=by
 obtain⟨D,h⟩:=h;obtain⟨w',h1,h2,h3⟩:=h.own.update YD underlying242 hl (X8 hq) (plainElem_bool underlying4 a);have hk:=YD.key (X8 hq);have hm:=h.own.isMap;have ne:∀r,r.low->r≠q->OW r≠OW q:=fun r hr h e=>h (Aa2 hr hq e)
 refine⟨w',h1,⟨D.put (OW q) (.lit (.bool a)),?_,fun r hr=>?_,fun r hr hno z=>?_,fun x hx z=>?_,fun x hx=>?_,?_⟩,h3⟩
 ·grind
 ·by_cases e:r=q
  ·subst e
   rw[has_put_same hm hk];simp
  ·rw[has_put_other (ne r hr e),h.has r hr]
   grind
 ·have e:r≠q:=by grind
  rw[atKey_put_other (ne r hr e)];exact h.miss r hr (fun hm=>hno (by grind)) z
 ·rcases OV.1 hx with hy | hy
  ·have e:x.1≠q:=fun e=>hn (e▸Ld.2 ⟨x,hy,rfl⟩)
   rw[atKey_put_other (ne _ (h.low x hy) e)];exact h.at_ x hy z
  ·obtain rfl:x=(q,a):=by grind
   exact atKey_put_same hm hk _ _
 ·rcases OV.1 hx with hx | hx
  ·exact h.low x hx
  grind
 ·rw[SQ,List.nodup_append]
  refine⟨h.nod,AO,fun x hx y hy=>?_⟩
  grind
end
section
variable{S:Nat->Prop}{k:Nat}{w:V}
structure Mem where
 g:Nat
 lo:Nat
 hi:Nat
 ob:Nat
 oc:Nat
 kb:Nat
 kc:Nat
 bv:An
 mb:Nat
 tv:An
def Mem.cs(M:Mem)(c:Cas)(m:BP):Array An:=#[Av true,U O c.P,U O c.K,U AA c.sd,R (I ⟨M.ob,0,Z⟩) c.P M.oc,R (I ⟨M.kb,0,Z⟩) c.P M.kc,M.bv,.map (I M.mb),M.tv,
 U O m.flips,Av m.failed,U O m.pass,U O m.block,Av m.srch,U O m.odd.pass,U O m.odd.fr,U O m.odd.BG,Av m.ans,
 U O m.next.pass,U O m.next.fr,U O m.next.BG,Av m.opn]
structure aI(w:V)(c:Cas)(M:Mem):Prop where
 hi:M.hi<=↑w
 ob:M.lo<=M.ob/\M.ob<M.hi
 kb:M.lo<=M.kb/\M.kb<M.hi
 oc:c.P<=M.oc/\M.oc<=maxLen
 kc:c.P<=M.kc/\M.kc<=maxLen
 ord:∀p,p<c.P->∃A k,E w ⟨M.ob,p,Z⟩=I (R A c.n k)/\c.n<=k/\k<=maxLen/\Rw 1 BD w M.lo M.hi A (c.ord p)
 blk:∀p,p<c.P->∃A k,E w ⟨M.kb,p,Z⟩=I (R A (c.blk p).length k)/\(c.blk p).length<=k/\k<=maxLen/\Rw 3 Ca.enc w M.lo M.hi A (c.blk p)
def Mem.off(M:Mem)(k:Nat):Prop:=k<M.lo\/M.hi<=k
theorem aI.keep{w':V}{c:Cas}{M:Mem}(h:aI w c M)(ho:AT S w w')(hS:∀k,S k->M.off k):aI w' c M:=by
 have hk:∀k,M.lo<=k->k<M.hi->w'.heap[k]?=w.heap[k]?:=fun k h1 h2=>ho.block k (Ck h2 h.hi) (fun e=>by grind [Mem.off])
 refine⟨Br h.hi ho.size,h.ob,h.kb,h.oc,h.kc,fun p hp=>?_,fun p hp=>?_⟩
 ·obtain⟨A,k,h1,h2,h3,h4⟩:=h.ord p hp
  exact⟨A,k,(Fx (a:=⟨M.ob,p,Z⟩) (hk _ h.ob.1 h.ob.2)).trans h1,h2,h3,h4.keep hk⟩
 ·obtain⟨A,k,h1,h2,h3,h4⟩:=h.blk p hp
  exact⟨A,k,(Fx (a:=⟨M.kb,p,Z⟩) (hk _ h.kb.1 h.kb.2)).trans h1,h2,h3,h4.keep hk⟩
structure Cj(w:V)(c:Cas)(m:BP)(M:Mem):Prop where
 row:w.heap[M.g]?=I (N (M.cs c m) 247 (0,0))
 rows:aI w c M
 b:Own w 0 4 1 C4 M.bv m.b
 tv:Own w 0 251 4 RF M.tv m.told
 kn:FX w M.mb m.told
 og:M.off M.g
 om:M.off M.mb
 obv:∀k,M.bv.ownBlock=I k->M.off k
 otv:∀k,M.tv.ownBlock=I k->M.off k
theorem Qr{α:Type}{base e sz:Nat}{enc:α->List An}{v:An}{l:List α}(h:Own w base e sz enc v l)(hk:v.ownBlock=I k):∃cs,w.heap[k]?=I (N cs e (0,0)):=by
 rcases h.2 with⟨rfl,_⟩ | ⟨g,cap,cur,rfl,_,hg,_⟩
 ·simp[Value.ownBlock]at hk
 ·simp only[Value.ownBlock,Option.map_some,Option.some.injEq]at hk
  grind
section
variable {w w':V} {c:Cas} {m m':BP} {M:Mem}
def Cj.Cx(h:Cj w c m M)(j:Nat):E w ⟨M.g,j,Z⟩=(M.cs c m)[j]?:=AX w M.g j _ _ _ h.row
theorem Cj.fr(h:Cj w c m M)(j:Nat):Bo w ⟨M.g,j,Z⟩=false:=CJ w M.g j _ _ h.row
theorem Cj.nb(h:Cj w c m M)(hk:M.bv.ownBlock=I k):k≠M.g/\k≠M.mb/\M.tv.ownBlock≠I k:=by
 obtain⟨cs,h1⟩:=Qr h.b hk;refine⟨?_,?_,?_⟩
 ·rintro rfl
  rw[h.row]at h1
  grind
 ·rintro rfl
  obtain⟨D,hD⟩:=h.kn;obtain⟨es,clock,hb,_⟩:=hD.own
  grind
 ·intro e
  obtain⟨Mw,h2⟩:=Qr h.tv e
  grind
theorem Cj.nm(h:Cj w c m M):M.mb≠M.g:=by
 intro e;obtain⟨D,hD⟩:=h.kn;obtain⟨es,clock,hb,_⟩:=hD.own;rw[e,h.row]at hb
 grind
theorem Cj.nt(h:Cj w c m M)(hk:M.tv.ownBlock=I k):k≠M.g/\k≠M.mb:=by
 obtain⟨cs,h1⟩:=Qr h.tv hk;refine⟨?_,?_⟩
 ·rintro rfl
  rw[h.row]at h1
  grind
 ·rintro rfl
  obtain⟨D,hD⟩:=h.kn;obtain⟨es,clock,hb,_⟩:=hD.own
  grind
def Cj.keep(h:Cj w c m M)(ho:AT S w w')(hg:¬S M.g)(hm:¬S M.mb)(hb:∀k,M.bv.ownBlock=I k->¬S k)(ht:∀k,M.tv.ownBlock=I k->¬S k)(hr:∀k,S k->M.off k):Cj w' c m M:=by
 obtain⟨D,hD⟩:=h.kn;obtain⟨es,clock,Ez,r⟩:=hD.own;exact⟨ho.row h.row hg,h.rows.keep ho hr,ho.own h.b hb,ho.own h.tv ht,⟨D,⟨es,clock,ho.row Ez hm,r⟩,hD.has,hD.miss,hD.at_,hD.low,hD.nod⟩,h.og,h.om,h.obv,h.otv⟩
def Cj.on(h:Cj w c m M)(hb:Ag w w w'):Cj w' c m M:=
 h.keep (S:=fun _=>False) (AT.of hb) (fun h=>h) (fun h=>h) (fun _ _ h=>h) (fun _ _ h=>h) (fun _ h=>h.elim)
def Cj.set(h:Cj w c m M)(j:Nat)(v:An)(hs:(M.cs c m).setIfInBounds j v=M.cs c m')(hb:m'.b=m.b)(ht:m'.told=m.told):Cj (Ai w ⟨M.g,j,Z⟩ v) c m' M:=by
 have ho:AT (fun k=>k=M.g) w (Ai w ⟨M.g,j,Z⟩ v):=AT.set Q;obtain⟨D,hD⟩:=h.kn;obtain⟨es,clock,Ez,r⟩:=hD.own;refine⟨?_,h.rows.keep ho (fun k hk=>by subst hk;exact h.og),?_,?_,?_,h.og,h.om,h.obv,h.otv⟩
 ·rw[<-hs];exact CM w M.g j _ _ v h.row
 ·rw[hb];exact ho.own h.b (fun k hk=>(h.nb hk).1)
 ·rw[ht];exact ho.own h.tv (fun k hk=>(h.nt hk).1)
 ·rw[ht];exact⟨D,⟨es,clock,ho.row Ez h.nm,r⟩,hD.has,hD.miss,hD.at_,hD.low,hD.nod⟩
end
def pg(B:Option AS)(cb:Nat)(b:List Bool)(A:Option AS)(ca:Nat)(l:List Int)(w:V)(hB:Arr 1 C4 w w B b)(hA:Arr 1 BD w w A l)(hb:Y b<=100000)(hl:Y l<=100000)(Dp:∀x∈l,∃i:Nat,x=(i:Int)/\i<Y b):
  AL AE 282 #[R B (Y b) cb,R A (Y l) ca] w fun e w'=>e=AN (Av (par b l))/\w=w':=by
 have Hin:=F Dp;clear Dp;go_in;go_wp2_with fail;go_loopw [5,10] (fun o i wr=>∃k:Nat,k<=Y l/\i=U O k/\o=Av (par b (l.take k))/\w=wr) (fun _ i _=>Y l-(intOf i).toNat);exact⟨0,J,rfl,rfl,rfl⟩
 obtain⟨k,hk,rfl,rfl,rfl⟩:=hrel;by_cases hlt:k<Y l
 ·obtain⟨a,o1,x,rfl,_,hx,c1⟩:=hA.int hlt (Ae _ _)
  obtain⟨i,rfl,hi⟩:=Hin.out x (DI hx);obtain⟨a2,o2,y,rfl,_,hy,c2⟩:=hB.bool hi (Ae _ _)
  have hst:Aj (par b (l.take (k+1))=(par b (l.take k) != y)):=F (by
   rw[N8 hx,AaW,Ro,YE,hy.out];rfl)
  generalize par b (l.take k)=p at*;go_wp2_with fail;go_roundw
  case rel=>exact⟨k+1,J,qgm,by rw[hst.out];cases p <;> cases y <;> rfl,trivial⟩
  case measure=>simp[intOf];omega
 ·have e1:Aj (l.take k=l):=F (EG J)
  go_wp2;go_ret;exact⟨JJ (by rw[e1.out]),Q⟩
end
def pk(c:Cas)(p:Nat)(w:V)(hc:c.Ok)(hp:p<c.P):
  AL AE 275 #[Ba c,U O c.n,U O p] w fun e w'=>∃v,e=AN v/\Own w' w 3 1 BD v (c.ord p)/\Ag w w w':=by
 have hn:=hc.n;have hP:=hc.P.2;have b1:=AB (Ae w w) (N c 60);by_cases h0:p=0
 ·subst h0
  have YG:Aj (c.ord 0=FA c.n):=F (by unfold Cas.ord;rw[Bd Q]);obtain⟨n,hnn⟩:=Az (c.n);rw[hnn]at YG hn ⊢;have Cw:Aj (Dm (FA n) 0 0=List.replicate n 0):=F (by rw[Ug,Mu]);clear hc hp hnn;go_in;go_upto_region 5 with(at_make;refine Nb underlying37 gy (fun n:Int=>Value.int .i64 n) 0 n ?_;intro w1 Dy hb1)
  have q1:=AH b1 hb1;have sz1:=b1.size;simp only[World.size_alloc]at Dy sz1;go_wp2_with fail;go_loopw [29] (fun i wr=>∃k:Nat,k<=n/\i=U O k/\Own wr (w.heap.size+1) 3 1 (fun x=>[Value.int .i64 x]) (R (I ⟨↑w+1,0,Z⟩) n n) (Dm (FA n) 0 k)/\Ag w w wr) (fun i _=>n-(intOf i).toNat);exact⟨0,BM _,rfl,qrf Cw.out Dy,q1⟩
  obtain⟨k,hk,rfl,ow,hb⟩:=hrel;clear Dy hb1 q1;rcases D4 k n with hlt | D8
  ·have hlen:(Dm (FA n) 0 k).length=n:=(Sv _ _ (by rw[Mu];omega)).trans (Mu _)
   have f0:=ow.Eg hlen (k:=k) (Ts 0 (qrf Mu hlt));have f1:=ow.Dc hlen k;have Fm:=ow.Ft hlen k (k:Int);rw[Tr 0 (oz hlt)]at Fm;clear hlen;go_wp2_with fail;exact⟨⟨k+1,J,qgm,Fm,hb.setCell J _⟩,qio⟩
  ·obtain rfl:k=n:=J
   rw[Uh _ _ (by rw[Mu];omega)]at ow;go_wp2;go_ret;exact⟨_,Q,by rw[YG.out];exact RH ow J,hb⟩
 ·have YG:Aj (c.ord p=Lw ((c.sd+p)%18446744073709551616) c.n):=F (by unfold Cas.ord;rw[AU h0])
  have Ql:0<p:=J;obtain⟨s,hs⟩:=Az ((c.sd+p)%18446744073709551616);rw[hs]at YG
  have hsi:IntKind.u64.wrap ((c.sd:Int)+(p:Int))=(s:Int):=by
   have h9:IntKind.u64.wrap ((c.sd:Int)+(p:Int))=((c.sd:Int)+(p:Int))%18446744073709551616:=by simp[IntKind.wrap,IntKind.signed,IntKind.bits]
   rw[h9];omega
  have hpi:(p:Int)%18446744073709551616=(p:Int):=J;obtain⟨w1,BJ⟩:=Az (Ao w (N c 60));have x2:E w1 ⟨w,2,Z⟩=I (U AA c.sd):=qrb BJ (Cb Q);have cN:=TJ s w1;have cP:=pi w1 s c.n w (Ao w1 (N #[U AA s,Av true] 219)) J (Cb Q) (by simp[go_sem]) (Cb Q) (by rw[<-BJ];simp);have b2:=AH b1 (AB (Ae _ _) (N #[U AA s,Av true] 219));rw[BJ]at b2;clear h0 hs hc hP hp;go_in
  go_wp2_with(first
   | (go_at_call 83;refine cN.mono ?_;rintro e w' ⟨rfl,rfl⟩)
   | (go_at_call 178;refine cP.mono ?_;rintro e w3 ⟨g,rfl,ow,hb3⟩))
  go_ret;exact⟨_,Q,by rw[YG.out];exact RH ow (by have:=b2.size;omega),b2.trans hb3⟩
def Abf:(prog.info? 245).map (fun i=>(i.zero,i.size,i.bytes))=I (I (Ba #[U O 0,U O 0,U O 0]),3,24):=AG
def Abg(c:Cas)(p:Nat)(w:V)(hc:c.Ok)(hp:p<c.P):
  AL AE 276 #[Ba c,U O c.n,U O p] w fun e w'=>∃v,e=AN v/\Own w' w 245 3 Ca.enc v (c.blk p)/\Ag w w w':=by
 have hn:=hc.n;have hP:=hc.P.2;have hK:=hc.K;have b1:=AB (Ae w w) (N c 60);have hs0:=c.size_pos hc p;have hs1:=c.size_le p;have hblk:Aj (c.blk p=RE p c.n (c.size p) (UH c.n (c.size p))):=F Q;have hsz:Aj (c.size p=min (c.K*2^p) 512):=F Q;obtain⟨S,hS⟩:=Az (c.size p);rw[hS]at hs0 hs1 hblk hsz;clear hS
 have hSi:Aj (min (wrap64 ((c.K:Int)*2^p)) 512=(S:Int)):=by
  refine F ?_;rw[hsz.out];have hp6:p=0\/p=1\/p=2\/p=3\/p=4\/p=5:=J;rcases hp6 with rfl | rfl | rfl | rfl | rfl | rfl <;> (simp only[wrap64];omega)
 obtain⟨n,hnn⟩:=Az (c.n);rw[hnn]at hblk hn ⊢;clear hc hnn;go_in;go_upto_region 2 with fail;simp only[hSi.out];clear hK;go_wp2_with fail;go_loopw [8,9] (fun v f wr=>∃k AY:Nat,f=U O AY/\AY<1024/\Aj (k<=UH n S/\AY=k*S)/\Own wr w 245 3 Ca.enc v (RE p n S k)/\Ag w w wr) (fun _ f _=>n-(intOf f).toNat);exact⟨0,0,rfl,J,F ⟨BM _,AO⟩,Own.nil,b1⟩
 obtain⟨k,AY,rfl,hF,hk,ow,hb⟩:=hrel;rcases D4 AY n with hlt | D8
 ·have hb2:(RE p n S k).length<=512:=by
   rw[oM];rcases D4 512 k with h1 | h1
   ·have h2:512*S<=k*S:=PX _ J
    rw[<-hk.out.2]at h2;have:=hs0;omega
   ·exact h1
  obtain⟨T,hT⟩:∃T:Nat,Aj (min (AY+S) n=T):=⟨_,F Q⟩
  have Xa:min ((AY:Int)+(S:Int)) (n:Int)=(T:Int):=by rw[<-hT.out];omega
  go_wp2_with(at_builtin;refine Ef underlying381 Abf (RE p n S k) ⟨p,AY,T⟩ ow (by simp[Ca.enc,Value.oneCell']) J hb.size ?_;intro v' w5 QQ Bh);refine⟨⟨k+1,AY+S,Q,J,F ⟨(aB hs0).2 (by rw[<-hk.out.2];exact hlt),by rw[hk.out.2,Nat.succ_mul]⟩,?_,hb.trans Bh⟩,qio⟩;rw[AaV];have hq:UI p n S k=⟨p,AY,T⟩:=by unfold UI;rw[<-hk.out.2,hT.out]
  rw[hq];exact QQ
 ·have hke:=Nat.le_antisymm hk.out.1 (Nat.le_of_not_lt (fun h=>by have:=(aB hs0).1 h;rw[<-hk.out.2]at this;omega))
  go_wp2;go_ret;exact⟨_,Q,by rw[hblk.out,<-hke];exact ow,hb⟩
section
variable{c:Cas}{q:Ca}{w:V}
theorem Arr.part{α:Type}{sz:Nat}{enc:α->List An}{B b off:Nat}{l:List α}(h:Arr sz enc w B (I ⟨b,off,Z⟩) l)(i j:Nat):Arr sz enc w B (I ⟨b,off+i*sz,Z⟩) ((l.drop i).take j):=by
 grind [Arr,Arr.drop,Arr.take]
theorem Cas.gz(h:c.val q):(c.part q).length=q.BG-q.fr:=by
 unfold Cas.part;rw[DC,SI,c.YA]
 grind [Cas.val]
def Cas.pn{x:Int}(h:x∈c.part q):∃i:Nat,x=(i:Int)/\i<c.n:=Cas.oJ (List.mem_of_mem_drop (Ui h))
theorem Cas.Xb(hc:c.Ok)(h:c.val q):q.low:=by
 have:=hc.P;have:=hc.n;grind [Ca.low,Cas.val]
def po(c:Cas)(m:BP)(M:Mem)(q:Ca)(a:Bool)(w:V)(h:Cj w c m M)(hc:c.Ok)(hlen:Y m.b=c.n)(hq:c.val q):
  AL AE 317 #[AI (I ⟨M.g,0,Z⟩),Ba q,Av a] w fun e w'=>e=AN (Av (c.VK m.b q a))/\Ag w w w':=by
 obtain⟨B,cb,FU,lb,mbv,nbv,arB⟩:=h.b.form Dk;obtain⟨A,k,o1,o2,o3,o4⟩:=h.rows.ord q.pass hq.1
 have hne:c.ord q.pass≠[]:=fun e=>by
  have h1:=c.YA q.pass;rw[e]at h1;have h2:=hq.2.1;have h3:=hq.2.2;simp at h1;omega
 have arA:=o4.arr h.rows.hi;obtain⟨ab,ao,rfl,_,_,_⟩:=o4 hne;have Ru:=arA.part q.fr (q.BG-q.fr);have hpl:=c.gz hq;have hbl:Y m.b<=100000:=by have:=hc.n;omega
 have Dp:∀x∈c.part q,∃i:Nat,x=(i:Int)/\i<Y m.b:=fun x hx=>by rw[hlen];exact Cas.pn hx
 have CZ:=hq.1;have hv2:=hq.2.1;have hv3:=hq.2.2;have hn:=hc.n;have pp:(c.part q).length<=100000:=J;have x6:=h.Cx 6;rw[show(M.cs c m)[6]?=I (R B (Y m.b) cb)from congrArg I FU]at x6;have x4:E w ⟨M.g,4,Z⟩=I (R (I ⟨M.ob,0,Z⟩) c.P M.oc):=h.Cx 4;have y6:=Vq x6 (N q 245);have y4:=Vq x4 (N q 245);have yo:=Vq o1 (N q 245);have z0:∀x:ED (Ao w (N q 245)),E x.w ⟨w,0,Z⟩=I (U O q.pass):=Uc Q;have z1:∀x:ED (Ao w (N q 245)),E x.w ⟨w,1,Z⟩=I (U O q.fr):=Uc Q;have z2:∀x:ED (Ao w (N q 245)),E x.w ⟨w,2,Z⟩=I (U O q.BG):=Uc Q;have bq:=AB (Ae w w) (N q 245)
 have cP:∀(x:ED (Ao w (N q 245))),AL AE 282 #[R B (Y m.b) cb,R (I ⟨ab,ao+q.fr,Z⟩) (q.BG-q.fr) (k-q.fr)] x.w fun e w'=>e=AN (Av (par m.b (c.part q)))/\x.w=w':=fun x=>by
  have hb:=AH bq x.2;have h2:=pg B cb m.b (I ⟨ab,ao+q.fr*1,Z⟩) (k-q.fr) (c.part q) x.w (arB.on hb) (Ru.on hb) hbl pp Dp;rw[hpl,JK]at h2;exact h2
 have hres:Aj (c.VK m.b q a=(par m.b (c.part q) != a)):=F Q;clear Dp Ru arA arB hpl pp hbl hne x6 x4 o1 h hc hq o4 hlen FU;generalize par m.b (c.part q)=AW at*;go_in;go_upto_region 1 with fail;refine Jf AG AG ?_;(repeat(go_big_quiet_step (((go_at_call 282;exact dI (cP _))))));refine GP ?_;rintro w2⟨⟨_,hb2⟩,rfl⟩;go_wp2;go_ret;exact⟨JJ (by rw[hres.out];cases AW <;> cases a <;> rfl),AH bq hb2⟩
theorem Cj.setRow{m m':BP}{M:Mem}(h:Cj w c m M)(hb:m'.b=m.b)(ht:m'.told=m.told):Cj (w.setRow M.g (M.cs c m')) c m' M/\AT (fun k=>k=M.g) w (w.setRow M.g (M.cs c m')):=by
 have ho:AT (fun k=>k=M.g) w (w.setRow M.g (M.cs c m')):=AT.grown (Fw w M.g (M.cs c m')) (fun g hg=>by grind);obtain⟨D,hD⟩:=h.kn;obtain⟨es,clock,Ez,r⟩:=hD.own;refine⟨⟨GS w M.g _ (M.cs c m') _ (0,0) h.row,h.rows.keep ho (fun k hk=>by subst hk;exact h.og),?_,?_,?_,h.og,h.om,h.obv,h.otv⟩,ho⟩
 ·rw[hb];exact ho.own h.b (fun k hk=>(h.nb hk).1)
 ·rw[ht];exact ho.own h.tv (fun k hk=>(h.nt hk).1)
 ·rw[ht];exact⟨D,⟨es,clock,ho.row Ez h.nm,r⟩,hD.has,hD.miss,hD.at_,hD.low,hD.nod⟩
def FX.on{w':V}{mb:Nat}{told:List (Ca × Bool)}(h:FX w mb told)(hb:Ag w w w'):FX w' mb told:=h.kept (Db hb) AO
def pq(c:Cas)(m:BP)(M:Mem)(q:Ca)(w:V)(h:Cj w c m M)(hq:q.low):
  AL AE 315 #[AI (I ⟨M.g,0,Z⟩),Ba q] w fun e w'=>
   ((FJ m.told q).isSome=true/\e=AN (Av true)/\Ag w w w')\/((FJ m.told q).isSome=false/\e=AN (Av false)/\Cj w' c {m with next:=q,opn:=true} M/\AT (fun k=>k=M.g) w w'):=by
 have bq:=AB (Ae w w) (N q 245);have h1:=h.on bq;have x7:E (Ao w (N q 245)) ⟨M.g,7,Z⟩=I (.map (I M.mb)):=h1.Cx 7;have z0:E (Ao w (N q 245)) ⟨w,0,Z⟩=I (U O q.pass):=Cb Q;have z1:E (Ao w (N q 245)) ⟨w,1,Z⟩=I (U O q.fr):=Cb Q;have z2:E (Ao w (N q 245)) ⟨w,2,Z⟩=I (U O q.BG):=Cb Q;have hL:=(h1.kn.look hq).2;have RI:=((h1.kn.on (Ae _ _).drew).look hq).2;have Fin:Aj (∀b,(FJ m.told q).isSome=b->b=false->(FJ m.told q).isSome=false):=F (fun b h1 h2=>h1.trans h2);obtain⟨v0,hv0⟩:=Az ((FJ m.told q).getD false);unfold qv at hL RI;go_in;go_upto_region 1 with fail;obtain⟨w1,BJ⟩:=Az (Ao w (N q 245));rw[BJ]at bq h1 x7 z0 z1 z2 hL RI ⊢;clear BJ;rw[hv0]at hL RI;have hqs:(prog.info? 245).map (·.size)=I 3:=AG;cases hk:(FJ m.told q).isSome
 ·rw[hk]at hL RI
  go_region;have h2:=h1.on (Ae _ _).drew;obtain⟨h3,o3⟩:=h2.setRow (m':={m with next:=q}) Q Q;have h4:=h3.set 21 (Av true) (m':={m with next:=q,opn:=true}) Q Q Q;have f3:=h3.fr 21;have c3:E ((w1.drew).setRow M.g (M.cs c {m with next:=q})) ⟨M.g,21,Z⟩=I (Av m.opn):=h3.Cx 21;have o4:AT (fun k=>k=M.g) w (Ai ((w1.drew).setRow M.g (M.cs c {m with next:=q})) ⟨M.g,21,Z⟩ (Av true)):=((AT.of (bq.drew)).trans o3).trans (AT.set Q);have r2:=h2.row;clear h h1 h3 o3 x7 hL RI;go_wp2_with(refine VJ Q 245 _ _ Q M.g 18 #[U O q.pass,U O q.fr,U O q.BG] AG AG 247 _ (M.cs c {m with next:=q}) r2 hqs (Fg AG) AG AG ?_);go_ret;exact .inr ⟨hk,rfl,h4,o4⟩
 ·rw[hk]at hL RI
  go_region;go_wp2;go_ret;exact .inl ⟨hk,rfl,bq.drew⟩
end
def VN(M:Mem):Fq->An
 | .ask=> .func (.func 305) #[AI (I ⟨M.g,0,Z⟩)] #[]
 | .search=> .func (.func 316) #[AI (I ⟨M.g,0,Z⟩)] #[]
 | .Gf=> .func (.func 306) #[AI (I ⟨M.g,0,Z⟩)] #[]
 | .stop=> Bl
def Mem.S(M:Mem)(k:Nat):Prop:=k=M.g\/M.bv.ownBlock=I k
def gA(c:Cas)(M:Mem)(r:Fq × BP)(w w':V)(e:Ending):Prop:=e=AN (VN M r.1)/\Cj w' c r.2 M/\AT M.S w w'
def gC(w:V)(a:AS):Nat:=match E w a with | some (.int _ n)=>n.toNat | _=>0
def pB{w:V}{a:AS}{k:IntKind}{n:Nat}(h:E w a=I (.int k (n:Int))):gC w a=n:=by simp[gC,h]
def AT.toM{M:Mem}{w w':V}(h:AT (fun k=>k=M.g) w w'):AT M.S w w':=h.mono (fun _ _ h=> .inl h)
def Abh(c:Cas)(m:BP)(M:Mem)(w:V)(h:Cj w c m M)(hc:c.Ok)(hat:c.at .ask m):
  AL AE 305 #[AI (I ⟨M.g,0,Z⟩)] w fun e w'=>gA c M (c.NH m) w w' e:=by
 have OE:E w ⟨M.g,11,Z⟩=I (U O m.pass):=h.Cx 11;have x1:E w ⟨M.g,1,Z⟩=I (U O c.P):=h.Cx 1;have gD:=hat.1.pass;have hP:=hc.P;by_cases hp:m.pass=c.P
 ·have hs:Aj (c.NH m=(.stop,m)):=F (by unfold Cas.NH;rw[Bd hp])
  have hd:=h.on (Ae _ _).drew;have g1:((m.pass:Int) == (c.P:Int))=true:=by simp[hp]
  clear gD hP hat hc h hp;go_in;go_upto_region 1 with fail;go_region;go_wp2;go_ret;rw[hs.out];exact⟨Q,hd,AT.of (Ae _ _).drew⟩
 ·have hs:Aj (c.NH m=KC m ((c.blk m.pass).drop m.block)):=F (by unfold Cas.NH;rw[AU hp])
  have hpl:=Nat.lt_of_le_of_ne gD hp;have g1:((m.pass:Int) == (c.P:Int))=false:=by simp;omega
  have hbl:=hat.1.blk;have Qs:=c.oO hc m.pass;have Hc:=F hc;clear gD hP hat hc hp;go_in;go_upto_region 1 with fail;go_region;have hd:=h.on (Ae _ _).drew;have od:AT (fun k=>k=M.g) w w.drew:=AT.of (Ae _ _).drew;clear h OE x1;obtain⟨L,hL⟩:=Az ((c.blk m.pass).length);have HL:=F hL;rw[hL]at hbl Qs;clear hL;go_wp2_with fail;go_loopw [2] (fun v wr=>v=Bl/\∃i:Nat,i<=L/\Cj wr c {m with block:=i} M/\AT (fun k=>k=M.g) w wr/\Aj (KC m ((c.blk m.pass).drop m.block)=KC {m with block:=i} ((c.blk m.pass).drop i))) (fun _ wr=>L-gC wr ⟨M.g,12,Z⟩);exact⟨rfl,m.block,hbl,hd,od,F rfl⟩
  obtain⟨rfl,i,hi,hA,hO,hG⟩:=hrel;obtain⟨w6,rfl⟩:=qgn wr;obtain⟨A,k,b1,b2,b3,b4⟩:=hA.rows.blk m.pass hpl;rw[HL.out]at b1 b2;have y12:E w6 ⟨M.g,12,Z⟩=I (U O i):=hA.Cx 12;have y11:E w6 ⟨M.g,11,Z⟩=I (U O m.pass):=hA.Cx 11;have y5:E w6 ⟨M.g,5,Z⟩=I (R (I ⟨M.kb,0,Z⟩) c.P M.kc):=hA.Cx 5;have hcn:=pB y12;clear hd od;by_cases hlt:i<L
  ·obtain⟨q,hq⟩:∃q,(c.blk m.pass)[i]?=I q:=⟨_,CH (qrf HL.out hlt)⟩
   have hqv:c.val q:=by
    have h1:=c.aD (p:=m.pass) (i:=i) (qrf HL.out hlt);rw[hq]at h1;rw[Option.some.inj h1];exact c.aE Hc hpl (qrf HL.out hlt)
   have RJ:=c.Xb Hc hqv
   have hst:Aj (KC {m with block:=i} ((c.blk m.pass).drop i)=if(FJ m.told q).isSome then KC {m with block:=i+1} ((c.blk m.pass).drop (i+1))else(.stop,{m with block:=i,next:=q,opn:=true})):=F (by
    have h1:i<(c.blk m.pass).length:=qrf HL.out hlt;rw[PI h1];have h2:(c.blk m.pass)[i]=q:=by rw[CH h1]at hq;exact Option.some.inj hq
    rw[h2]
    rfl)
   obtain⟨b,off,rfl,_,_,hcell⟩:=b4 (fun e=>by rw[e]at hq;simp at hq);have z0:=hcell i q hq 0 _ Q;have z1:=hcell i q hq 1 _ Q;have z2:=hcell i q hq 2 _ Q;simp only[Nat.add_zero]at z0;go_upto_region 3 with fail;go_region;go_upto_region 5 with fail;have hA5:=hA.on (Ae _ _).drew;have oK:=hO.trans (AT.of (Ae _ _).drew.drew);obtain⟨w5,Ct⟩:=Az (w6.drew);have t12:E w5 ⟨M.g,12,Z⟩=I (U O i):=qrb Ct y12;have t11:E w5 ⟨M.g,11,Z⟩=I (U O m.pass):=qrb Ct y11;have t5:E w5 ⟨M.g,5,Z⟩=I (R (I ⟨M.kb,0,Z⟩) c.P M.kc):=qrb Ct y5;have tb:E w5 ⟨M.kb,m.pass,Z⟩=I (R (I ⟨b,off,Z⟩) L k):=qrb Ct b1;have t0:E w5 ⟨b,off+i*3,Z⟩=I (U O q.pass):=qrb Ct z0;have t1:E w5 ⟨b,off+i*3+1,Z⟩=I (U O q.fr):=qrb Ct z1;have t2:E w5 ⟨b,off+i*3+2,Z⟩=I (U O q.BG):=qrb Ct z2;rw[Ct]at hA5 oK ⊢;clear Ct y12 y11 y5 b1 z0 z1 z2 b4 hcell hA hO hqv;have cK:=pq c {m with block:=i} M q w5.drew (hA5.on (Ae _ _).drew) RJ;have gF:=hA5.on (Ae _ _).drew;clear hA5 RJ;go_still_tail 17,AG;change wpList _ _ _ _ _ w5.drew;go_wp2_with fail;refine cK.mono ?_;rintro e w7 (⟨hk,rfl,Cl⟩ | ⟨hk,rfl,Qt,hO7⟩)
   ·have Qt:=gF.on Cl
    have c12:E w7 ⟨M.g,12,Z⟩=I (U O i):=Qt.Cx 12;have f12:=Qt.fr 12;have hB:Cj (Ai w7 ⟨M.g,12,Z⟩ (U O ((i:Int)+1))) c {m with block:=i+1} M:=Qt.set 12 _ (m':={m with block:=i+1}) Q Q Q;have oB:AT (fun k=>k=M.g) w (Ai w7 ⟨M.g,12,Z⟩ (U O ((i:Int)+1))):=(oK.trans (AT.of Cl)).trans (AT.set Q);have Qu:Aj (KC m ((c.blk m.pass).drop m.block)=KC {m with block:=i+1} ((c.blk m.pass).drop (i+1))):=F (by rw[hG.out,hst.out,Bd hk]);clear Qt gF t12 t11 t5 tb t0 t1 t2 hst hG Cl;go_wp2_with fail;refine⟨⟨Q,i+1,J,hB,oB,Qu⟩,?_⟩;have h9:E (Ai w7 ⟨M.g,12,Z⟩ (U O ((i:Int)+1))) ⟨M.g,12,Z⟩=I (U O ((i+1:Nat):Int)):=hB.Cx 12;rw[pB h9,hcn];omega
   ·have hR:Aj (c.NH m=(.stop,{m with block:=i,next:=q,opn:=true})):=F (by rw[hs.out,hG.out,hst.out,AU (by rw[hk];decide)])
    clear gF t12 t11 t5 tb t0 t1 t2 hst hG;go_wp2;go_ret;rw[hR.out];exact⟨Q,Qt,(oK.trans hO7).toM⟩
  ·obtain rfl:i=L:=J
   have hR:Aj (c.NH m=(.search,{m with block:=i})):=F (by rw[hs.out,hG.out,X6 (by rw[HL.out];exact Bg _)];rfl);have hAd:=hA.on (Ae _ _).drew;go_upto_region 3 with fail;go_region;go_wp2;go_ret;rw[hR.out];exact⟨Q,hAd,(hO.trans (AT.of (Ae _ _).drew)).toM⟩
def Cas.Mx(c:Cas)(p n:Nat):List Ca:=(List.range' p (n-p)).flatMap c.blk
def Cas.Abi(c:Cas)(n:Nat):c.Mx 0 n=c.upto n:=by
 unfold Cas.Mx Cas.upto;rw[List.range_eq_range',Nat.sub_zero]
def Cas.Abj(c:Cas){p n:Nat}(h:p<n):c.Mx p n=c.blk p++ c.Mx (p+1) n:=by
 unfold Cas.Mx;rw[show n-p=(n-(p+1))+1 by omega,List.range'_succ,List.flatMap_cons]
theorem Cas.Abk(c:Cas)(n:Nat):c.Mx n n=[]:=by
 grind [Cas.Mx]
def YH(w:V)(g:Nat)(a:Option Ca):Prop:=∃r:Ca,w.heap[g]?=I (N r 245 (0,0))/\∀q,a=I q->r=q/\q.fr<q.BG/\q.BG<=512
def gG{P:Program}{W:V}{ops:Array Oper}{o:Oper}{a:Act}{K:Act->V->Prop}{Bn:Exit->Act->V->Prop}{AM:Prop}(hgd:o.guard=Z)(ty:TypeId)(x y:Operand)(ho:o.op=.store ty x y)
  (g off:Nat) (cells:Array An) (hx:a.eval x=AI (I ⟨g,off,Z⟩)) (hy:a.eval y=Ba cells)
  (t:TypeId) (old new:Array An) (hg:W.heap[g]?=I (N old t (0,0))) (hi:(P.info? ty).map (·.size)=I cells.size)
  (hold:off+cells.size<=old.size) (h1:cells.all (·.oneCell')=true) (hn:(old.toList.take off++ cells.toList++ old.toList.drop (off+cells.size)).toArray=new)
  (h:K (a.put o.dst undef) (W.setRow g new)):if Region.wanted o (yielded ops a.tmps)=true then Oper.wp P o a W K Bn else AM:=by
 rw[Bd (by simp[Region.wanted,hgd])];unfold Oper.wp execOp;simp only[ho,hx,hy,Instr.storeAt,Instr.sureAddr,Sem.run_bind,Sem.run_pure,Result.andThen_ok,nY W g off t ty old cells new hg hi hold h1 hn];exact h
def Cas.Abl{c:Cas}{m:BP}(h:Gg (c.YB m) (c.upto (m.pass+1)) Z=Z):c.NI m=(.ask,{m with pass:=m.pass+1,block:=0}):=by
 unfold Cas.NI;rw[h]
def Cas.Abm{c:Cas}{m:BP}{q:Ca}(h:Gg (c.YB m) (c.upto (m.pass+1)) Z=I q):c.NI m=if m.flips=Y m.b then(.stop,{m with failed:=true})else(.Gf,{m with odd:=q,ans:=(m.look q).getD false,srch:=true}):=by
 unfold Cas.NI;rw[h]
def Abn(c:Cas)(m:BP)(M:Mem)(w:V)(h:Cj w c m M)(hc:c.Ok)(hat:c.at .search m):
  AL AE 316 #[AI (I ⟨M.g,0,Z⟩)] w fun e w'=>gA c M (c.NI m) w w' e:=by
 have hpl:=hat.2.2.2;have hlen:=hat.1.len;have b1:=AB (Ae w w) (N #[U O 0,U O 0,U O 0] 245);have B1:YH (Ao w (N #[U O 0,U O 0,U O 0] 245)) w Z:=⟨⟨0,0,0⟩,CB w _,fun q hq=>by cases hq⟩
 have OE:E w ⟨M.g,11,Z⟩=I (U O m.pass):=h.Cx 11;have gH:=AK b1 OE;obtain⟨n,hn⟩:=Az (m.pass+1);have hnP:n<=c.P:=J;have hP:=hc.P;have EU:(m.pass:Int)+1=(n:Int):=J;have Ajo:m.pass<12:=J;go_in;go_upto_region 3 with fail;go_step3;go_upto_region 3 with fail;go_step3;obtain⟨w1,BJ⟩:=Az (Ao w (N #[U O 0,U O 0,U O 0] 245));obtain⟨bb,BN⟩:=Az (w.heap.size);rw[BJ]at b1 B1 gH ⊢;rw[BN]at B1 ⊢;clear BJ;obtain⟨f,hf⟩:=Az (c.YB m);have hfq:∀q,c.VK m.b q ((FJ m.told q).getD false)=f q:=fun q=>by rw[<-hf];rfl
 have Hfq:=F hfq;have HcA:=F hc;have Uw:=F hlen;have Hf:=F hf;have hbw:↑w<=bb:=J;have Hbw:=F hbw;clear hfq hf hat hlen OE BN hbw;go_upto_block 0 with fail;go_cut [4] (fun v wx=>∃a:Option Ca,v=Av a.isSome/\Aj (Gg f (c.upto n) Z=a)/\YH wx bb a/\Ag w w wx)
 case first=>
  go_upto_region 4 with fail;go_loopw [4,13] (fun v4 v13 wr=>∃(p:Nat) (a:Option Ca),p<=n/\v13=U O p/\v4=Av a.isSome/\YH wr bb a/\Ag w w wr/\Aj (Gg f (c.upto n) Z=Gg f (c.Mx p n) a)) (fun _ v _=>n-(intOf v).toNat);exact⟨0,Z,J,rfl,rfl,B1,b1,F (by rw[c.Abi])⟩
  obtain⟨p,a,hp,rfl,rfl,hB,hbr,hG⟩:=hrel;obtain⟨w6,rfl⟩:=qgn wr;by_cases hlt:p<n
  ·have hA6:=h.on hbr
   obtain⟨A,k,rw1,r2,r3,r4⟩:=h.rows.blk p J;have r1:=AK hbr rw1;have R4:=F (r4.arr h.rows.hi);have Qs:=c.oO HcA p;have y5:E w6 ⟨M.g,5,Z⟩=I (R (I ⟨M.kb,0,Z⟩) c.P M.kc):=hA6.Cx 5;have hst:=F (c.Abj hlt);obtain⟨L,hL⟩:=Az ((c.blk p).length);rw[hL]at r1 r2 Qs;clear rw1;have HL:=F hL;have hpP:p<c.P:=J;clear hL gH B1 b1 r4;go_upto_region 7 with fail;go_loopw [4,24] (fun v4 v24 wr=>∃(i:Nat) (a:Option Ca),i<=L/\v24=U O i/\v4=Av a.isSome/\YH wr bb a/\Ag w w wr/\Aj (Gg f (c.upto n) Z=Gg f ((c.blk p).drop i++ c.Mx (p+1) n) a)) (fun _ v _=>L-(intOf v).toNat);exact⟨0,a,J,rfl,rfl,hB,hbr,F (by rw[hG.out,hst.out,List.drop_zero])⟩
   obtain⟨i,a2,hi,rfl,rfl,RK,YI,Qu⟩:=hrel;obtain⟨w7,rfl⟩:=qgn wr;clear hB hbr hG y5 r1 hA6;by_cases hil:i<L
   ·obtain⟨q,hq⟩:∃q,(c.blk p)[i]?=I q:=⟨_,CH (qrf HL.out hil)⟩
    have hqv:c.val q:=by
     have h1:=c.aD (p:=p) (i:=i) (qrf HL.out hil);rw[hq]at h1;rw[Option.some.inj h1];exact c.aE HcA hpP (qrf HL.out hil)
    have RJ:=c.Xb HcA hqv;obtain⟨b,off,rfl,_,hcell⟩:=(R4.out.on YI) (fun e=>by rw[e]at hq;simp at hq)
    have z0:=hcell i q hq 0 _ Q;have z1:=hcell i q hq 1 _ Q;have z2:=hcell i q hq 2 _ Q;simp only[Nat.add_zero]at z0;obtain⟨r,hrow,hra⟩:=RK;have bq:=AB (Ae w7 w7) (N q 245);have h8:=(h.on YI).on bq;have Cv:=AH YI bq;have t0:E (Ao w7 (N q 245)) ⟨w7,0,Z⟩=I (U O q.pass):=Cb Q;have t1:E (Ao w7 (N q 245)) ⟨w7,1,Z⟩=I (U O q.fr):=Cb Q;have t2:E (Ao w7 (N q 245)) ⟨w7,2,Z⟩=I (U O q.BG):=Cb Q;have KD:=(bq.block bb (Bm.1 hrow).1).trans hrow;have Mn:=(Bm.1 hrow).1;clear bq YI hcell;go_upto_region 9 with fail;obtain⟨w8,RA⟩:=Az (Ao w7 (N q 245));obtain⟨qb,Qv⟩:=Az (w7.heap.size);rw[RA]at h8 Cv t0 t1 t2 KD ⊢;rw[Qv]at t0 t1 t2 Mn ⊢;clear RA Qv z0 z1 z2 hrow;have s0:=Di t0;have s1:=Di t1;have s2:=Di t2;have e1:=Di (show E w8 ⟨bb,1,Z⟩=I (U O r.fr)from AX _ _ _ _ _ _ KD);have e2:=Di (show E w8 ⟨bb,2,Z⟩=I (U O r.BG)from AX _ _ _ _ _ _ KD);have y7:=Di (show E w8 ⟨M.g,7,Z⟩=I (.map (I M.mb))from h8.Cx 7);have hL:∀x:ED w8,(Instr.lookup 242 (.map (I M.mb)) (Ba q) false).run AE x.w=.ok (Av ((FJ m.told q).getD false)) x.w:=fun x=>((h8.kn.on x.2).look RJ).1
    have cO:∀x:ED w8,AL AE 317 #[AI (I ⟨M.g,0,Z⟩),Ba q,Av ((FJ m.told q).getD false)] x.w fun e w'=>e=AN (Av (f q))/\Ag x.w.heap.size x.w w':=fun x=>by
     have:=po c m M q ((FJ m.told q).getD false) x.w (h8.on x.2) HcA Uw hqv;rw[Hfq.out]at this;exact this
    generalize(FJ m.told q).getD false=lv at hL cO
    have CW:Aj (Gg f ((c.blk p).drop i++ c.Mx (p+1) n) a2=if f q=false\/a2.any (fun b=>decide (b.BG-b.fr<=q.BG-q.fr))=true then Gg f ((c.blk p).drop (i+1)++ c.Mx (p+1) n) a2 else if q.BG-q.fr=1 then I q else Gg f ((c.blk p).drop (i+1)++ c.Mx (p+1) n) (I q)):=F (by
     have h1:i<(c.blk p).length:=qrf HL.out hil;have h2:(c.blk p)[i]=q:=by rw[CH h1]at hq;exact Option.some.inj hq
     rw[PI h1,h2,List.cons_append,Gg])
    have Abo:=hqv.2.1;have Abp:=Br hqv.2.2 HcA.out.n;have Abq:=(Bm.1 KD).1;have t0':=t0;have t1':=t1;have t2':=t2;clear t0 t1 t2;go_cut [53] (fun v wx=>v=Av (!(f q)||a2.any (fun b=>decide (b.BG-b.fr<=q.BG-q.fr)))/\Ag w8 w8 wx)
    case first=>
     have Abr:=hra;clear Qu CW KD hra t0' t1' t2' h8;cases hfq:f q
     ·rw[hfq]at cO
      refine Jf AG AG ?_;(repeat(go_big_quiet_step (((go_at_call 317;exact Ss (cO _))))));refine GP ?_;rintro w9⟨⟨_,BC⟩,rfl⟩;go_wp2;go_meet;exact⟨by rw[hfq];rfl,BC⟩
     ·rw[hfq]at cO
      cases a2 with
      | none=>
       simp only[Option.isSome_none];refine Jf AG AG ?_;(repeat(go_big_quiet_step (((go_at_call 317;exact Ss (cO _))))));refine GP ?_;rintro w9⟨⟨_,BC⟩,rfl⟩;go_wp2;go_meet;exact⟨by rw[hfq];rfl,BC⟩
      | some r'=>
       simp only[Option.isSome_some];obtain⟨rfl,hr1,hr2⟩:=Abr r' Q;cases hle:decide (r.BG-r.fr<=q.BG-q.fr)
       ·have d1:decide ((r.BG:Int)-(r.fr:Int)<=(q.BG:Int)-(q.fr:Int))=false:=by
         have:=Xc hle;simp;omega
        refine Jf AG AG ?_;(repeat(go_big_quiet_step (((go_at_call 317;exact Ss (cO _))))));refine GP ?_;rintro w9⟨⟨_,BC⟩,rfl⟩;go_wp2;go_meet;exact⟨by rw[hfq];show Value.bool false=Value.bool (false||decide (r.BG-r.fr<=q.BG-q.fr));rw[hle];rfl,BC⟩
       ·have d1:decide ((r.BG:Int)-(r.fr:Int)<=(q.BG:Int)-(q.fr:Int))=true:=by
         have:=Ib hle;simp;omega
        refine Jf AG AG ?_;(repeat(go_big_quiet_step (((go_at_call 317;exact Ss (cO _))))));refine GP ?_;rintro w9⟨⟨_,BC⟩,rfl⟩;go_wp2;go_meet;exact⟨by rw[hfq];show Value.bool true=Value.bool (false||decide (r.BG-r.fr<=q.BG-q.fr));rw[hle];rfl,BC⟩
    obtain⟨rfl,BC⟩:=hcut;clear cO hL y7 e1 e2 s0 s1 s2;have My:=(BC.block bb Abq).trans KD;have CP:=AH Cv BC;have u0:=AK BC t0';have u1:=AK BC t1';have u2:=AK BC t2';clear t0' t1' t2' Cv h8 KD;obtain⟨w9,rfl⟩:=qgn wc;cases hX:(!(f q)||a2.any (fun b=>decide (b.BG-b.fr<=q.BG-q.fr)))
    ·have hno:Aj (¬(f q=false\/a2.any (fun b=>decide (b.BG-b.fr<=q.BG-q.fr))=true)):=F (by
      rw[Bool.or_eq_false_iff]at hX;rintro(h1 | h1)
      ·rw[h1]at hX;simp at hX
      ·rw[h1]at hX;simp at hX)
     have gr:=Fw w9 bb #[U O q.pass,U O q.fr,U O q.BG];have rh:=GS w9 bb _ #[U O q.pass,U O q.fr,U O q.BG] _ (0,0) My;have GH:=CP.grown gr CP.size (fun k hk=>by cases hk;exact Hbw.out);have B11:YH (w9.setRow bb #[U O q.pass,U O q.fr,U O q.BG]) bb (I q):=⟨q,rh,fun q' OX=>by cases OX;exact⟨Q,Abo,Abp⟩⟩
     have v1:=gr.cell u1 qsm;have v2:=gr.cell u2 qsm;have hsz:(prog.info? 245).map (·.size)=I 3:=AG;cases h1:decide (q.BG-q.fr=1)
     ·have hG3:Aj (Gg f (c.upto n) Z=Gg f ((c.blk p).drop (i+1)++ c.Mx (p+1) n) (I q)):=F (by rw[Qu.out,CW.out,AU hno.out,AU (Xc h1)])
      have d1:((q.BG:Int)-(q.fr:Int) == 1)=false:=by
       have:=Xc h1;simp;omega
      clear h1 CW Qu hno gr rh hX;go_wp2_with(refine Mc Q 245 _ _ Q bb #[U O q.pass,U O q.fr,U O q.BG] AG AG 245 _ My hsz Q AG ?_);exact⟨⟨i+1,I q,J,qgm,Q,B11,GH,hG3⟩,qio⟩
     ·have hG3:Aj (Gg f (c.upto n) Z=I q):=F (by rw[Qu.out,CW.out,AU hno.out,Bd (Ib h1)])
      have d1:((q.BG:Int)-(q.fr:Int) == 1)=true:=by
       have:=Ib h1;simp;omega
      clear h1 CW Qu hno gr rh hX;go_wp2_with(refine Mc Q 245 _ _ Q bb #[U O q.pass,U O q.fr,U O q.BG] AG AG 245 _ My hsz Q AG ?_);go_meet;exact⟨I q,rfl,hG3,B11,GH⟩
    ·have hG3:Aj (Gg f (c.upto n) Z=Gg f ((c.blk p).drop (i+1)++ c.Mx (p+1) n) a2):=F (by
      rw[Qu.out,CW.out,Bd ?_];rw[Bool.or_eq_true]at hX;rcases hX with h1 | h1
      ·exact .inl (qsu h1)
      ·exact .inr h1)
     clear CW Qu hX;go_wp2_with fail;exact⟨⟨i+1,a2,J,qgm,Q,⟨r,My,hra⟩,CP,hG3⟩,qio⟩
   ·obtain rfl:i=L:=J
    have hG3:Aj (Gg f (c.upto n) Z=Gg f (c.Mx (p+1) n) a2):=F (by rw[Qu.out,X6 (by rw[HL.out];exact Bg _),Uy]);go_wp2_with fail;exact⟨⟨p+1,a2,J,qgm,Q,RK,YI,hG3⟩,qio⟩
  ·obtain rfl:p=n:=J
   have Qu:Aj (Gg f (c.upto p) Z=a):=F (by rw[hG.out,c.Abk];rfl);go_wp2;go_meet;exact⟨a,rfl,Qu,hB,hbr⟩
 obtain⟨a,rfl,hG,hB,hbr⟩:=hcut;have GI:=h.on hbr;obtain⟨wx,rfl⟩:=qgn wc;clear B1 b1 gH;cases a with
 | none=>
  simp only[Option.isSome_none];have hst:=F (c.Abl (by rw[Hf.out,hn,hG.out]));have c11:E wx ⟨M.g,11,Z⟩=I (U O m.pass):=GI.Cx 11;have c12:E wx ⟨M.g,12,Z⟩=I (U O m.block):=GI.Cx 12;have f11:=GI.fr 11;have f12:=GI.fr 12;have k1:Cj (Ai wx ⟨M.g,11,Z⟩ (U O n)) c {m with pass:=m.pass+1} M:=GI.set 11 _ (m':={m with pass:=m.pass+1}) (by rw[<-hn];rfl) Q Q;have k2:Cj (Ai (Ai wx ⟨M.g,11,Z⟩ (U O n)) ⟨M.g,12,Z⟩ (U O 0)) c {m with pass:=m.pass+1,block:=0} M:=k1.set 12 _ (m':={m with pass:=m.pass+1,block:=0}) Q Q Q;have o2:AT M.S w (Ai (Ai wx ⟨M.g,11,Z⟩ (U O n)) ⟨M.g,12,Z⟩ (U O 0)):=((AT.of hbr).trans (AT.set (.inl Q))).trans (AT.set (.inl Q));clear k1 hB hG;go_wp2_with fail
  try rw[Exit.noGoto_ret]
  go_ret;rw[hst.out];exact⟨Q,k2,o2⟩
 | some q=>
  simp only[Option.isSome_some];have hst:=F (c.Abm (by rw[Hf.out,hn,hG.out]))
  have RJ:q.low:=by
   rcases aF _ _ _ hG with h1 | h1
   ·exact c.Xb HcA (c.oT HcA hnP h1)
   ·cases h1
  obtain⟨r,hrow,hra⟩:=hB;obtain⟨rfl,_,_⟩:=hra q Q;have c9:E wx ⟨M.g,9,Z⟩=I (U O m.flips):=GI.Cx 9;obtain⟨B,cb,FU,lb,mbv,nbv,arB⟩:=GI.b.form Dk;have c6:=GI.Cx 6;rw[show(M.cs c m)[6]?=I (R B (Y m.b) cb)from congrArg I FU]at c6;clear hG arB hra FU lb mbv nbv;cases Cw:decide (m.flips=Y m.b)
  ·have SR:=Xc Cw
   have d1:((m.flips:Int) == (Y m.b:Int))=false:=by simpa using(by omega:¬(m.flips:Int)=(Y m.b:Int))
   have hR:Aj (c.NI m=(.Gf,{m with odd:=r,ans:=(m.look r).getD false,srch:=true})):=F (by rw[hst.out,AU SR]);clear Cw SR hst;go_upto_region 18 with fail;go_region;go_upto_region 21 with fail
   have hSx:E wx.drew.drew ⟨M.g,7,Z⟩=I (.map (I M.mb))/\E wx.drew.drew ⟨bb,0,Z⟩=I (U O r.pass)/\E wx.drew.drew ⟨bb,1,Z⟩=I (U O r.fr)/\E wx.drew.drew ⟨bb,2,Z⟩=I (U O r.BG)/\(Instr.lookup 242 (.map (I M.mb)) (Ba r) false).run AE wx.drew.drew=.ok (Av ((FJ m.told r).getD false)) wx.drew.drew:=by
    have h1:=GI.on (Ae _ _).drew.drew;exact⟨h1.Cx 7,AX _ _ _ _ _ _ hrow,AX _ _ _ _ _ _ hrow,AX _ _ _ _ _ _ hrow,(h1.kn.look RJ).1⟩
   obtain⟨s7,sb0,sb1,sb2,sL⟩:=hSx;have y14:E wx ⟨M.g,14,Z⟩=I (U O m.odd.pass):=GI.Cx 14;have y15:E wx ⟨M.g,15,Z⟩=I (U O m.odd.fr):=GI.Cx 15;have y16:E wx ⟨M.g,16,Z⟩=I (U O m.odd.BG):=GI.Cx 16;have y17:E wx ⟨M.g,17,Z⟩=I (Av m.ans):=GI.Cx 17;have y13:E wx ⟨M.g,13,Z⟩=I (Av m.srch):=GI.Cx 13;have f14:=GI.fr 14;have f15:=GI.fr 15;have f16:=GI.fr 16;have f17:=GI.fr 17;have f13:=GI.fr 13;have e1:E wx ⟨bb,1,Z⟩=I (U O r.fr):=AX _ _ _ _ _ _ hrow;have e2:E wx ⟨bb,2,Z⟩=I (U O r.BG):=AX _ _ _ _ _ _ hrow;go_region;have k14:Cj (Ai wx ⟨M.g,14,Z⟩ (U O r.pass)) c {m with odd:=⟨r.pass,m.odd.fr,m.odd.BG⟩} M:=GI.set 14 _ (m':={m with odd:=⟨r.pass,m.odd.fr,m.odd.BG⟩}) Q Q Q;have k15:=k14.set 15 (U O r.fr) (m':={m with odd:=⟨r.pass,r.fr,m.odd.BG⟩}) Q Q Q;have k16:=k15.set 16 (U O r.BG) (m':={m with odd:=r}) Q Q Q;have k17:=k16.set 17 (Av ((FJ m.told r).getD false)) (m':={m with odd:=r,ans:=(m.look r).getD false}) Q Q Q;have k13:=k17.set 13 (Av true) (m':={m with odd:=r,ans:=(m.look r).getD false,srch:=true}) Q Q Q;have kd:=k13.on (Ae _ _).drew.drew
   have od:AT M.S wx (Ai (Ai (Ai (Ai (Ai wx ⟨M.g,14,Z⟩ (U O r.pass)) ⟨M.g,15,Z⟩ (U O r.fr)) ⟨M.g,16,Z⟩ (U O r.BG)) ⟨M.g,17,Z⟩ (Av ((FJ m.told r).getD false))) ⟨M.g,13,Z⟩ (Av true)).drew.drew:=
    (((((AT.set (.inl Q)).trans (AT.set (.inl Q))).trans (AT.set (.inl Q))).trans (AT.set (.inl Q))).trans (AT.set (.inl Q))).trans (AT.of (Ae _ _).drew.drew)
   clear k14 k15 k16 k17 k13 y13 y14 y15 y16 y17 f13 f14 f15 f16 f17 e1 e2 sL s7 sb0 sb1 sb2;go_wp2_with fail
   try rw[Exit.noGoto_ret]
   go_ret;rw[hR.out];exact⟨Q,kd,(AT.of hbr).trans od⟩
  ·have SR:=Ib Cw
   have d1:((m.flips:Int) == (Y m.b:Int))=true:=by simp[SR]
   have hR:Aj (c.NI m=(.stop,{m with failed:=true})):=F (by rw[hst.out,Bd SR]);clear Cw SR hst;have hAd:=GI.on (Ae _ _).drew;have c10:E wx.drew ⟨M.g,10,Z⟩=I (Av m.failed):=hAd.Cx 10;have f10:=hAd.fr 10;have k1:Cj (Ai wx.drew ⟨M.g,10,Z⟩ (Av true)) c {m with failed:=true} M:=hAd.set 10 _ (m':={m with failed:=true}) Q Q Q;have o2:AT M.S w (Ai wx.drew ⟨M.g,10,Z⟩ (Av true)):=(AT.of hbr.drew).trans (AT.set (.inl Q));go_upto_region 18 with fail;go_region;go_wp2_with fail
   try rw[Exit.noGoto_ret]
   go_ret;rw[hR.out];exact⟨Q,k1,o2⟩
section
variable{M:Mem}{c:Cas}{m:BP}{w:V}
theorem Cj.bvs(h:Cj w c m M)(hl:0<Y m.b):∃bk cap,M.bv=R (I ⟨bk,0,Z⟩) (Y m.b) cap/\Y m.b<=cap:=by
 rcases h.b.2 with⟨_,h0⟩ | ⟨g,cap,cur,hv,_,_,hn,_⟩
 all_goals grind
theorem Cj.Abt(h:Cj w c m M){bk cap:Nat}(FU:M.bv=R (I ⟨bk,0,Z⟩) (Y m.b) cap){i:Nat}(hi:i<Y m.b)(v:Bool):
  Cj (Ai w ⟨bk,i,Z⟩ (Av v)) c {m with b:=m.b.set i v} M/\AT M.S w (Ai w ⟨bk,i,Z⟩ (Av v)):=by
 have hk:M.bv.ownBlock=I bk:=by rw[FU];rfl
 obtain⟨n1,n2,n3⟩:=h.nb hk;have ho:AT (fun k=>k=bk) w (Ai w ⟨bk,i,Z⟩ (Av v)):=AT.set Q;have hb:=h.b;rw[FU]at hb;have hs:=Own.TH (x':=v) (j:=0) (u:= Av v) hb Q Dk (CH hi) AC Q;simp only[Nat.mul_one,Nat.add_zero]at hs;obtain⟨D,hD⟩:=h.kn;obtain⟨es,clock,Ez,r⟩:=hD.own;refine⟨⟨ho.row h.row (fun e=>n1 e.symm),h.rows.keep ho (fun k hk=>by subst hk;exact h.obv _ J),?_,ho.own h.tv (fun k hk2 e=>n3 (by rw[hk2,e])),⟨D,⟨es,clock,ho.row Ez (fun e=>n2 e.symm),r⟩,hD.has,hD.miss,hD.at_,hD.low,hD.nod⟩,h.og,h.om,h.obv,h.otv⟩,ho.mono (fun k _ e=> .inr (by grind))⟩
 grind
def Abu(c:Cas)(m:BP)(M:Mem)(w:V)(h:Cj w c m M)(hc:c.Ok)(hat:c.at .Gf m):
  AL AE 306 #[AI (I ⟨M.g,0,Z⟩)] w fun e w'=>gA c M (c.NJ m) w w' e:=by
 obtain⟨hv,hf,hp⟩:=hat.1.odd hat.2.1;have hlen:=hat.1.len;have x14:E w ⟨M.g,14,Z⟩=I (U O m.odd.pass):=h.Cx 14;have x15:E w ⟨M.g,15,Z⟩=I (U O m.odd.fr):=h.Cx 15;have x16:E w ⟨M.g,16,Z⟩=I (U O m.odd.BG):=h.Cx 16;have x4:E w ⟨M.g,4,Z⟩=I (R (I ⟨M.ob,0,Z⟩) c.P M.oc):=h.Cx 4;have hP:=hc.P;have hn:=hc.n;have CZ:=hv.1;have hv2:=hv.2.1;have hv3:=hv.2.2;have Hc:=F hc;have Hv:=F hv;have Uw:=F hlen;obtain⟨z,hz⟩:=Az (m.odd.BG-m.odd.fr);have Hz:=F hz;have hzi:(m.odd.BG:Int)-(m.odd.fr:Int)=(z:Int):=J;have hz1:1<=z/\z<=512:=J;by_cases h1:z=1
 ·subst h1
  have UD:0<Y m.b:=J;obtain⟨bk,cap,FU,vA⟩:=h.bvs UD;obtain⟨A,k,o1,o2,o3,o4⟩:=h.rows.ord m.odd.pass CZ;have hF:m.odd.fr<(c.ord m.odd.pass).length:=by rw[c.YA];omega
  obtain⟨i,hi,Dp⟩:=Cas.oJ (List.getElem_mem hF);obtain⟨ab,ao,hA,_,_,hcell⟩:=o4 (fun e=>by rw[e]at hF;simp at hF);have hoe:(c.ord m.odd.pass)[m.odd.fr]?=I (i:Int):=by rw[CH hF,hi]
  have z0:=hcell m.odd.fr _ hoe 0 _ Q;simp only[Nat.mul_one,Nat.add_zero]at z0;subst hA;have VO:m.bit c=i:=by unfold BP.bit;rw[YE,hoe];simp
  have hib:i<Y m.b:=J;obtain⟨bv,hbe⟩:∃bv,m.b[i]?=I bv:=⟨_,CH hib⟩
  have hb:=h.b;rw[FU]at hb
  have c0:E w ⟨bk,i,Z⟩=I (Av bv):=by
   have:=Own.OI (j:=0) (u:= Av bv) hb Q Dk hbe Q;simpa using this
  have f0:=Own.OJ hb Q i;have x6:=h.Cx 6;rw[show(M.cs c m)[6]?=I (R (I ⟨bk,0,Z⟩) (Y m.b) cap)from congrArg I FU]at x6
  have hR:Aj (c.NJ m=(.search,{m with b:=m.b.set i (!bv),flips:=m.flips+1,srch:=false})):=F (by
   unfold Cas.NJ;rw[Bd Hz.out,VO,YE,hbe];rfl)
  have PT:=h.rows.oc.1;clear hi hoe hcell hb hbe VO hat hF hc hv o4 hz;go_in;go_upto_region 1 with fail;go_region;go_upto_region 3 with fail;go_region;go_upto_region 4 with fail;go_region;obtain⟨k1,u1⟩:=h.Abt FU hib (!bv);have k2:=k1.on (Ae _ _).drew.drew.drew;have p2:=u1.trans (AT.of (Ae _ _).drew.drew.drew);obtain⟨w2,hw2⟩:=Az ((Ai w ⟨bk,i,Z⟩ (Av !bv)).drew.drew.drew);rw[hw2]at k2 p2 ⊢;clear hw2 k1 u1 h x14 x15 x16 x4 x6 c0 f0 z0 o1;have y9:E w2 ⟨M.g,9,Z⟩=I (U O m.flips):=k2.Cx 9;have y13:E w2 ⟨M.g,13,Z⟩=I (Av m.srch):=k2.Cx 13;have f9:=k2.fr 9;have f13:=k2.fr 13;have k3:Cj (Ai w2 ⟨M.g,9,Z⟩ (U O ((m.flips:Int)+1))) c {m with b:=m.b.set i (!bv),flips:=m.flips+1} M:=k2.set 9 _ (m':={m with b:=m.b.set i (!bv),flips:=m.flips+1}) Q Q Q;have k4:=k3.set 13 (Av false) (m':={m with b:=m.b.set i (!bv),flips:=m.flips+1,srch:=false}) Q Q Q;have p4:AT M.S w (Ai (Ai w2 ⟨M.g,9,Z⟩ (U O ((m.flips:Int)+1))) ⟨M.g,13,Z⟩ (Av false)):=(p2.trans (AT.set (.inl Q))).trans (AT.set (.inl Q));clear k2 k3 p2;go_wp2;go_ret;rw[hR.out];exact⟨Q,k4,p4⟩
 ·have Cw:m.first.low:=by
   have:=hc.P;refine⟨?_,?_,?_⟩ <;> simp only[BP.first] <;> omega
  have hfv:c.val m.first:=⟨hv.1,by simp only[BP.first];omega,by simp only[BP.first];omega⟩
  obtain⟨t,ht⟩:=Az (m.odd.fr+z / 2);have hfe:m.first=⟨m.odd.pass,m.odd.fr,t⟩:=by unfold BP.first;rw[hz,ht]
  have hti:(m.odd.fr:Int)+(z:Int) / 2=(t:Int):=J;have ht2:t<=512:=J;have g1:((z:Int) == 1)=false:=by simpa using(by omega:¬(z:Int)=1)
  have hne:¬m.odd.BG-m.odd.fr=1:=J;have Hne:=F hne;have Hfe:=F hfe;have Hfl:=F Cw;have Hfv:=F hfv;have Hat:=F hat;clear hne hfe Cw hfv hat hc hv ht hz h1;go_in;go_upto_region 1 with fail;go_region;go_upto_region 10 with fail;have bq:=(AB (Ae w w) (N #[U O m.odd.pass,U O m.odd.fr,U O t] 245)).drew;have t0:E (Ao w (N #[U O m.odd.pass,U O m.odd.fr,U O t] 245)).drew ⟨w,0,Z⟩=I (U O m.odd.pass):=Cb Q;have t1:E (Ao w (N #[U O m.odd.pass,U O m.odd.fr,U O t] 245)).drew ⟨w,1,Z⟩=I (U O m.odd.fr):=Cb Q;have t2:E (Ao w (N #[U O m.odd.pass,U O m.odd.fr,U O t] 245)).drew ⟨w,2,Z⟩=I (U O t):=Cb Q;have hA1:=h.on bq;obtain⟨fb,hfb⟩:=Az (w.heap.size);have hgb:M.g<fb:=by rw[<-hfb];exact(Bm.1 h.row).1
  obtain⟨w1,BJ⟩:=Az ((Ao w (N #[U O m.odd.pass,U O m.odd.fr,U O t] 245)).drew);rw[BJ]at bq t0 t1 t2 hA1 ⊢;rw[hfb]at t0 t1 t2 ⊢;have Bq:=F bq;clear BJ hfb x14 x15 x16 x4 bq;have SR:=Hfl.out;have gI:=Hfv.out;rw[Hfe.out]at SR gI;have cK:=pq c m M ⟨m.odd.pass,m.odd.fr,t⟩ w1 hA1 SR;have gJ:=F gI;clear SR gI;go_wp2_with fail;refine cK.mono ?_;rintro e w2 (⟨hk,rfl,hb2⟩ | ⟨hk,rfl,FK,NF⟩)
  case inr=>
   have hR:Aj (c.NJ m=(.stop,{m with next:=⟨m.odd.pass,m.odd.fr,t⟩,opn:=true})):=F (by
    unfold Cas.NJ;rw[AU Hne.out,Hfe.out]
    have:m.look ⟨m.odd.pass,m.odd.fr,t⟩=Z:=by
     cases hl:m.look ⟨m.odd.pass,m.odd.fr,t⟩with
     | none=>rfl
     | some a=>rw[show FJ m.told ⟨m.odd.pass,m.odd.fr,t⟩=I a from hl]at hk;cases hk
    rw[this])
   clear cK t0 t1 t2;go_wp2;go_ret;rw[hR.out];exact⟨Q,FK,(AT.of Bq).trans NF.toM⟩
  ·obtain⟨a,ha⟩:∃a,FJ m.told ⟨m.odd.pass,m.odd.fr,t⟩=I a:=Option.isSome_iff_exists.1 hk
   have FK:=hA1.on hb2;have q2:=AH Bq hb2;have s0:=AK hb2 t0;have s1:=AK hb2 t1;have s2:=AK hb2 t2;have y7:E w2 ⟨M.g,7,Z⟩=I (.map (I M.mb)):=FK.Cx 7;have hL:=(FK.kn.look (c.Xb Hc gJ)).1;have RI:=((FK.on (Ae _ _).drew).kn.look (c.Xb Hc gJ)).1;rw[ha]at hL RI;simp only[Option.getD_some]at hL RI;unfold qv at hL RI;have cO:=po c m M ⟨m.odd.pass,m.odd.fr,t⟩ a w2.drew (FK.on (Ae _ _).drew) Hc Uw gJ
   have hR:Aj (c.NJ m=if c.VK m.b ⟨m.odd.pass,m.odd.fr,t⟩ a=true then(.Gf,{m with odd:=⟨m.odd.pass,m.odd.fr,t⟩,ans:=a})else(.Gf,{m with odd:=⟨m.odd.pass,t,m.odd.BG⟩,ans:=m.ans != a})):=F (by
    unfold Cas.NJ;rw[AU Hne.out,Hfe.out,Aa4,ha])
   generalize c.VK m.b ⟨m.odd.pass,m.odd.fr,t⟩ a=od at cO hR;clear cK t0 t1 t2 hA1 hk;go_upto_region 12 with fail;go_region;go_wp2_with fail;refine gqz cO fun w3 hb3=>?_;have q3:=q2.drew.trans (hb3.mono q2.drew.size);have Ff:=(FK.on (Ae _ _).drew).on hb3;have r0:=AK (w:=w2.drew) hb3 s0;have r1:=AK (w:=w2.drew) hb3 s1;have r2:=AK (w:=w2.drew) hb3 s2;clear cO s0 s1 s2 y7 hL RI hb3 hb2 q2 FK;have y14:E w3 ⟨M.g,14,Z⟩=I (U O m.odd.pass):=Ff.Cx 14;have y15:E w3 ⟨M.g,15,Z⟩=I (U O m.odd.fr):=Ff.Cx 15;have y16:E w3 ⟨M.g,16,Z⟩=I (U O m.odd.BG):=Ff.Cx 16;have y17:E w3 ⟨M.g,17,Z⟩=I (Av m.ans):=Ff.Cx 17;have f14:=Ff.fr 14;have f15:=Ff.fr 15;have f16:=Ff.fr 16;have f17:=Ff.fr 17;cases od
   ·go_upto_region 15 with fail
    go_region;have k1:Cj (Ai w3 ⟨M.g,15,Z⟩ (U O t)) c {m with odd:=⟨m.odd.pass,t,m.odd.BG⟩} M:=Ff.set 15 _ (m':={m with odd:=⟨m.odd.pass,t,m.odd.BG⟩}) Q Q Q;have k2:=k1.set 17 (Av (!(m.ans == a))) (m':={m with odd:=⟨m.odd.pass,t,m.odd.BG⟩,ans:=m.ans != a}) Q Q Q;have k3:=k2.on (Ae _ _).drew;have p3:AT M.S w (Ai (Ai w3 ⟨M.g,15,Z⟩ (U O t)) ⟨M.g,17,Z⟩ (Av (!(m.ans == a)))).drew:=(((AT.of q3).trans (AT.set (.inl Q))).trans (AT.set (.inl Q))).trans (AT.of (Ae _ _).drew);have FV:=hR.out;rw[AU AC]at FV;have PM:=F FV;clear k1 k2 Ff y14 y15 y16 y17 f14 f15 f16 f17 r0 r1 r2 FV;go_wp2;go_ret;rw[PM.out];exact⟨Q,k3,p3⟩
   ·go_upto_region 14 with fail
    have k1:=Ff.set 14 _ (m':=m) Q Q Q;have k2:=k1.set 15 (U O m.odd.fr) (m':=m) Q Q Q;have k3:=k2.set 16 (U O t) (m':={m with odd:=⟨m.odd.pass,m.odd.fr,t⟩}) Q Q Q;have k4:=k3.set 17 (Av a) (m':={m with odd:=⟨m.odd.pass,m.odd.fr,t⟩,ans:=a}) Q Q Q;have p4:AT M.S w (Ai (Ai (Ai (Ai w3 ⟨M.g,14,Z⟩ (U O m.odd.pass)) ⟨M.g,15,Z⟩ (U O m.odd.fr)) ⟨M.g,16,Z⟩ (U O t)) ⟨M.g,17,Z⟩ (Av a)):=((((AT.of q3).trans (AT.set (.inl Q))).trans (AT.set (.inl Q))).trans (AT.set (.inl Q))).trans (AT.set (.inl Q));have FV:=hR.out;rw[Bd (by first | trivial | rfl)]at FV;have PM:=F FV;have K4:=F k4;have P4:=F p4;clear k1 k2 k3 k4 p4 FV;go_wp2;go_ret;rw[PM.out];exact⟨Q,K4.out,P4.out⟩
end
def Cas.Abv(c:Cas)(k:Nat)(m:BP):c.run k .stop m=m:=by
 cases k <;> simp[Cas.run]
theorem Cas.gK{c:Cas}{k:Nat}{t:Fq}{m:BP}(hk:c.mu t m<=k)(ht:t≠ .stop):∃j,k=j+1/\c.run k t m=c.run j (c.step t m).1 (c.step t m).2:=by
 cases k with
 | zero=>
  cases t with
  | stop=>grind
  | ask=>simp[Cas.mu]at hk
  | search=>simp[Cas.mu]at hk
  | Gf=>simp[Cas.mu]at hk
 | succ j=>grind [Cas.run,Cas.step,Cas.mu]
def Abw(f:FuncId)(g:Nat)(w:V):(binOp BinOp.neq 409 (.func (.func f) #[AI (I ⟨g,0,Z⟩)] #[]) Bl).run AE w=.ok (Av true) w:=AG
def Abx(w:V):(binOp BinOp.neq 409 Bl Bl).run AE w=.ok (Av false) w:=AG
def pC(c:Cas)(m:BP)(M:Mem)(w:V)(h:Cj w c m M)(hc:c.Ok)(ok:m.Ok c):
  AL AE 277 #[AI (I ⟨M.g,0,Z⟩)] w fun e w'=>(∃u,e=AN u)/\Cj w' c (c.adv m) M/\AT M.S w w':=by
 have y18:E w ⟨M.g,18,Z⟩=I (U O m.next.pass):=h.Cx 18;have y19:E w ⟨M.g,19,Z⟩=I (U O m.next.fr):=h.Cx 19;have Jr:E w ⟨M.g,20,Z⟩=I (U O m.next.BG):=h.Cx 20;have y21:E w ⟨M.g,21,Z⟩=I (Av m.opn):=h.Cx 21;have f18:=h.fr 18;have f19:=h.fr 19;have f20:=h.fr 20;have f21:=h.fr 21;have k1:Cj (Ai w ⟨M.g,18,Z⟩ (U O 0)) c {m with next:=⟨0,m.next.fr,m.next.BG⟩} M:=h.set 18 _ (m':={m with next:=⟨0,m.next.fr,m.next.BG⟩}) Q Q Q;have k2:=k1.set 19 (U O 0) (m':={m with next:=⟨0,0,m.next.BG⟩}) Q Q Q;have k3:=k2.set 20 (U O 0) (m':={m with next:=q0}) Q Q Q;have k4:=k3.set 21 (Av false) (m':={m with next:=q0,opn:=false}) Q Q Q;have p4:AT M.S w (Ai (Ai (Ai (Ai w ⟨M.g,18,Z⟩ (U O 0)) ⟨M.g,19,Z⟩ (U O 0)) ⟨M.g,20,Z⟩ (U O 0)) ⟨M.g,21,Z⟩ (Av false)):=(((AT.set (.inl Q)).trans (AT.set (.inl Q))).trans (AT.set (.inl Q))).trans (AT.set (.inl Q));have K4:=F k4;have P4:=F p4;have hat:=Cas.at_adv ok;have Hc:=F hc;clear k1 k2 k3 k4 p4 h ok hc;go_in;go_upto_region 1 with fail;obtain⟨w1,BJ⟩:=Az (Ai (Ai (Ai (Ai w ⟨M.g,18,Z⟩ (U O 0)) ⟨M.g,19,Z⟩ (U O 0)) ⟨M.g,20,Z⟩ (U O 0)) ⟨M.g,21,Z⟩ (Av false));have h1:=K4.out;have p1:=P4.out;rw[BJ]at h1 p1 ⊢;clear BJ K4 P4 y18 y19 Jr y21 f18 f19 f20 f21;have Nm:E w1 ⟨M.g,13,Z⟩=I (Av m.srch):=h1.Cx 13;obtain⟨m0,hm0⟩:∃m0:BP,{m with next:=q0,opn:=false}=m0:=⟨_,Q⟩
 have aK:Aj (c.adv m=c.run (c.mu (if m.srch then Fq.Gf else Fq.ask) m0) (if m.srch then Fq.Gf else Fq.ask) m0):=F (by rw[<-hm0];rfl);rw[hm0]at h1 hat;clear hm0;obtain⟨t0,ht0⟩:=Az ((if m.srch then Fq.Gf else Fq.ask));rw[ht0]at hat aK;go_upto_if 15 with fail;go_cut [2] (fun v wx=>v=VN M t0/\wx=w1)
 case first=>
  clear hat aK;cases hs:m.srch
  ·rw[hs]at ht0
   subst ht0;go_wp2;go_meet;exact⟨rfl,rfl⟩
  ·rw[hs]at ht0
   subst ht0;go_wp2;go_meet;exact⟨rfl,rfl⟩
 obtain⟨rfl,rfl⟩:=hcut;obtain⟨w2,rfl⟩:=qgn wc;clear Nm ht0;go_wp2_with fail;go_loopg [2] (c.mu t0 m0) (fun k v wr=>∃(t:Fq) (m2:BP),v=VN M t/\Cj wr c m2 M/\AT M.S w wr/\c.at t m2/\c.mu t m2<=k/\Aj (c.adv m=c.run k t m2));exact⟨t0,m0,rfl,h1,p1,hat,Bg _,aK⟩
 obtain⟨t,m2,rfl,hA,hO,SS,hmu,hR⟩:=hrel;obtain⟨w6,rfl⟩:=qgn wr;clear h1 p1 hat aK;have fs:=fun f g w=>Abw f g w
 have fn:=fun w=>Abx w
 cases t with
 | stop=>
  have hE:Aj (c.adv m=m2):=F (by rw[hR.out,c.Abv]);simp only[VN];go_wp2;go_end0;exact⟨⟨_,Q⟩,qrf hE.out hA,hO⟩
 | ask=>
  have cA:=Abh c m2 M w6 hA Hc SS;have BI:=c.aH Hc .ask m2 AC SS;obtain⟨j,hj,hrun⟩:=Cas.gK hmu (show Fq.ask≠ .stop by decide);have HR:=F (hR.out.trans hrun);have KE:=F BI;have Hmu:=F hmu;have Hj:=F hj;simp only[VN];clear hrun BI hmu hj hR;go_wp2_with fail;refine cA.mono ?_;rintro e w7⟨rfl,Qt,hO7⟩;clear cA;go_wp2_with fail;go_roundg j
  case measure=>have:=Hj.out;omega
  case rel=>exact⟨(c.NH m2).1,(c.NH m2).2,rfl,Qt,hO.trans hO7,KE.out.1,by have h1:c.mu (c.NH m2).1 (c.NH m2).2<c.mu .ask m2:=KE.out.2;have:=Hmu.out;have:=Hj.out;omega,HR⟩
 | search=>
  have cA:=Abn c m2 M w6 hA Hc SS;have BI:=c.aH Hc .search m2 AC SS;obtain⟨j,hj,hrun⟩:=Cas.gK hmu (show Fq.search≠ .stop by decide);have HR:=F (hR.out.trans hrun);have KE:=F BI;have Hmu:=F hmu;have Hj:=F hj;simp only[VN];clear hrun BI hmu hj hR;go_wp2_with fail;refine cA.mono ?_;rintro e w7⟨rfl,Qt,hO7⟩;clear cA;go_wp2_with fail;go_roundg j
  case measure=>have:=Hj.out;omega
  case rel=>exact⟨(c.NI m2).1,(c.NI m2).2,rfl,Qt,hO.trans hO7,KE.out.1,by have h1:c.mu (c.NI m2).1 (c.NI m2).2<c.mu .search m2:=KE.out.2;have:=Hmu.out;have:=Hj.out;omega,HR⟩
 | Gf=>
  have cA:=Abu c m2 M w6 hA Hc SS;have BI:=c.aH Hc .Gf m2 AC SS;obtain⟨j,hj,hrun⟩:=Cas.gK hmu (show Fq.Gf≠ .stop by decide);have HR:=F (hR.out.trans hrun);have KE:=F BI;have Hmu:=F hmu;have Hj:=F hj;simp only[VN];clear hrun BI hmu hj hR;go_wp2_with fail;refine cA.mono ?_;rintro e w7⟨rfl,Qt,hO7⟩;clear cA;go_wp2_with fail;go_roundg j
  case measure=>have:=Hj.out;omega
  case rel=>exact⟨(c.NJ m2).1,(c.NJ m2).2,rfl,Qt,hO.trans hO7,KE.out.1,by have h1:c.mu (c.NJ m2).1 (c.NJ m2).2<c.mu .Gf m2:=KE.out.2;have:=Hmu.out;have:=Hj.out;omega,HR⟩
def Aby:(prog.info? 251).map (fun i=>(i.zero,i.size,i.bytes))=I (I (Ba #[U O 0,U O 0,U O 0,Av false]),4,32):=AG
def YJ(g:Nat)(w:V)(h:E w ⟨g,0,Z⟩=I (Av true)):AL AE 150 #[AI (I ⟨g,0,Z⟩)] w fun e w'=>e=AN (Av true)/\w=w':=by
 go_in;go_wp2;go_ret;exact⟨Q,Q⟩
def Mem.T(M:Mem)(k:Nat):Prop:=k=M.g\/M.bv.ownBlock=I k\/k=M.mb\/M.tv.ownBlock=I k
def FX.Ik{S:Nat->Prop}{w w':V}{mb:Nat}{told:List (Ca × Bool)}(h:FX w mb told)(ho:AT S w w')(hm:¬S mb):FX w' mb told:=by
 obtain⟨D,hD⟩:=h;obtain⟨es,clock,Ez,r⟩:=hD.own;exact⟨D,⟨es,clock,ho.row Ez hm,r⟩,hD.has,hD.miss,hD.at_,hD.low,hD.nod⟩
def Cj.grow{w w':V}{c:Cas}{m:BP}{M:Mem}{x:Ca × Bool}{v':An}(hrow:w.heap[M.g]?=I (N (M.cs c m) 247 (0,0)))(h:Cj w c m M)(kn:FX w' M.mb (m.told++ [x]))
  (ho:AT M.T w w') (hrow':w'.heap[M.g]?=I (N (({M with tv:=v'}:Mem).cs c m) 247 (0,0))) (hb:Own w' 0 4 1 C4 M.bv m.b) (ht:Own w' 0 251 4 RF v' (m.told++ [x]))
  (hat:∀k,v'.ownBlock=I k->M.tv.ownBlock=I k\/w.heap.size<=k):Cj w' c {m with told:=m.told++ [x]} {M with tv:=v'}:=by
 have UM:∀k,M.T k->M.off k:=fun k hk=>by
  rcases hk with rfl | hk | rfl | hk
  ·exact h.og
  ·exact h.obv _ hk
  ·exact h.om
  ·exact h.otv _ hk
 have hr:=h.rows.keep ho UM;refine⟨hrow',⟨hr.hi,hr.ob,hr.kb,hr.oc,hr.kc,hr.ord,hr.blk⟩,hb,ht,kn,h.og,h.om,h.obv,fun k hk=>?_⟩;rcases hat k hk with h1 | h1
 ·exact h.otv k h1
 ·exact .inr (Br h.rows.hi h1)
def Abz(c:Cas)(m:BP)(M:Mem)(a:Bool)(w:V)(h:Cj w c m M)(hc:c.Ok)(hat:c.at .stop m)(ho:m.opn=true):
  AL AE 236 #[AI (I ⟨M.g,0,Z⟩),Av a] w fun e w'=>e=AN (U O 0)/\∃tv,Cj w' c (c.tell m a) {M with tv:=tv}/\AT M.T w w'/\(∀k,tv.ownBlock=I k->M.tv.ownBlock=I k\/w.heap.size<=k):=by
 obtain⟨hv,hlk⟩:=hat.2 ho;have VP:=c.Xb hc hv;have pE:=BP.Ok.more hat ho a;have AbA:=hat.1.few;have hP:=hc.P;have hn:=hc.n
 have pF:Y m.told<=2000000:=by
  have h1:(c.n+1)*(c.n+1)<=513*513:=Nd J J;have h2:=Nd hP.2 h1;omega
 have x0:E w ⟨M.g,0,Z⟩=I (Av true):=h.Cx 0;have x21:E w ⟨M.g,21,Z⟩=I (Av true):=qrb ho (h.Cx 21);have cV:=YJ M.g w x0;have x7:E w ⟨M.g,7,Z⟩=I (.map (I M.mb)):=h.Cx 7;have x18:E w ⟨M.g,18,Z⟩=I (U O m.next.pass):=h.Cx 18;have Mb:E w ⟨M.g,19,Z⟩=I (U O m.next.fr):=h.Cx 19;have Nr:E w ⟨M.g,20,Z⟩=I (U O m.next.BG):=h.Cx 20;obtain⟨w2,hrun,PK,hgr⟩:=(h.on (Ae _ _).drew).kn.more VP (gw.1 hlk) (by unfold maxLen;omega) a;unfold qv at hrun;have Hc:=F hc;have AbB:=F pE;have AbC:=F pF;have Hgr:=F hgr;have Hkn:=F PK;clear hat hc pE AbA hP hn pF hlk hv VP hgr PK;go_in;go_upto_region 5 with(go_at_call 150;refine mqv (cV) ?_)
 go_still_tail 9,AG;change wpList _ _ _ _ _ w.drew;go_upto_region 6 with fail;have hA0:=h.on (Ae _ _).drew;have gr:=Hgr.out;have o2:AT M.T w w2:=(AT.of (Ae _ _).drew).trans (AT.grown gr (fun g hg=>by cases hg;exact .inl (.inr (.inr (.inl Q)))));have JS:=(gr.block M.g (Bm.1 hA0.row).1 (by simpa using fun e=>h.nm e.symm)).trans hA0.row
 have tv2:=Own.keep (w:=w.drew) hA0.tv gr (by
  cases hk:M.tv.ownBlock with
  | none=>exact .inl Q
  | some k=>exact .inr (qsu ((h.nt hk).2)))
 have bv2:=Own.keep (w:=w.drew) hA0.b gr (by
  cases hk:M.bv.ownBlock with
  | none=>exact .inl Q
  | some k=>exact .inr (qsu ((h.nb hk).2.1)))
 have lg2:=(Bm.1 JS).1;obtain⟨A8,c8,ST,l8,m8,n8,ar8⟩:=tv2.form YC;have y8:E w2 ⟨M.g,8,Z⟩=I (R A8 (Y m.told) c8):=by rw[<-ST];exact AX _ _ _ _ _ _ JS
 have y18:E w2 ⟨M.g,18,Z⟩=I (U O m.next.pass):=AX _ _ _ _ _ _ JS;have y19:E w2 ⟨M.g,19,Z⟩=I (U O m.next.fr):=AX _ _ _ _ _ _ JS;have Jr:E w2 ⟨M.g,20,Z⟩=I (U O m.next.BG):=AX _ _ _ _ _ _ JS;have H:=F h;have pG:=F JS;have Tv2:=F tv2;have Bv2:=F bv2;have Htv:=F ST;have O2:=F o2;clear h hA0 gr JS tv2 bv2 ST o2 cV x0 x21 x7 x18 Mb Nr hrun ar8 l8 m8 n8;go_cut [] (fun wx=>∃v',Cj wx c {m with told:=m.told++ [(m.next,a)]} {M with tv:=v'}/\AT M.T w wx/\∀k,v'.ownBlock=I k->M.tv.ownBlock=I k\/w.heap.size<=k)
 case first=>
  have W3:Ag w2 w2 (Ao w2 (N #[U O m.next.pass,U O m.next.fr,U O m.next.BG,Av a] 251)).drew:=(AB (Ae _ _) _).drew;have Xd:=F ((W3.block M.g lg2).trans pG.out);have Tv3:=F (Own.below (Htv.out▸Tv2.out) W3)
  have Nw3:Aj (∀j u,(RF (m.next,a))[j]?=I u->E (Ao w2 (N #[U O m.next.pass,U O m.next.fr,U O m.next.BG,Av a] 251)).drew ⟨w2,j,Z⟩=I u):=F (fun j u hu=>by
   have hcs:(#[Value.int .i64 (m.next.pass:Int),U O m.next.fr,U O m.next.BG,Av a]:Array An).toList=RF (m.next,a):=Q;exact Cb (w:=w2) (by rw[<-hu,<-hcs];simp))
  have Ng:Aj (I M.g≠(Value.slice A8 (Y m.told) c8).ownBlock):=F (fun e=>by
   have h1:M.tv.ownBlock=I M.g:=by rw[Htv.out,<-e]
   exact(H.out.nt h1).1 Q)
  have Fin:Aj (∀v10 Bs,Own Bs 0 251 4 RF v10 (m.told++ [(m.next,a)])->(Ao w2 (N #[U O m.next.pass,U O m.next.fr,U O m.next.BG,Av a] 251)).drew.grownBy Bs (Value.slice A8 (Y m.told) c8).ownBlock->At (Ao w2 (N #[U O m.next.pass,U O m.next.fr,U O m.next.BG,Av a] 251)).drew (Value.slice A8 (Y m.told) c8) v10->Bs.heap[M.g]?=I (N (M.cs c m) 247 (0,0))->
    Cj (Bs.setCell ⟨M.g,8,Z⟩ v10) c {m with told:=m.told++ [(m.next,a)]} {M with tv:=v10}/\AT M.T w (Bs.setCell ⟨M.g,8,Z⟩ v10)/\∀k,v10.ownBlock=I k->M.tv.ownBlock=I k\/w.heap.size<=k):=F (fun v10 Bs DX FI Ln Fr=>by
   have q:AT (fun k=>k=M.g\/M.tv.ownBlock=I k) w2 (Bs.setCell ⟨M.g,8,Z⟩ v10):=((AT.of W3).trans (AT.grown FI (fun g hg=> .inl (.inr (qrf Htv.out hg))))).trans (AT.set (.inl Q));have oo:=O2.out.trans (q.mono (fun k _ hk=>hk.elim .inl (fun h=> .inr (.inr (.inr h)))))
   have hat:∀k,v10.ownBlock=I k->M.tv.ownBlock=I k\/w.heap.size<=k:=fun k hk=>by
    rcases Ln with h1 | ⟨X,h1,h2⟩
    ·left;rw[Htv.out,<-h1];exact hk
    ·right
     rw[h1]at hk;obtain rfl:=Option.some.inj hk;exact Br O2.out.size (Br W3.size h2)
   have nv:v10.ownBlock=Z\/v10.ownBlock≠I M.g:=by
    right
    intro e;obtain⟨cs,hr⟩:=Qr DX e;rw[Fr]at hr;simp at hr
   refine⟨Cj.grow H.out.row H (Hkn.out.Ik q (fun e=>e.elim (fun e=>H.out.nm e) (fun e=>(H.out.nt e).2 Q))) oo ?_ (q.own Bv2 (fun k hk e=>e.elim (fun e=>(H.out.nb hk).1 e) (fun e=>(H.out.nb hk).2.2 e))) ?_ hat,oo,hat⟩
   ·exact CM Bs M.g 8 _ _ v10 Fr
   ·refine Own.keep DX (row:=I M.g) ⟨(Ae 0 Bs |>.setCell (BM _) v10).os,(Ae 0 Bs |>.setCell (BM _) v10).tape,(Ae 0 Bs |>.setCell (BM _) v10).output,(Ae 0 Bs |>.setCell (BM _) v10).size,fun j _ hn=>Fd Bs _ _ j (qsu hn)⟩ nv)
  have HS3:=F (show(Ao w2 (N #[U O m.next.pass,U O m.next.fr,U O m.next.BG,Av a] 251)).drew.cell? ⟨M.g,18,Z⟩=I (U O m.next.pass)/\E (Ao w2 (N #[U O m.next.pass,U O m.next.fr,U O m.next.BG,Av a] 251)).drew ⟨M.g,19,Z⟩=I (U O m.next.fr)/\E (Ao w2 (N #[U O m.next.pass,U O m.next.fr,U O m.next.BG,Av a] 251)).drew ⟨M.g,20,Z⟩=I (U O m.next.BG)from⟨AX _ _ _ _ _ _ Xd,AX _ _ _ _ _ _ Xd,AX _ _ _ _ _ _ Xd⟩);clear W3;refine Fz (S:=fun w'=>E w' ⟨M.g,18,Z⟩=I (U O m.next.pass)/\E w' ⟨M.g,19,Z⟩=I (U O m.next.fr)/\E w' ⟨M.g,20,Z⟩=I (U O m.next.BG)) AG ⟨y18,y19,Jr⟩ (fun hHeld=>?_);refine tQ4 0 ?_;refine tQ4 5 ?_;refine tQ2 9 ?_;refine I8 [4,11] ?_;refine Dj Q (fun K1 BS=>?_) (Dj Q (fun K1 BS=>?_) GQ)
  focus
   go_simp
   refine BS.out _ _ hHeld (fun _=>?_);refine zp ?_;refine url 11 (fun K2 hK2=>?_)
  rotate_left
  focus
   go_simp
   refine BS.out _ _ (HS3.out) (fun _=>?_);refine zp ?_;refine url 4 (fun K2 hK2=>?_)
  rotate_left
  all_goals
   go_simp;refine hK2.out _ _ (HS3.out) (fun _=>?_);refine zp ?_;refine url 12 (fun K3 hK3=>?_);refine UL (enc:=RF) Tryz.underlying243 Aby m.told (m.next,a) Tv3 Nw3 (by simp[RF,Value.oneCell']) (by have:=AbC.out;omega) (BM _) ?_;intro v10 Bs DX FI Ln;have Fr:=(FI.block M.g (Bm.1 Xd).1 (Ng.out)).trans Xd.out;refine hK3.out _ _ ⟨AX _ _ _ _ _ _ Fr,AX _ _ _ _ _ _ Fr,AX _ _ _ _ _ _ Fr⟩ (fun _=>?_);refine zp ?_;refine tQ2 13 ?_;obtain⟨DM,c10,OO,_,_,_,_⟩:=DX.form YC;have y10:E Bs ⟨M.g,8,Z⟩=I M.tv:=AX _ _ _ _ _ _ Fr;have f10:=CJ Bs M.g 8 _ _ Fr;have fin:=Fin.out v10 Bs DX FI Ln Fr;have RL:=F fin;obtain⟨n10,UO⟩:=Az ((m.told++ [(m.next,a)]).length);rw[UO]at OO;subst OO;clear fin DX Ln UO;have gL:=CM Bs M.g 8 _ _ (R DM n10 c10) Fr;refine url 15 (fun K4 hK4=>?_);go_simp;refine hK4.out _ _ ⟨AX _ _ _ _ _ _ gL,AX _ _ _ _ _ _ gL,AX _ _ _ _ _ _ gL⟩ (fun _=>?_);refine zp ?_;refine Ce ?_;go_wp2;go_meet;exact⟨_,RL.out⟩
 obtain⟨tv,GI,hOc,hTc⟩:=hcut;have cA:=pC c {m with told:=m.told++ [(m.next,a)]} {M with tv:=tv} wc GI Hc AbB;clear y8 y18 y19 Jr lg2 Bv2 Tv2 pG O2;go_wp2_with fail;refine cA.mono ?_;rintro e w9⟨⟨u,rfl⟩,hA9,hO9⟩;clear cA;go_wp2;go_ret;exact⟨Q,tv,hA9,hOc.trans (hO9.mono (fun k _ hk=>hk.elim .inl (fun h=> .inr (.inl h)))),hTc⟩
end Go.Proofs.YtjpidgffdkjjeaaGreat
