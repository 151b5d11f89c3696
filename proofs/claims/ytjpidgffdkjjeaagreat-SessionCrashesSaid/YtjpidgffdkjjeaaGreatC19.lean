/- Contracts and plain laws. No condition. -/
import Derived.Laws.Bits64b
import Derived.Test.YtjpidgffdkjjeaaGreatCA
import Derived.Test.YtjpidgffdkjjeaaGreatC09
import Derived.Test.YtjpidgffdkjjeaaGreatC15
import Derived.Test.YtjpidgffdkjjeaaGreatC16
set_option linter.all false
set_option maxHeartbeats 16000000
namespace Go.Proofs.YtjpidgffdkjjeaaGreat
open Go.Proofs.Tryz
open Go.Proofs.Tryz renaming prog->AE
open List renaming length->Y
open Go.World renaming cell?->E,setCell->Ai,alloc->Ao,frozen?->Bo
open Go.Value renaming int->U,slice->R,pointer->AI,agg->Ba,tuple->Be,nilFunc->Bl,bool->Av
open Go.IntKind renaming i64->O,u64->AA,u32->BF,u8->Cd
open Option renaming none->Z,some->I
open Go.Ending renaming returned->AN
open Go.Obj renaming cells->N
open Go renaming World->V,Value->An,Calls->AL,Addr->AS
open Go.RowKit renaming Below->Ag,Hid->Aj
set_option maxRecDepth 100000
open Go.RowKit Go.Maps
def V5(seed last:Nat):Nat:=(seed+last)%18446744073709551616
def RZ(seed last:Nat):Nat:=C9 (V5 seed last)
def Ph(seed last:Nat):Nat:=C9 (Bk (V5 seed last))
def MM(seed last W:Nat):Nat:=C9 (Bk (Bk (V5 seed last)))%2^W
def TR(seed last:Nat):Nat:=C9 (Bk (Bk (Bk (V5 seed last))))
structure AV where
 s:BX
 side:Int
 W:Nat
 bits:List Bool
abbrev Jz:=Option (Bb × List Lt)
def EM(b:Bool):Int:=if b=true then 1 else 0
def AV.send(z:AV)(a:Bb)(kind:Int)(ws:List Int):Bb × List Lt:=a.send z.side z.W z.bits kind ws
def AV.stop(z:AV)(a:Bb)(r:Int):Bb × List Lt:=a.stop z.side z.W z.bits r
def AV.Pi(z:AV)(a:Bb):Cas:=⟨z.s.passes.toNat,z.s.pblk.toNat,(z.s.pseed+Ph z.s.seed a.last.toNat)%18446744073709551616,Y a.block⟩
def AV.NW(z:AV)(a:Bb):List Int:=NM (RZ z.s.seed a.last.toNat) z.s.block z.s.sample
def AV.MN(z:AV)(a:Bb):List Int:=rsL (RZ z.s.seed a.last.toNat) z.s.block z.s.sample
def DN(b:List Bool)(l:List Int):List Bool:=l.map fun i=>b.getD i.toNat false
def Gx(n:Int):AQ:=⟨n / 2%2,n%2 == 1,2,0,decide (n<4)⟩
def KS(n:Int):CK:=⟨n / 2,n%2⟩
def KT(h:CK):Int:=2*h.slot+h.basis
def AV.Pj(z:AV)(a:Bb)(ws:List Int):Jz:=
 if¬((Y ws:Int)=z.s.head/\ws.all (fun n=>decide (n<=7))=true)then Z
 else if(KK (ws.map Gx) a.clicks z.s.need).2≠0 then I (z.stop a 17)
 else I (z.send {a with shift:=(KK (ws.map Gx) a.clicks z.s.need).1,wait:=[3]} 2 ((MK a.clicks (KK (ws.map Gx) a.clicks z.s.need).1 z.s.head z.s.slots).map KT))
def NX(z:AV)(a:Bb)(i:Int):Bool:=z.s.o.k == 1&&Jw a.pulses i != 2
def Wg(a:Bb)(i:Int):Int:=2*i+EM (Jw a.pulses i == 1)
def AV.TS(z:AV)(a:Bb)(ws:List Int):Jz:=
 if KO a.pulses (ws.map KS) z.s.head≠0 then Z
 else
  let kept:=KP a.pulses (ws.map KS) z.s.head
  let sig:=LC a.pulses kept 2
  if(Y sig:Int)<z.s.block then I (z.stop a 14)
  else
   let dec:=kept.filter (NX z a)
   I (z.send {a with kept:=kept,slots:=sig.take z.s.block.toNat,decoys:=dec,wait:=[4]} 3 (sig.take z.s.block.toNat++ dec.map (Wg a)))
def AV.T9(z:AV)(a:Bb)(ws:List Int):Jz:=
 if¬((Y ws:Int)=z.s.block\/(z.s.block<Y ws/\z.s.o.k=1))then Z
 else if MJ a.clicks a.shift (ws.take z.s.block.toNat)≠0 then Z
 else if MJ a.clicks a.shift ((ws.drop z.s.block.toNat).map (· / 2))≠0 then Z
 else I (z.send {a with block:=DN (Iq a.clicks a.shift (ws.take z.s.block.toNat)) (z.MN a),wait:=[5]} 4
  ((DN (Iq a.clicks a.shift (ws.take z.s.block.toNat)) (z.NW a)++ Iq a.clicks a.shift ((ws.drop z.s.block.toNat).map (· / 2))).map EM))
def V6(l:List Bool)(ws:List Int):Nat:=((l.zip ws).filter fun p=>EM p.1 != p.2).length
def Xr(kept decoys shown:List Int)(all:List Bool):List Bool:=
 (kept.zip all).map fun p=>if decoys.contains p.1=true then shown.getD (decoys.idxOf p.1) 0 == 1 else p.2
def YX(l:List Int):Gn:=⟨l.getD 0 0,l.getD 1 0,l.getD 2 0,l.getD 3 0,l.getD 4 0,l.getD 5 0,l.getD 6 0,l.getD 7 0,l.getD 8 0⟩
def AV.LF(z:AV)(a:Bb)(shown:List Int)(n:Int):Int × Int:=
 let all:=Xr a.kept a.decoys shown (KQ a.pulses a.kept)
 if Gw a.pulses a.kept all z.s.head≠0 then(0,Gw a.pulses a.kept all z.s.head)else((Pf z.s.o (YX (GL a.pulses a.kept all z.s.head)) n:Nat),RQ z.s.o (YX (GL a.pulses a.kept all z.s.head)) n)
def V7(t s n:Int)(f:BA):Int:=if Ic t s n f=0 then IE t s n f-n else 0
def AV.QB(z:AV)(a:Bb)(ws:List Int):Jz:=
 if¬((Y ws:Int)=z.s.sample+Y a.decoys/\ws.all (fun n=>decide (n<=1))=true)then Z
 else
  let mine:=KQ a.pulses a.slots
  let seen:=V6 (DN mine (z.NW a)) ws
  let rest:=DN mine (z.MN a)
  if Rb z.s.sample seen z.s.lim≠0 then I (z.stop a 18)
  else
   let a1:Bb:={a with t:=V7 z.s.block z.s.sample seen z.s.eps,n:=Y rest,block:=rest}
   if z.s.o.k=1 then
    if(z.LF a1 (ws.drop z.s.sample.toNat) (Y rest)).2≠0 then I (z.stop a1 9)
    else I (z.send {a1 with n:=(z.LF a1 (ws.drop z.s.sample.toNat) (Y rest)).1,wait:=[6,8]} 5 [(z.LF a1 (ws.drop z.s.sample.toNat) (Y rest)).1,a1.t])
   else I (z.send {a1 with wait:=[6,8]} 5 [a1.n,a1.t])
def Bb.enter(a:Bb)(k b:Int):Bb:=if(Fk a.ledger k b).e=0 then{a with ledger:=(Fk a.ledger k b).l}else a
def AV.FY(z:AV)(a:Bb):Jz:=
 match a.course with
 | none=>Z
 | some (_,m)=>
  if m.failed=true then I (z.stop a 22)
  else if m.opn=true then I (z.send {a with wait:=[7]} 6 [(m.next.pass:Int),m.next.fr,m.next.BG])
  else
   let d:=JV z.s.width (MM z.s.seed a.last.toNat z.W) m.b
   I (z.send {({a with block:=m.b}:Bb).enter 3 z.s.width with wait:=[9]} 8 [((d / 65536:Nat):Int),((d%65536:Nat):Int)])
def AV.QC(z:AV)(a:Bb)(ws:List Int):Jz:=
 match ws with
 | [n,t]=>if n<=Y a.block/\t<=Y a.block then z.FY {a with n:=n,t:=t,course:=I (z.Pi a,(z.Pi a).new a.block)}else Z
 | _=>Z
def AV.Ta(z:AV)(a:Bb)(ws:List Int):Jz:=
 match ws with
 | [p,f,t]=>if p<z.s.passes/\f<t/\t<=Y a.block then I (z.send (a.enter 1 1) 7 [EM (par a.block ((z.Pi a).part ⟨p.toNat,f.toNat,t.toNat⟩))])else Z
 | _=>Z
def Bb.tell(a:Bb)(b:Bool):Bb:=
 match a.course with
 | none=>a
 | some (c,m)=>{a with course:=I (c,c.tell m b)}
def AV.Sa(z:AV)(a:Bb)(ws:List Int):Jz:=
 match ws with
 | [b]=>if b<=1 then z.FY ((a.enter 1 1).tell (b == 1))else Z
 | _=>Z
def AV.TV(z:AV)(a:Bb):Int:=Pg a.block a.n a.t a.ledger z.s.margin
def AV.IS(z:AV)(a:Bb):Bb:={a with has:=true,recs:=a.recs++ [⟨a.last,a.block,a.n,a.t,a.ledger,MC a.block a.n a.t a.ledger z.s.margin (TR z.s.seed a.last.toNat)⟩]}
def AV.Sb(z:AV)(a:Bb)(ws:List Int):Jz:=
 match ws with
 | [p,q]=>
  let a1:=a.enter 3 z.s.width
  if cfE z.s.width (MM z.s.seed a.last.toNat z.W) a.block (p*65536+q).toNat≠0 then I (z.stop a1 22)
  else if z.TV a1≠0 then I (z.stop a1 14)
  else I (z.send {z.IS a1 with wait:=[10]} 9 [])
 | _=>Z
def AV.Sc(z:AV)(a:Bb)(ws:List Int):Jz:=
 if ws≠[]then Z
 else if z.TV a≠0 then I (z.stop a 14)
 else I (z.send {z.IS a with ph:=2} 10 [])
def AV.Tb(a:Bb)(ws:List Int):Jz:=if ws≠[]then Z else I ({a with ph:=2},[])
def AV.Tc(a:Bb)(ws:List Int):Jz:=
 match ws with
 | [r]=>if 1<=r/\r<=22 then I (if a.has=true then({a with ph:=2},[])else({a with ph:=3,rs:=r},[]))else Z
 | _=>Z
def AV.V8(z:AV)(kind:Int)(a:Bb)(ws:List Int):Jz:=
 if kind=1 then z.Pj a ws else if kind=2 then z.TS a ws else if kind=3 then z.T9 a ws else if kind=4 then z.QB a ws else if kind=5 then z.QC a ws else if kind=6 then z.Ta a ws
 else if kind=7 then z.Sa a ws else if kind=8 then z.Sb a ws else if kind=9 then z.Sc a ws else if kind=10 then AV.Tb a ws else AV.Tc a ws
def AV.Td(z:AV)(kind:Int)(a:Bb)(ws:List Int):Bb × List Lt:=(z.V8 kind a ws).getD (z.stop a 6)
section
variable{a b f s t:Int}{c:List Bf}{l:List Int}{p:List AQ}
theorem ra{α:Type}{slot fault:α->Int}{l:List α}(h:NT slot fault a b l=0):(l.map slot).Pairwise (· < ·):=by
 have step:∀k,∀x y,l[k+1]?=I x->l[k]?=I y->slot y<slot x:=fun k x y hx hy=>qH h hx hy
 clear h
 induction l with
 | nil=>simp
 | cons z l ih=>
  have ih2:=ih (fun k x y hx hy=>step (k+1) x y (by grind) (by grind));rw[List.map_cons,UG];refine⟨?_,ih2⟩;cases l with
  | nil=>simp
  | cons y l=>
   have h1:=step 0 y z AO AO;intro v hv;rw[List.map_cons,List.mem_cons]at hv;rcases hv with rfl | hv
   ·exact h1
   ·rw[List.map_cons,UG]at ih2
    grind
def YY(h:Cz l a b=0){x:Int}(hx:x∈l):a<=x/\x<=b:=by
 obtain⟨k,hk⟩:=List.mem_iff_getElem?.1 hx;exact UZ h hk
theorem bF(h:Cz l a b=0):l.Pairwise (· < ·):=by
 have h1:=ra h
 grind [Cz,Ip]
theorem slots_of(h:l.Pairwise (· < ·))(hr:∀x∈l,a<=x/\x<=b):Cz l a b=0:=by
 have Gp:∀k,Hu Ip bC a b l k=0:=fun k=>by
  cases hx:l[k]? with
  | none=>simp[Hu,hx]
  | some x=>
   have hb:AR (Ip x) a b=true:=by
    grind [AR,Ip]
   cases k with
   | zero=>exact at_first hx hb Q
   | succ k=>
    have hk:=(EF.1 hx).1;have hy:l[k]?=I (l[k]'(by omega)):=CH J;refine at_ok hx hy hb Q ?_
    have h2:=List.pairwise_iff_getElem.1 h k (k+1) J hk J
    grind [Ip,AR]
 have all:∀k,HU Ip bC a b l k=0:=fun k=>by
  induction k with
  | zero=>rfl
  | succ k ih=>grind [YT]
 exact all _
def Ad3{l:List CK}(h:NU l a b=0){x:CK}(hx:x∈l):a<=x.slot/\x.slot<=b:=by
 obtain⟨k,hk⟩:=List.mem_iff_getElem?.1 hx;exact UZ h hk
def bG(p:List AQ)(h:CK):Bool:=match p[h.slot.toNat]? with
 | none=>false
 | some x=>decide (x.seen=true/\x.basis=h.basis)
theorem rc(p:List AQ)(l:List CK):∀k,KM p l k=((l.take k).filter (bG p)).map CK.slot
 | 0=>by simp[KM]
 | k+1=>by
  rw[KM,rc p l k];unfold Xm;cases h:l[k]? with
  | none=>
   have h1:Y l<=k:=by grind
   rw[EG h1,EG J];simp
  | some x=>
   rw[N8 h,List.filter_append,SQ]
   congr 1
   unfold bG
   grind
theorem iy{l:List CK}(h:KO p l f=0):KP p l f=(l.filter (bG p)).map CK.slot/\NU l f (Y p-1)=0/\Bz AQ.ok p=0:=by
 grind [KP,bG,NU,Bz,AQ.ok,KO,rc]
theorem re{l:List CK}(hf:0<=f)(h:KO p l f=0):Cz (KP p l f) 0 (Y p-1)=0:=by
 obtain⟨h1,h2,h3⟩:=iy h;rw[h1];refine slots_of ?_ ?_
 ·have:=ra h2
  grind
 ·intro x hx
  obtain⟨y,hy,rfl⟩:=Ld.1 hx;have:=Ad3 h2 (List.mem_filter.1 hy).1;omega
def Ad4{m:List Int}(h:Cz l a b=0)(hs:m.Sublist l):Cz m a b=0:=
 slots_of ((bF h).sublist hs) (fun x hx=>YY h (hs.subset hx))
theorem rg{c:Int}(h0:Bz AQ.ok p=0)(hc:0<=c/\c<=2)(h:Cz l 0 (Y p-1)=0):LC p l c=l.filter fun s=>decide (Jw p s=c):=by
 have e:MI p l c=0:=by
  unfold MI
  grind [Bz,AQ.ok,AR,Cz]
 unfold LC
 grind [MI,MH,Jw,Bz,AQ.ok,Cz]
theorem Ad5(p:List AQ)(l:List Int)(c:Int):(LC p l c).Sublist l:=by
 unfold LC;split
 all_goals simp_all [MH,MI]
theorem ri(h0:Bz AQ.ok p=0)(h:Cz l 0 (Y p-1)=0):RW p l=0:=by
 grind [RW,Bz,AQ.ok,Cz]
theorem rj{c:List Bf}{s f t:Int}:∀{n:Nat} {h:CK},h∈Ir c s f t n->f<=h.slot/\h.slot<t/\∃q∈c,h.basis=q.basis
 | 0,h,hh=>by grind [Ir]
 | n+1,h,hh=>by
  rw[Ir,OV]at hh;rcases hh with hh | hh
  ·exact rj hh
  ·unfold Wc at hh
   grind [Xn]
theorem rk(hf:0<=f)(ht:t<=4096){h:CK}(hh:h∈MK c s f t):0<=h.slot/\h.slot<=4096/\0<=h.basis/\h.basis<=1:=by
 unfold MK at hh;split at hh
 ·simp at hh
 ·rename_i hn
  have h0:Bz Bf.ok c=0:=by
   omega
  obtain⟨h1,h2,q,hq,h3⟩:=rj hh
  have BI:c.all Bf.ok=true:=by
   grind [Bf.ok,Bz,V3,Ir]
  have h4:=EA.1 BI q hq;simp[Bf.ok,AR]at h4;omega
theorem rt(hf:0<=f)(ht:t<=4096):((MK c s f t).map KT).all okW=true:=by
 rw[EA];intro y hy;obtain⟨h,hh,rfl⟩:=Ld.1 hy;have h1:=rk hf ht hh;have h5:0<=KT h/\KT h<=65535:=by unfold KT;omega
 unfold okW AR
 grind
theorem ru:(MK c s f t).length<=Y c:=by
 grind [MK,iw]
end
section
variable{W b i mb nb:Nat}{bits:List Bool}{w:V}{x:BR}{τ:Nat->Nat}
def FM(w:V):AL AE 220 #[Av true] w fun e w'=>e=AN (Be #[])/\w=w':=by
 go_in;go_wp2;go_end0;exact⟨Q,Q⟩
def rz(e:Ending):Prop:=∃u v,e=.panicked [{v:= .iface u v,recovered:=false}]
def IT(w:V):AL AE 220 #[Av false] w fun e w'=>rz e/\Ag w w w':=by
 go_in;go_wp2_with fail;exact⟨Q,⟨_,_,Q⟩,Ae _ _⟩
def bI(b:Bool)(w:V):AL AE 224 #[Av b] w fun e w'=>e=AN (U O (EM b))/\w=w':=by
 cases b
 all_goals(
  go_in;go_wp2;go_ret;exact⟨Q,Q⟩)
def Bx.JA{a:Bb}(h:Bx τ w i b x W nb mb bits a)(j:Nat)(v:An):Frm τ τ w (Ai w ⟨b,j,Z⟩ v) i:=
 Frm.Ik (AT.set (S:=fun k=>k=b) Q) (fun k _ e=>by rw[e];exact h.tb)
def DA(τ:Nat->Nat)(w:V)(i b W nb mb:Nat)(bits:List Bool)(x:BR)(r:Bb × List Lt)(e:Ending)(w':V):Prop:=
 ∃τ' x' v',e=AN v'/\Frm τ τ' w w' i/\BU τ' w'/\Bx τ' w' i b x' W nb mb bits r.1/\Ju τ' w' v' r.2/\Fix x x'
def QD(τ:Nat->Nat)(w:V)(i b W nb mb:Nat)(bits:List Bool)(x:BR)(r:Jz)(e:Ending)(w':V):Prop:=
 (r=Z/\rz e/\Ag w w w')\/∃p,r=I p/\DA τ w i b W nb mb bits x p e w'
def DA.fin{w1 w2:V}{x1 x2:BR}{r:Bb × List Lt}{v:An}(fr:BU τ w)(f0:Frm τ τ w w1 i)(fx0:Fix x x1)(hf:Frm τ τ w1 w2 i)(hs:Bx τ w2 i b x2 W nb mb bits r.1)(hO:Ju τ w2 v r.2)(fx:Fix x1 x2):DA τ w i b W nb mb bits x r (AN v) w2:=
 ⟨τ,x2,v,rfl,f0.trans hf,fr.on (Br f0.out.size hf.out.size),hs,hO,⟨fx.s.trans fx0.s,fx.side.trans fx0.side,fx.pool.trans fx0.pool⟩⟩
def Fix.refl(x:BR):Fix x x:=⟨Q,Q,Q⟩
structure Gi(s:BX)(W:Nat):Prop where
 ok:TG s=true
 wd:s.width=W
 sd:s.seed<18446744073709551616
 pd:s.pseed<18446744073709551616
def BR.z(x:BR)(W:Nat)(bits:List Bool):AV:=⟨x.s,x.side,W,bits⟩
structure Ad6(s:BX):Prop where
 slots:1<=s.slots/\s.slots<=4000
 head:0<=s.head/\s.head<=s.slots
 need:0<=s.need/\s.need<=4096
 block:1<=s.block/\s.block<=512
 sample:0<=s.sample/\s.sample<s.block
 passes:1<=s.passes/\s.passes<=6
 pblk:1<=s.pblk/\s.pblk<=512
 margin:0<=s.margin/\s.margin<=512
 tries:1<=s.tries/\s.tries<=100
 lim:Cq [s.lim]=0
 eps:Cq [s.eps]=0/\AF s.eps.l<AF s.eps.m
 light:FG s.o=0/\(s.o.k=1->Ks s.o=0)
theorem Gi.n{s:BX}(h:Gi s W):Ad6 s:=by
 have h1:=h.ok;simp only[TG,Rg,TD,TF,Uv,Uu,AR,Bool.and_eq_true,Bool.or_eq_true,decide_eq_true_eq,beq_iff_eq,bne_iff_ne,ne_eq]at h1;obtain⟨⟨a1,a2⟩,⟨b1,b2,b3,b4,b5⟩,⟨⟨c1,c2⟩,c3,c4,c5⟩,d1,d2,d3⟩:=h1;exact⟨b1,b2,b3,b4,J,c1,c2,c4,c5,d1,⟨d2,d3⟩,a1,fun e=>J⟩
section
variable {τ:Nat→Nat} {w:V} {i b W nb mb:Nat} {x:BR} {bits:List Bool} {a:Bb}
def bJ(h:Bx τ w i b x W nb mb bits a)(hi:i≠0)(fr:BU τ w)(hlen:Y a.ledger<=1000)(k n:Int):AL AE 235 #[AI (I ⟨b,0,Z⟩),U O k,U O n] w fun e w'=>
  e=AN (Be #[])/\∃x',Frm τ τ w w' i/\Bx τ w' i b x' W nb mb bits (a.enter k n)/\Fix x x':=by
 obtain⟨A,c,hv,l1,m1,n1,ar,tg⟩:=h.li.ledger;have x47:E w ⟨b,47,Z⟩=I (R A (Y a.ledger) c):=qrb hv (h.row.c 47);have cE:=yH A c a.ledger k n w ar (Br hlen AC) n1;have hE:Aj (a.enter k n=if(Fk a.ledger k n).e=0 then{a with ledger:=(Fk a.ledger k n).l}else a):=F Q;generalize Fk a.ledger k n=AM at*;go_in;by_cases h0:AM.e=0
 ·rw[h0]at cE
  have Gs:Aj (a.enter k n={a with ledger:=AM.l}):=F (by rw[hE.out,Bd h0]);go_wp2_with fail;refine cE.mono ?_;rintro e w2⟨v,rfl,ow,hb2⟩;have im:=ow.imm C8.BY (fun k hk=>fr k hk);obtain⟨A2,c2,rfl,l2,m2,n2,Nv⟩:=ow.form C8.BY;have h2:=h.on hb2;have y47:=AK hb2 x47;have f47:=h2.row.fr 47
  have h3:=h2.cell hi 47 (R A2 (Y AM.l) c2) (x':={x with k:={x.k with ledger:= R A2 (Y AM.l) c2}}) (a':={a with ledger:=AM.l}) Q Q Q Q ⟨h.num.last,h.num.ph,h.num.rs,h.num.wt,h.num.sh,h.num.n,h.num.t,h.num.has⟩
   ⟨h2.li.pulses,h2.li.clicks,h2.li.wait,h2.li.sent,h2.li.took,im,h2.li.kept,h2.li.slots,h2.li.decoys,h2.li.block⟩ Q Q Q Q
  have ho:AT (fun k=>k=b) w2 (Ai w2 ⟨b,47,Z⟩ (R A2 (Y AM.l) c2)):=AT.set (S:=fun k=>k=b) Q;have f3:Frm τ τ w (Ai w2 ⟨b,47,Z⟩ (R A2 (Y AM.l) c2)) i:=(Frm.of hb2).trans (Frm.Ik ho (fun k _ e=>by rw[e];exact h.tb));go_wp2;go_end0;rw[Gs.out];exact⟨Q,_,f3,h3,⟨Q,Q,Q⟩⟩
 ·have g0:(AM.e == 0)=false:=qsu h0
  have Gs:Aj (a.enter k n=a):=F (by rw[hE.out,AU h0]);go_wp2_with fail;refine cE.mono ?_;rintro e w2⟨v,rfl,ow,hb2⟩;go_wp2;go_end0;rw[Gs.out];exact⟨Q,x,Frm.of hb2,h.on hb2,⟨Q,Q,Q⟩⟩
end
end
structure Pk(W:Nat)(l:Lt):Prop where
 ses:1<=l.ses/\l.ses<=1000
 kind:1<=l.kind/\l.kind<=11
 num:0<=l.num/\l.num<=65535
 len:Y l.ws<=4096
 ws:l.ws.all okW=true
 tag:l.tag<If (W:Int)
structure Ad7(r:Rc):Prop where
 ses:0<=r.ses/\r.ses<=1000
 block:Y r.block<=512
 ledger:Y r.ledger<=1000
 key:Y r.key<=512
structure BO(z:AV)(a:Bb):Prop where
 last:0<=a.last/\a.last<=1000
 busy:a.ph=1->1<=a.last
 ph:0<=a.ph/\a.ph<=4
 wt:0<=a.waited/\a.waited<=101
 wb:a.ph=1->a.waited<=z.s.tries
 pls:Bz AQ.ok a.pulses=0
 clk:Bz Bf.ok a.clicks=0
 sent:∀l,a.sent=I l->Pk z.W l
 took:∀l,a.took=I l->Pk z.W l
 blk:Y a.block<=512
 led:CF a.ledger=0
 slt:Cz a.slots 0 (Y a.pulses-1)=0
 kpt:Cz a.kept 0 (Y a.pulses-1)=0
 dec:a.decoys=a.kept.filter (NX z a)
 w2:a.ph=1->2∈a.wait->a.kept=[]
 w4:a.ph=1->4∈a.wait->(Y a.slots:Int)=z.s.block
 w7:a.ph=1->7∈a.wait->∃c m,a.course=I (c,m)/\m.opn=true
 crs:∀c m,a.course=I (c,m)->c.Ok/\c.at .stop m/\Y m.b<=512
 recs:∀r∈a.recs,Ad7 r
 ro:(a.recs.map Rc.ses).Pairwise (· < ·)
 rl:∀r∈a.recs,1<=r.ses/\r.ses<=a.last
 rn:a.ph=1->a.has=false->∀r∈a.recs,r.ses<a.last
 w8:a.ph=1->a.has=true->∀k∈a.wait,k=10
theorem Va{α:Type}{ok:α->Bool}{l:List α}(h:Bz ok l=0):Y l<=4096:=by
 grind [Bz]
theorem iz{l:List Int}(h:l.Pairwise (· < ·)){a b:Int}(hr:∀x∈l,a<=x/\x<=b):(Y l:Int)<=max 0 (b-a+1):=by
 induction l generalizing a with
 | nil=>simp;omega
 | cons x l ih=>
  rw[UG]at h;have h1:=hr x AO;have h2:=ih (a:=x+1) h.2 (fun y hy=>⟨by grind,(hr y (by simp[hy])).2⟩)
  grind
def BO.few{z:AV}{a:Bb}(h:BO z a):(Y a.recs:Int)<=1000:=by
 have h1:=iz h.ro (a:=1) (b:=a.last) (fun x hx=>by
  obtain⟨r,hr,rfl⟩:=Ld.1 hx;exact h.rl r hr)
 rw[Dz]at h1;have:=h.last;omega
def bK(p q:Lt):Bool:=p.ses == q.ses&&(p.kind == q.kind&&(p.num == q.num&&(p.tag == q.tag&&p.ws == q.ws)))
def AV.Wh(z:AV)(l:Lt):Bool:=VH z.W (l.at Z 0)
def Lt.bits(l:Lt):List Bool:=Ga (l.at Z 0)
def AV.Gj(z:AV)(a:Bb)(l:Lt):Bb × List Lt × Int:=
 if a.ph=4 then(a,[],13)
 else if z.Wh l=false\/l.num%2=z.side then(a,[],2)
 else if(a.took.any (bK · l))=true then(a,if agB l.kind=true then a.sent.toList else[],0)
 else if a.ph≠1\/l.ses≠a.last\/(l.kind≠11/\l.kind∉a.wait)then(a,[],11)
 else if IJ z.W z.bits a.used l.num l.bits l.tag≠0 then(a,[],IJ z.W z.bits a.used l.num l.bits l.tag)
 else
  let r:=z.Td l.kind {a with used:=l.num.toNat::a.used,took:=I l,waited:=0} l.ws
  (r.1,r.2,0)
section
variable{D G S S1:Nat}{v:Nat->Nat}{w y:V}
theorem Ad8{seed L W S2 S3 AF K q0 q1 q2 q3:Nat}(h0:V5 seed L=S)(h1:Bk S=S1)(h2:Bk S1=S2)(h3:Bk S2=S3)(hV:2^W=AF)(e0:C9 S=q0)(e1:C9 S1=q1)(e2:C9 S2=q2)(e3:C9 S3=q3)(hK:q2%AF=K):
  RZ seed L=q0/\Ph seed L=q1/\MM seed L W=K/\TR seed L=q3:=by
 grind [RZ,Ph,MM,TR,V5,Bk,C9]
structure Se(w y:V)(G D S:Nat)(v:Nat->Nat):Prop where
 b:Ag w w y
 hG:↑w<G
 hD:↑w<D
 ne:G≠D
 bx:y.heap[w.heap.size]?=I (N #[U AA 0,U AA 0,U AA 0,U AA 0] 346 (0,0))
 c:∀j,j<4->E y ⟨G,j,Z⟩=I (U AA (v j:Int))/\Bo y ⟨G,j,Z⟩=false
 d:E y ⟨D,0,Z⟩=I (U AA S)/\Bo y ⟨D,0,Z⟩=false/\E y ⟨D,1,Z⟩=I (Av true)
def Se.on{z:V}(h:Se w y G D S v)(hb:Ag y y z):Se w z G D S v:=by
 have fz:∀{a:AS} {u:An},E y a=I u->Bo y a=false->Bo z a=false:=fun hc hf=>(hb.frozen (Ch y _ hc)).trans hf
 exact⟨h.b.trans (hb.mono h.b.size),h.hG,h.hD,h.ne,(hb.block _ (Bm.1 h.bx).1).trans h.bx,fun j hj=>⟨AK hb (h.c j hj).1,fz (h.c j hj).1 (h.c j hj).2⟩,AK hb h.d.1,fz h.d.1 h.d.2.1,AK hb h.d.2.2⟩
def Se.next(h:Se w y G D S v)(S' n:Nat):Se w ((Ai y ⟨D,0,Z⟩ (U AA S')).drewN n) G D S' v:=by
 obtain⟨d0,d1,d2⟩:=h.d;have ne:=h.ne;refine Se.on (y:=Ai y ⟨D,0,Z⟩ (U AA S')) ⟨h.b.setCell (EO h.hD) _,h.hG,h.hD,h.ne,(Fd y ⟨D,0,Z⟩ (U AA S') w (Nat.ne_of_lt h.hD)).trans h.bx,fun j hj=>?_,?_⟩ ⟨rfl,rfl,rfl,Bg _,fun _ _=>rfl⟩
 ·obtain⟨c1,c2⟩:=h.c j hj
  have e:=Fd y ⟨D,0,Z⟩ (U AA S') G ne;exact⟨(Fx (a:=⟨G,j,Z⟩) e).trans c1,(WU (a:=⟨G,j,Z⟩) e).trans c2⟩
 ·refine⟨by go_simp,by go_simp,by go_simp⟩
def Se.store(h:Se w y G D S v)(k x:Nat)(hk:k<4):Se w (Ai y ⟨G,k,Z⟩ (U AA x)) G D S (fun j=>if j=k then x else v j):=by
 obtain⟨d0,d1,d2⟩:=h.d;have ne:=h.ne;have e:=Fd y ⟨G,k,Z⟩ (U AA x) D ne.symm;refine⟨h.b.setCell (EO h.hG) _,h.hG,h.hD,h.ne,(Fd y ⟨G,k,Z⟩ (U AA x) w (Nat.ne_of_lt h.hG)).trans h.bx,fun j hj=>?_,(Fx (a:=⟨D,0,Z⟩) e).trans d0,(WU (a:=⟨D,0,Z⟩) e).trans d1,(Fx (a:=⟨D,1,Z⟩) e).trans d2⟩;obtain⟨c1,c2⟩:=h.c j hj;obtain⟨k1,k2⟩:=h.c k hk;by_cases hjk:j=k
 ·subst hjk
  simp only[if_true];exact⟨by go_simp,by go_simp⟩
 ·simp only[if_neg hjk]
  exact⟨by go_simp,by go_simp⟩
def YZ{q:Nat}(h1:Bk S=S1)(h2:C9 S=q)(D:Nat)(w:V)(c0:E w ⟨D,0,Z⟩=I (U AA S))(f0:Bo w ⟨D,0,Z⟩=false)(c1:E w ⟨D,1,Z⟩=I (Av true)):
  AL AE 84 #[AI (I ⟨D,0,Z⟩)] w fun e w'=>e=AN (U AA q)/\∃n,w'=(Ai w ⟨D,0,Z⟩ (U AA S1)).drewN n:=by
 subst h1 h2;exact ae D S w c0 f0 c1
section
variable {τ:Nat→Nat} {w:V} {i b W nb mb:Nat} {x:BR} {bits:List Bool} {a:Bb}
def Z2(h:Bx τ w i b x W nb mb bits a)(L:Nat)(hl:a.last=(L:Int))(hL:L<=1000)(hW:x.s.width=(W:Int))(hs:x.s.seed<18446744073709551616):AL AE 238 #[AI (I ⟨b,0,Z⟩)] w fun e w'=>
  e=AN (Ba #[U AA (RZ x.s.seed L),U AA (Ph x.s.seed L),U AA (MM x.s.seed L W),U AA (TR x.s.seed L)])/\Ag w w w':=by
 have x34:E w ⟨b,34,Z⟩=I (U AA x.s.seed):=h.row.c 34;have Kz:E w ⟨b,38,Z⟩=I (U O L):=by rw[<-hl,<-h.num.last];exact h.row.c 38
 have x31:E w ⟨b,31,Z⟩=I (U O W):=qrb hW (h.row.c 31);have b1:=AB (Ae w w) (N #[U AA 0,U AA 0,U AA 0,U AA 0] 346);have y34:=AK b1 x34;have Qm:=AK b1 Kz;obtain⟨S,hS⟩:=Az (V5 x.s.seed L);have u1:IntKind.u64.wrap (L:Int)=(L:Int):=by simp[IntKind.wrap,IntKind.bits,IntKind.signed];omega
 have u2:IntKind.u64.wrap ((x.s.seed:Int)+(L:Int))=(S:Int):=by rw[<-hS];unfold V5;simp[IntKind.wrap,IntKind.bits,IntKind.signed]
 have HS:=F hS;clear hS;obtain⟨S1,hS1⟩:=Az (Bk S);obtain⟨S2,PP⟩:=Az (Bk S1);obtain⟨S3,hS3⟩:=Az (Bk S2);obtain⟨S4,hS4⟩:=Az (Bk S3);obtain⟨Y0,TX⟩:=Az (C9 S);obtain⟨Y1,CT⟩:=Az (C9 S1);obtain⟨Y2,Et⟩:=Az (C9 S2);obtain⟨Y3,hq3⟩:=Az (C9 S3);have N0:=fun D w'=>YZ hS1 TX D w'
 have N1:=fun D w'=>YZ PP CT D w'
 have N2:=fun D w'=>YZ hS3 Et D w'
 have N3:=fun D w'=>YZ hS4 hq3 D w'
 have HE:=F (fun(AF K:Nat) (hV:2^W=AF) (hK:Y2%AF=K)=>Ad8 HS.out hS1 PP hS3 hV TX CT Et hq3 hK);clear hS1 PP hS3 hS4 TX CT Et hq3;have cN:=fun w'=>TJ S w'
 obtain⟨w1,BJ⟩:=Az (Ao w (N #[U AA 0,U AA 0,U AA 0,U AA 0] 346));have hrow:w1.heap[w.heap.size]?=I (N #[U AA 0,U AA 0,U AA 0,U AA 0] 346 (0,0)):=by rw[<-BJ];exact CB w _
 rw[BJ]at b1 y34 Qm;have Pm:=AK b1 x31;go_in;go_upto_region 1 with fail
 go_region_held3 (fun w'=>E w' ⟨b,34,Z⟩=I (U AA x.s.seed)/\E w' ⟨b,38,Z⟩=I (U O L))
  (first | (exact⟨y34,Qm⟩) | (exact⟨AK Fe y34,AK Fe Qm⟩))
  (first | (go_at_call 83;refine Calls.on (FD:=#[U AA S]) Q ?_;refine(cN _).mono ?_;rintro e w2⟨rfl,rfl⟩;have Fe:=AB (Ae w1 w1).drew (N #[U AA S,Av true] 219)))
 obtain⟨D,hD⟩:=Az (w1.heap.size);have hDB:↑w<D:=by rw[<-hD,<-BJ];simp
 have e0:E (Ao w1 (N #[U AA S,Av true] 219)).drew ⟨w1,0,Z⟩=I (U AA S):=Cb Q;have e1:E (Ao w1 (N #[U AA S,Av true] 219)).drew ⟨w1,1,Z⟩=I (Av true):=Cb Q;have e2:Bo (Ao w1 (N #[U AA S,Av true] 219)).drew ⟨w1,0,Z⟩=false:=by simp[go_sem]
 have hb2:Ag w1 w1 (Ao w1 (N #[U AA S,Av true] 219)).drew:=(AB (Ae _ _) _).drew;have JS:=(hb2.block _ (qrf hD hDB)).trans hrow;have z31:=AK hb2 Pm;have qB:=b1.trans (hb2.mono b1.size);obtain⟨w2,hw2⟩:=Az ((Ao w1 (N #[U AA S,Av true] 219)).drew);rw[hD]at e0 e1 e2;rw[hw2]at e0 e1 e2 JS z31 qB ⊢;rw[hD];clear hw2 Fe hb2 hrow cN y34 Qm Pm
 have P0:Se w (Ao w2 (N #[U AA 0,U AA 0,U AA 0,U AA 0] 346)) w2 D S (fun _=>0):=by
  have hb3:=AB (Ae w2 w2) (N #[U AA 0,U AA 0,U AA 0,U AA 0] 346);have hDlt:=Ch w2 _ e0;refine⟨qB.trans (hb3.mono qB.size),by simp at hDlt;omega,hDB,fun e=>by simp at hDlt;omega,(hb3.block _ (Bm.1 JS).1).trans JS,fun j hj=>?_,AK hb3 e0,(hb3.frozen (p:=⟨D,0,Z⟩) hDlt).trans e2,AK hb3 e1⟩;rcases(show j=0\/j=1\/j=2\/j=3 by omega)with rfl | rfl | rfl | rfl <;> exact Id (Ae _ _) Q Q
 obtain⟨G,hG⟩:=Az (w2.heap.size);rw[hG]at P0;go_wp2_with fail;obtain⟨w3,hw3⟩:=Az (Ao w2 (N #[U AA 0,U AA 0,U AA 0,U AA 0] 346));rw[hw3]at P0 ⊢;clear hw3;refine(N0 D w3 P0.d.1 P0.d.2.1 P0.d.2.2).mono ?_;rintro e w4⟨rfl,n4,rfl⟩;have P1:=P0.next S1 n4;obtain⟨c0,f0⟩:=P1.c 0 AC;have P2:=P1.store 0 Y0 AC;obtain⟨w5,Ct⟩:=Az (Ai ((Ai w3 ⟨D,0,Z⟩ (U AA S1)).drewN n4) ⟨G,0,Z⟩ (U AA Y0));rw[Ct]at P2;go_wp2_with fail;clear Ct P1 f0 P0;refine(N1 D w5 P2.d.1 P2.d.2.1 P2.d.2.2).mono ?_;rintro e w6⟨rfl,n6,rfl⟩;have P3:=P2.next S2 n6;obtain⟨c0,f0⟩:=P3.c 1 AC;have P4:=P3.store 1 Y1 AC;obtain⟨w7,Ig⟩:=Az (Ai ((Ai w5 ⟨D,0,Z⟩ (U AA S2)).drewN n6) ⟨G,1,Z⟩ (U AA Y1));rw[Ig]at P4;go_upto_region 5 with fail;clear f0 P3 Ig P2;obtain⟨AF,hV⟩:=Az (2^W)
 have wV:IntKind.u64.wrap ((2:Int)^min W 64)=(AF:Int):=by
  rw[<-hV];rcases h.pool.at_.wd with e | e | e <;> subst e <;> decide
 have hV0:0<AF:=by rw[<-hV];exact Ow AC
 have HV:=F hV;have vne:¬AF=0:=J;obtain⟨K,hK0⟩:∃K:Nat,Y2%AF=K:=⟨_,Q⟩
 have hK:(Y2:Int).tmod (AF:Int)=(K:Int):=by rw[aJ J,<-hK0];simp
 have HK0:=F hK0;clear hK0;clear hV;have Pd:=P4.on (Ae _ _).drew;have w0:(0:Int)<=(W:Int):=J;have LW:=qbc x31;refine Fz (S:=fun w'=>Ag w w w') AG Pd.b (fun hHeld=>?_);refine tQ 0 ?_;refine tQ4 2 ?_;refine tQ2 6 ?_;refine url 1 (fun KU Bc=>?_);go_simp;refine(N2 D w7.drew Pd.d.1 Pd.d.2.1 Pd.d.2.2).mono ?_;rintro e w8⟨rfl,n8,rfl⟩;have Q5:=Pd.next S3 n8;refine Bc.out _ _ Q5.b (fun _=>?_);refine zp ?_;obtain⟨w9,RB⟩:=Az ((Ai w7.drew ⟨D,0,Z⟩ (U AA S3)).drewN n8);rw[RB]at Q5 ⊢;obtain⟨c2,f2⟩:=Q5.c 2 AC;have Q6:=Q5.store 2 K AC;have q9:=Q5.b;refine tQ2 8 ?_;refine url 10 (fun KU Bc=>?_);go_simp;refine Bc.out _ _ Q6.b (fun _=>?_);refine zp ?_;refine Ce ?_;obtain⟨Bs,RC⟩:=Az (Ai w9 ⟨G,2,Z⟩ (U AA K));rw[RC]at Q6 ⊢;clear RC Q5 c2 f2 RB Pd LW;go_wp2_with fail;refine(N3 D Bs Q6.d.1 Q6.d.2.1 Q6.d.2.2).mono ?_;rintro e FW⟨rfl,n11,rfl⟩;have Q7:=Q6.next S4 n11;obtain⟨c3,f3⟩:=Q7.c 3 AC;have Q8:=Q7.store 3 Y3 AC;obtain⟨E7,SP⟩:=Az (((Bs.setCell ⟨D,0,Z⟩ (U AA S4)).drewN n11).setCell ⟨G,3,Z⟩ (U AA Y3));rw[SP]at Q8;go_upto_region 7 with fail;clear SP Q7 c3 f3 Q6;obtain⟨b0,_⟩:=Q8.c 0 AC;obtain⟨b1',_⟩:=Q8.c 1 AC;obtain⟨b2,_⟩:=Q8.c 2 AC;obtain⟨b3,_⟩:=Q8.c 3 AC;have bx:=Q8.bx;have bd:=Q8.b;have b0':E E7 ⟨G,0,Z⟩=I (U AA Y0):=b0;have AjF:E E7 ⟨G,1,Z⟩=I (U AA Y1):=b1';have b2':E E7 ⟨G,2,Z⟩=I (U AA K):=b2;have b3':E E7 ⟨G,3,Z⟩=I (U AA Y3):=b3;have hx:=HE.out AF K HV.out HK0.out;have HX:=F hx;clear hx hK vne wV hV0 u1 u2 Q8 b0 b1' b2 b3 x34 Kz x31 h;clear HS HV HK0 HE;go_wp2_with(refine UF Q 346 _ _ Q w 0 #[U AA Y0,U AA Y1,U AA K,U AA Y3] AG AG 346 _ #[U AA Y0,U AA Y1,U AA K,U AA Y3] bx (qiz 346 4) (Fg AG) AG AG ?_);obtain⟨e0,e1,e2,e3⟩:=HX.out;rw[e0,e1,e2,e3];refine qti ?_;refine De (v:= Ba #[U AA Y0,U AA Y1,U AA K,U AA Y3]) ?_ Q ⟨rfl,?_⟩
 ·rw[aY Q]
  have hrow:(E7.setRow w #[U AA Y0,U AA Y1,U AA K,U AA Y3]).heap[w.heap.size]?=I (N #[U AA Y0,U AA Y1,U AA K,U AA Y3] 346 (0,0)):=GS _ _ _ _ _ (0,0) bx;generalize E7.setRow w #[U AA Y0,U AA Y1,U AA K,U AA Y3]=y at*;have r0:E y ⟨w,0,Z⟩=I (U AA Y0):=AX y w 0 _ _ _ hrow;have r1:E y ⟨w,1,Z⟩=I (U AA Y1):=AX y w 1 _ _ _ hrow;have r2:E y ⟨w,2,Z⟩=I (U AA K):=AX y w 2 _ _ _ hrow;have r3:E y ⟨w,3,Z⟩=I (U AA Y3):=AX y w 3 _ _ _ hrow;go_simp
 ·exact bd.trans ((AT.grown (S:=fun k=>w.heap.size<=k) (Fw E7 w _) (fun g hg=>by cases hg;exact .inl (Bg _))).below bd.size (fun k hk=>hk))
end
end
section
variable {τ:Nat→Nat} {w:V} {i b W nb mb:Nat} {x:BR} {bits:List Bool} {a:Bb}
def Imm.lit(fr:BU τ w)(cs:Array An)(T:TypeId)(l:List Int)(hcs:cs.toList=l.map (Value.int .i64))(hl:Y l<=10):Imm 1 BD τ (Ao w (N cs T)) (R (I ⟨w,0,Z⟩) (Y l) (Y l)) l:=by
 have hm:Y l<=maxLen:=by unfold maxLen;omega
 have ha:Arr 1 BD (Ao w (N cs T)) (Ao w (N cs T)) (I ⟨w,0,Z⟩) l:=by
  refine Vs (sz:=1) (enc:=BD) w l cs T ?_ DY;rw[hcs];exact(N9 (Value.int .i64) l).symm
 exact⟨I ⟨w,0,Z⟩,Y l,Q,Bg _,hm,(fun h=>by cases h),ha,(fun y hy=>by cases hy;exact⟨AO,fr _ (Bg _)⟩)⟩
def Bx.wait(h:Bx τ w i b x W nb mb bits a)(hi:i≠0)(fr:BU τ w)(cs:Array An)(T:TypeId)(l:List Int)(hcs:cs.toList=l.map (Value.int .i64))(hl:Y l<=10):
  E (Ao w (N cs T)) ⟨b,43,Z⟩=I x.k.wait/\Bo (Ao w (N cs T)) ⟨b,43,Z⟩=false/\
  Bx τ (Ai (Ao w (N cs T)) ⟨b,43,Z⟩ (R (I ⟨w,0,Z⟩) (Y l) (Y l))) i b {x with k:={x.k with wait:= R (I ⟨w,0,Z⟩) (Y l) (Y l)}} W nb mb bits {a with wait:=l}/\
  Frm τ τ w (Ai (Ao w (N cs T)) ⟨b,43,Z⟩ (R (I ⟨w,0,Z⟩) (Y l) (Y l))) i:=by
 have Ma:=AB (Ae w w) (N cs T);have h13:=h.on Ma;have i13:=Imm.lit fr cs T l hcs hl;refine⟨h13.row.c 43,h13.row.fr 43,?_,(Frm.of Ma).trans (h13.JA 43 _)⟩;exact h13.cell hi 43 _ Q Q Q Q ⟨h.num.last,h.num.ph,h.num.rs,h.num.wt,h.num.sh,h.num.n,h.num.t,h.num.has⟩ ⟨h13.li.pulses,h13.li.clicks,i13,h13.li.sent,h13.li.took,h13.li.ledger,h13.li.kept,h13.li.slots,h13.li.decoys,h13.li.block⟩ Q Q Q Q
def Ad9(g0 g1 g2 g3:Nat)(y:V):(Instr.field 346 (Ba #[U AA g0,U AA g1,U AA g2,U AA g3]) 0).run AE y=.ok (U AA g0) y:=AG
def Aea(g0 g1 g2 g3:Nat)(y:V):(Instr.field 346 (Ba #[U AA g0,U AA g1,U AA g2,U AA g3]) 1).run AE y=.ok (U AA g1) y:=AG
def rA(g0 g1 g2 g3:Nat)(y:V):(Instr.field 346 (Ba #[U AA g0,U AA g1,U AA g2,U AA g3]) 2).run AE y=.ok (U AA g2) y:=AG
def Aeb(g0 g1 g2 g3:Nat)(y:V):(Instr.field 346 (Ba #[U AA g0,U AA g1,U AA g2,U AA g3]) 3).run AE y=.ok (U AA g3) y:=AG
def rB(h:Bx τ w i b x W nb mb bits a)(L:Nat)(hl:a.last=(L:Int))(hL:L<=1000)(ok:Gi x.s W):AL AE 232 #[AI (I ⟨b,0,Z⟩)] w fun e w'=>
  e=AN (Ba #[U O x.s.passes,U O x.s.pblk,U AA (((x.s.pseed+Ph x.s.seed L)%18446744073709551616:Nat):Int)])/\Ag w w w':=by
 have b1:=AB (Ae w w) (N #[U O 0,U O 0,U AA 0] 60);have h1:=h.on b1;have x28:E (Ao w (N #[U O 0,U O 0,U AA 0] 60)) ⟨b,28,Z⟩=I (U O x.s.passes):=h1.row.c 28;have x29:E (Ao w (N #[U O 0,U O 0,U AA 0] 60)) ⟨b,29,Z⟩=I (U O x.s.pblk):=h1.row.c 29;have x30:E (Ao w (N #[U O 0,U O 0,U AA 0] 60)) ⟨b,30,Z⟩=I (U AA x.s.pseed):=h1.row.c 30;obtain⟨Cr,hZ⟩:=Az ((x.s.pseed+Ph x.s.seed L)%18446744073709551616);rw[hZ];have HZ:=F hZ;clear hZ;go_in;go_upto_region 2 with fail;have b2:=AB b1 (N #[U O x.s.passes,U O x.s.pblk,U AA x.s.pseed] 60);have r1:(Ao w (N #[U O 0,U O 0,U AA 0] 60)).heap[w.heap.size]?=I (N #[U O 0,U O 0,U AA 0] 60 (0,0)):=CB w _;have hsz:(Ao w (N #[U O 0,U O 0,U AA 0] 60)).heap.size=w.heap.size+1:=AO;have r2:(Ao (Ao w (N #[U O 0,U O 0,U AA 0] 60)) (N #[U O x.s.passes,U O x.s.pblk,U AA x.s.pseed] 60)).heap[w.heap.size]?=I (N #[U O 0,U O 0,U AA 0] 60 (0,0)):=((AB (Ae _ _) _).block w AO).trans r1;have r3:(Ao (Ao w (N #[U O 0,U O 0,U AA 0] 60)) (N #[U O x.s.passes,U O x.s.pblk,U AA x.s.pseed] 60)).heap[w.heap.size+1]?=I (N #[U O x.s.passes,U O x.s.pblk,U AA x.s.pseed] 60 (0,0)):=by rw[<-hsz];exact CB _ _
 obtain⟨w2,hw2⟩:=Az (Ao (Ao w (N #[U O 0,U O 0,U AA 0] 60)) (N #[U O x.s.passes,U O x.s.pblk,U AA x.s.pseed] 60));rw[hw2]at b2 r2 r3 ⊢;have h2:=h.on b2;have cP:=qbw w2 fun y hy=>Z2 (h2.on hy) L hl hL ok.wd ok.sd
 obtain⟨g0,hg0⟩:=Az (RZ x.s.seed L);obtain⟨g1,ER⟩:=Az (Ph x.s.seed L);obtain⟨g2,hg2⟩:=Az (MM x.s.seed L W);obtain⟨g3,hg3⟩:=Az (TR x.s.seed L);simp only[hg0,ER,hg2,hg3]at cP;have hZ:(x.s.pseed+g1)%18446744073709551616=Cr:=qrb ER HZ.out;have uZ:IntKind.u64.wrap ((x.s.pseed:Int)+(g1:Int))=(Cr:Int):=by rw[<-hZ];simp[IntKind.wrap,IntKind.bits,IntKind.signed]
 have k2:E w2 ⟨↑w+1,2,Z⟩=I (U AA x.s.pseed):=AX w2 _ 2 _ _ _ r3;have tr:=trivial;have F1:=Aea g0 g1 g2 g3;clear hg0 ER hg2 hg3 hZ hw2 h1 h2 x28 x29 x30 hsz r1;refine Fz (S:=fun _=>True) AG trivial (fun hHeld=>?_);refine tQ 0 ?_;refine tQ 2 ?_
 have fin:∀w3,Ag w2 w2 w3->E w3 ⟨↑w+1,2,Z⟩=I (U AA x.s.pseed)/\Bo w3 ⟨↑w+1,2,Z⟩=false/\w3.heap[w.heap.size+1]?=I (N #[U O x.s.passes,U O x.s.pblk,U AA x.s.pseed] 60 (0,0))/\w3.heap[w.heap.size]?=I (N #[U O 0,U O 0,U AA 0] 60 (0,0)):=fun w3 hb=>by
  have q3:=(hb.block _ (Bm.1 r3).1).trans r3;exact⟨AX w3 _ 2 _ _ _ q3,CJ w3 _ 2 _ _ q3,q3,(hb.block _ (Bm.1 r2).1).trans r2⟩
 refine I8 [1,3] ?_;refine Dj Q (fun KU Bc=>?_) (Dj Q (fun KU Bc=>?_) GQ)
 ·go_simp
  refine Bc.out _ _ tr (fun _=>?_);refine zp ?_;refine url 3 (fun KU Bc=>?_);go_simp;refine gqz (cP _ (Ae _ _).drew) fun w3 I0=>?_;have hb3:=AH (Ae w2 w2).drew I0;refine Bc.out _ _ tr (fun _=>?_);refine zp ?_;obtain⟨k3,f3,q3,q2⟩:=fin w3 hb3;refine tQ2 4 ?_;refine tQ 6 ?_;refine url 7 (fun KU Bc=>?_);go_simp;refine Bc.out _ _ tr (fun _=>?_);refine zp ?_;refine Ce ?_;have q4:(Ai w3 ⟨↑w+1,2,Z⟩ (U AA Cr)).heap[w.heap.size+1]?=I (N #[U O x.s.passes,U O x.s.pblk,U AA Cr] 60 (0,0)):=CM w3 _ 2 _ _ _ q3;have q5:(Ai w3 ⟨↑w+1,2,Z⟩ (U AA Cr)).heap[w.heap.size]?=I (N #[U O 0,U O 0,U AA 0] 60 (0,0)):=(Jo w3 ⟨↑w+1,2,Z⟩ w _ AO).trans q2;have b4:Ag w w (Ai w3 ⟨↑w+1,2,Z⟩ (U AA Cr)):=(b2.trans (hb3.mono b2.size)).setCell AO _;obtain⟨w4,hw4⟩:=Az (Ai w3 ⟨↑w+1,2,Z⟩ (U AA Cr));rw[hw4]at q4 q5 b4 ⊢;clear k3 f3 q3 q2 fin hw4 F1 uZ k2 cP hb3 I0 b2 r2 r3 h;have c0:=AX w4 _ 0 _ _ _ q4;have c1:=AX w4 _ 1 _ _ _ q4;have c2:=AX w4 _ 2 _ _ _ q4;go_wp2_with(refine UF Q 60 _ _ Q w 0 #[U O x.s.passes,U O x.s.pblk,U AA Cr] AG AG 60 _ #[U O x.s.passes,U O x.s.pblk,U AA Cr] q5 (qiz 60 3) (Fg AG) AG AG ?_);refine qti ?_;refine De (v:= Ba #[U O x.s.passes,U O x.s.pblk,U AA Cr]) ?_ Q ⟨rfl,?_⟩
  ·rw[aY Q]
   have hrow:(w4.setRow w #[U O x.s.passes,U O x.s.pblk,U AA Cr]).heap[w.heap.size]?=I (N #[U O x.s.passes,U O x.s.pblk,U AA Cr] 60 (0,0)):=GS _ _ _ _ _ (0,0) q5;generalize w4.setRow w #[U O x.s.passes,U O x.s.pblk,U AA Cr]=y at*;have r0:E y ⟨w,0,Z⟩=I (U O x.s.passes):=AX y w 0 _ _ _ hrow;have r1:E y ⟨w,1,Z⟩=I (U O x.s.pblk):=AX y w 1 _ _ _ hrow;have r2:E y ⟨w,2,Z⟩=I (U AA Cr):=AX y w 2 _ _ _ hrow;go_simp
  ·exact b4.trans ((AT.grown (S:=fun k=>w.heap.size<=k) (Fw w4 w _) (fun g hg=>by cases hg;exact .inl (Bg _))).below b4.size (fun k hk=>hk))
 ·go_simp
  refine gqz (cP _ (Ae _ _).drew) fun w3 I0=>?_;have hb3:=AH (Ae w2 w2).drew I0;refine Bc.out _ _ tr (fun _=>?_);refine zp ?_;obtain⟨k3,f3,q3,q2⟩:=fin w3 hb3;refine tQ 4 ?_;refine url 1 (fun KU Bc=>?_);go_simp;refine Bc.out _ _ tr (fun _=>?_);refine zp ?_;refine tQ2 5 ?_;refine url 7 (fun KU Bc=>?_);go_simp;refine Bc.out _ _ tr (fun _=>?_);refine zp ?_;refine Ce ?_;have q4:(Ai w3 ⟨↑w+1,2,Z⟩ (U AA Cr)).heap[w.heap.size+1]?=I (N #[U O x.s.passes,U O x.s.pblk,U AA Cr] 60 (0,0)):=CM w3 _ 2 _ _ _ q3;have q5:(Ai w3 ⟨↑w+1,2,Z⟩ (U AA Cr)).heap[w.heap.size]?=I (N #[U O 0,U O 0,U AA 0] 60 (0,0)):=(Jo w3 ⟨↑w+1,2,Z⟩ w _ AO).trans q2;have b4:Ag w w (Ai w3 ⟨↑w+1,2,Z⟩ (U AA Cr)):=(b2.trans (hb3.mono b2.size)).setCell AO _;obtain⟨w4,hw4⟩:=Az (Ai w3 ⟨↑w+1,2,Z⟩ (U AA Cr));rw[hw4]at q4 q5 b4 ⊢;clear k3 f3 q3 q2 fin hw4 F1 uZ k2 cP hb3 I0 b2 r2 r3 h;have c0:=AX w4 _ 0 _ _ _ q4;have c1:=AX w4 _ 1 _ _ _ q4;have c2:=AX w4 _ 2 _ _ _ q4;go_wp2_with(refine UF Q 60 _ _ Q w 0 #[U O x.s.passes,U O x.s.pblk,U AA Cr] AG AG 60 _ #[U O x.s.passes,U O x.s.pblk,U AA Cr] q5 (qiz 60 3) (Fg AG) AG AG ?_);refine qti ?_;refine De (v:= Ba #[U O x.s.passes,U O x.s.pblk,U AA Cr]) ?_ Q ⟨rfl,?_⟩
  ·rw[aY Q]
   have hrow:(w4.setRow w #[U O x.s.passes,U O x.s.pblk,U AA Cr]).heap[w.heap.size]?=I (N #[U O x.s.passes,U O x.s.pblk,U AA Cr] 60 (0,0)):=GS _ _ _ _ _ (0,0) q5;generalize w4.setRow w #[U O x.s.passes,U O x.s.pblk,U AA Cr]=y at*;have r0:E y ⟨w,0,Z⟩=I (U O x.s.passes):=AX y w 0 _ _ _ hrow;have r1:E y ⟨w,1,Z⟩=I (U O x.s.pblk):=AX y w 1 _ _ _ hrow;have r2:E y ⟨w,2,Z⟩=I (U AA Cr):=AX y w 2 _ _ _ hrow;go_simp
  ·exact b4.trans ((AT.grown (S:=fun k=>w.heap.size<=k) (Fw w4 w _) (fun g hg=>by cases hg;exact .inl (Bg _))).below b4.size (fun k hk=>hk))
end
section
variable {τ:Nat→Nat} {w:V} {i b W nb mb:Nat} {x:BR} {bits:List Bool} {a:Bb}
def Bx.bL(h:Bx τ w i b x W nb mb bits a)(hi:i≠0)(p:Int):Bx τ (Ai w ⟨b,39,Z⟩ (U O p)) i b {x with k:={x.k with phase:=p}} W nb mb bits {a with ph:=p}:=
 h.cell hi 39 _ Q Q Q Q ⟨h.num.last,rfl,h.num.rs,h.num.wt,h.num.sh,h.num.n,h.num.t,h.num.has⟩ ⟨h.li.pulses,h.li.clicks,h.li.wait,h.li.sent,h.li.took,h.li.ledger,h.li.kept,h.li.slots,h.li.decoys,h.li.block⟩ Q Q Q Q
def Bx.Aec(h:Bx τ w i b x W nb mb bits a)(hi:i≠0)(p:Int):Bx τ (Ai w ⟨b,40,Z⟩ (U O p)) i b {x with k:={x.k with reason:=p}} W nb mb bits {a with rs:=p}:=
 h.cell hi 40 _ Q Q Q Q ⟨h.num.last,h.num.ph,rfl,h.num.wt,h.num.sh,h.num.n,h.num.t,h.num.has⟩ ⟨h.li.pulses,h.li.clicks,h.li.wait,h.li.sent,h.li.took,h.li.ledger,h.li.kept,h.li.slots,h.li.decoys,h.li.block⟩ Q Q Q Q
def Aed(h:Bx τ w i b x W nb mb bits a)(hi:i≠0)(fr:BU τ w)(A:Option AS)(c:Nat)(ws:List Int):
  AL AE 205 #[AI (I ⟨b,0,Z⟩),R A (Y ws) c] w fun e w'=>QD τ w i b W nb mb bits x (AV.Tb a ws) e w':=by
 cases ws with
 | cons q l=>
  have e1:AV.Tb a (q::l)=Z:=by unfold AV.Tb;rw[Bd AO]
  rw[e1];go_in;go_wp2_with(go_at_call 220;refine(IT _).mono ?_;rintro e w2 ⟨⟨u,v,rfl⟩,hb2⟩);exact⟨Q,.inl ⟨rfl,⟨_,_,rfl⟩,hb2⟩⟩
 | nil=>
  have e1:AV.Tb a []=I ({a with ph:=2},[]):=by unfold AV.Tb;rw[AU AO]
  rw[e1];have H8:=h.row.c 39;have f39:=h.row.fr 39;have h2:=h.bL hi 2;have f2:=h.JA 39 (U O 2);go_in;go_wp2_with(go_at_call 220;refine(FM _).mono ?_;rintro e w2 ⟨rfl,rfl⟩);go_ret;exact .inr ⟨_,rfl,DA.fin fr (Frm.refl τ w i) (Fix.refl x) f2 h2 (.inl ⟨rfl,rfl⟩) ⟨rfl,rfl,rfl⟩⟩
def Aee(h:Bx τ w i b x W nb mb bits a)(hi:i≠0)(fr:BU τ w)(A:Option AS)(c:Nat)(ws:List Int)(hv:Imm 1 BD τ w (R A (Y ws) c) ws):
  AL AE 206 #[AI (I ⟨b,0,Z⟩),R A (Y ws) c] w fun e w'=>QD τ w i b W nb mb bits x (AV.Tc a ws) e w':=by
 obtain⟨A',c',MO,_,_,_,hA,tA⟩:=hv;cases MO;by_cases hl:Y ws=1
 case neg=>
  have e1:AV.Tc a ws=Z:=by
   unfold AV.Tc;split
   ·rename_i r;exact absurd Q hl
   ·rfl
  rw[e1];have g1:((Y ws:Int) == 1)=false:=by simp;omega
  go_in;go_wp2_with(go_at_call 220;refine(IT _).mono ?_;rintro e w2 ⟨⟨u,v,rfl⟩,hb2⟩);exact⟨Q,.inl ⟨rfl,⟨_,_,rfl⟩,hb2⟩⟩
 obtain⟨r,rfl⟩:∃r,ws=[r]:=by
  cases ws with
  | nil=>simp at hl
  | cons q l=>cases l with
   | nil=>exact⟨q,Q⟩
   | cons _ _=>simp at hl
 obtain⟨bk,off,q,rfl,BN,hq,c0⟩:=hA.int (k:=0) AO (Ae _ _);obtain rfl:r=q:=qsu hq.out;have JW:E w ⟨bk,off,Z⟩=I (U O r):=qsu c0;rw[show([r]:List Int).length=1 from rfl];clear hA hq c0 hl;by_cases hr:1<=r/\r<=22
 case neg=>
  have e1:AV.Tc a [r]=Z:=by show(if 1<=r/\r<=22 then _ else Z)=Z;rw[AU hr]
  rw[e1];have g2:AR r 1 22=false:=Ds hr;clear hr;go_in;go_wp2_with(first | (go_at_call 116;refine mqv (FH _ _ _ _) ?_;rw[g2]) | (go_at_call 220;refine(IT _).mono ?_;rintro e w2 ⟨⟨u,v,rfl⟩,hb2⟩));exact⟨Q,.inl ⟨rfl,⟨_,_,rfl⟩,hb2⟩⟩
 have g2:AR r 1 22=true:=Er hr;have e1:AV.Tc a [r]=I (if a.has=true then({a with ph:=2},[])else({a with ph:=3,rs:=r},[])):=by show(if 1<=r/\r<=22 then _ else Z)=_;rw[Bd hr]
 rw[e1];clear hr e1;have H8:=h.row.c 39;have f39:=h.row.fr 39;have h2:=h.bL hi 2;have f2:=h.JA 39 (U O 2);have x56:E w ⟨b,56,Z⟩=I (Av a.has):=by rw[<-h.num.has];exact h.row.c 56
 have hne:bk≠b:=fun e=>hi (h.tb.symm.trans (by rw[<-e];exact(tA _ Q).2))
 by_cases hh:a.has=true
 ·rw[hh]at x56
  rw[Bd hh];go_in;go_wp2_with(first | (go_at_call 116;refine mqv (FH _ _ _ _) ?_;rw[g2]) | (go_at_call 220;refine(FM _).mono ?_;rintro e w2 ⟨rfl,rfl⟩));go_ret;exact .inr ⟨_,rfl,DA.fin fr (Frm.refl τ w i) (Fix.refl x) f2 h2 (.inl ⟨rfl,rfl⟩) ⟨rfl,rfl,rfl⟩⟩
 ·rw[show a.has=false by simpa using hh]at x56
  rw[AU hh];have h3:=h2.bL hi 3;have h4:=h3.Aec hi r;have f4:=(f2.trans (h2.JA 39 (U O 3))).trans (h3.JA 40 (U O r));have x40:=h.row.c 40;have f40:=h.row.fr 40;clear hh h2 h3 f2;go_in;go_wp2_with(first | (go_at_call 116;refine mqv (FH _ _ _ _) ?_;rw[g2]) | (go_at_call 220;refine(FM _).mono ?_;rintro e w2 ⟨rfl,rfl⟩));go_ret;exact .inr ⟨_,rfl,DA.fin fr (Frm.refl τ w i) (Fix.refl x) f4 h4 (.inl ⟨rfl,rfl⟩) ⟨rfl,rfl,rfl⟩⟩
end
section
variable{v:An}{w1 w2:V}{x1 x2:BR}
theorem rC{W k:Nat}(hW:W=8\/W=16\/W=32)(m:List Bool):JV (W:Int) k m<4294967296:=by
 have h:∀{n},Mi W k m<2^n->n=W->Mi W k m<4294967296:=fun h e=>by
  grind
 have hw:Wd W:=by grind [Wd,Mi]
 unfold JV
 grind [Mj,Mi,Wd,fX]
def Aef{d:Nat}(h:d<4294967296):wrap64 (Go.bits BinOp.and IntKind.u64 (d:Int) 65535)=((d%65536:Nat):Int):=by
 have h1:=bits_and_u64_nat d 65535 J AC;have h2:d &&& 65535=d%65536:=Nat.and_two_pow_sub_one_eq_mod d 16;rw[show((65535:Nat):Int)=65535 from rfl]at h1;rw[h1,h2];exact Lg _ J
theorem Xs{p:Int}(h:0<=p/\p<=65535):okW p=true:=by unfold okW AR;grind
def rD{p q:Nat}(hp:p<=65535)(hq:q<=65535):([(p:Int),(q:Int)]).all okW=true:=by
 rw[List.all_cons,List.all_cons,List.all_nil,Xs J,Xs J]
 rfl
section
variable {τ:Nat→Nat} {w:V} {i b W nb mb:Nat} {x:BR} {bits:List Bool} {a:Bb}
def DA.send{k:Int}{ws:List Int}(fr:BU τ w)(f0:Frm τ τ w w1 i)(fx1:Fix x x1)(hf:Frm τ τ w1 w2 i)(hs:Bx τ w2 i b x2 W nb mb bits (a.send x1.side W bits k ws).1)(hO:Ju τ w2 v (a.send x1.side W bits k ws).2)(fx:Fix x1 x2):
  DA τ w i b W nb mb bits x ((x.z W bits).send a k ws) (AN v) w2:=by
 have e:(x.z W bits).send a k ws=a.send x1.side W bits k ws:=by unfold AV.send BR.z;rw[fx1.side]
 rw[e];exact DA.fin fr f0 fx1 hf hs hO fx
def DA.stop{r:Int}(fr:BU τ w)(f0:Frm τ τ w w1 i)(fx1:Fix x x1)(hf:Frm τ τ w1 w2 i)(hs:Bx τ w2 i b x2 W nb mb bits (a.stop x1.side W bits r).1)(hO:Ju τ w2 v (a.stop x1.side W bits r).2)(fx:Fix x1 x2):
  DA τ w i b W nb mb bits x ((x.z W bits).stop a r) (AN v) w2:=by
 have e:(x.z W bits).stop a r=a.stop x1.side W bits r:=by unfold AV.stop BR.z;rw[fx1.side]
 rw[e];exact DA.fin fr f0 fx1 hf hs hO fx
def TY(h:Bx τ w i b x W nb mb bits a):0<=((Dr W bits a.used x.side:Nat):Int)/\((Dr W bits a.used x.side:Nat):Int)<=65535:=
 ⟨J,Int.ofNat_le.2 (YN W h.pool.at_.wd bits h.pool.at_.bl a.used x.side)⟩
def Bx.setBlock(h:Bx τ w i b x W nb mb bits a)(hi:i≠0)(v:An)(l:List Bool)(hv:Imm 1 C4 τ w v l):Bx τ (Ai w ⟨b,52,Z⟩ v) i b {x with k:={x.k with block:=v}} W nb mb bits {a with block:=l}:=
 h.cell hi 52 _ Q Q Q Q ⟨h.num.last,h.num.ph,h.num.rs,h.num.wt,h.num.sh,h.num.n,h.num.t,h.num.has⟩ ⟨h.li.pulses,h.li.clicks,h.li.wait,h.li.sent,h.li.took,h.li.ledger,h.li.kept,h.li.slots,h.li.decoys,hv⟩ Q Q Q Q
def rE(h:Bx τ w i b x W nb mb bits a)(hi:i≠0)(fr:BU τ w)(ok:Gi x.s W)(L:Nat)(hL:a.last=(L:Int))(hl:1<=L/\L<=1000)(MP:Y a.ledger<=1000)(c:Cas)(m:BP)(hc:a.course=I (c,m))(hb:Y m.b<=512):
  AL AE 233 #[AI (I ⟨b,0,Z⟩)] w fun e w'=>∃p,(x.z W bits).FY a=I p/\DA τ w i b W nb mb bits x p e w':=by
 rcases h.crs with⟨h1,_⟩ | ⟨M,c1,m1,h1,hv,hM,BI,hat,hT,hR⟩
 ·rw[hc]at h1;cases h1
 obtain⟨rfl,rfl⟩:c=c1/\m=m1:=by rw[hc]at h1;simpa using h1
 have x55:E w ⟨b,55,Z⟩=I (AI (I ⟨M.g,0,Z⟩)):=qrb hv (h.row.c 55);have cF:=AbP w c m M hM;have cA:=AbR w c m M hM;have KA:1<=a.last/\a.last<=1000:=by rw[hL];omega
 clear hT hR h1;by_cases hf:m.failed=true
 ·have E1:Aj ((x.z W bits).FY a=I ((x.z W bits).stop a 22)):=F (by unfold AV.FY;rw[hc];simp only;rw[Bd hf])
  rw[hf]at cF;have cS:=SY h hi fr 22 AC KA;clear hM hv cA;go_in;go_wp2_with(go_at_call 278;refine mqv (cF) ?_);refine cS.mono ?_;rintro e Bs⟨x',v',rfl,hf,hs,hO,fx⟩;go_wp2;go_ret;exact⟨_,E1.out,DA.fin fr (Frm.refl τ w i) (Fix.refl x) hf hs hO fx⟩
 have hf':m.failed=false:=qsu hf;rw[hf']at cF;by_cases ho:m.opn=true
 ·obtain⟨hval,_⟩:=hat.2 ho
  have hq:m.next.pass<=6/\m.next.fr<=512/\m.next.BG<=512:=by
   have h1:=BI.P;have h2:=BI.n;obtain⟨v1,v2,v3⟩:=hval;omega
  have E1:Aj ((x.z W bits).FY a=I ((x.z W bits).send {a with wait:=[7]} 6 [(m.next.pass:Int),m.next.fr,m.next.BG])):=F (by unfold AV.FY;rw[hc];simp only;rw[AU hf,Bd ho]);rw[ho]at cA;clear hM hv hat hf;go_in;go_upto_region 5 with(first | (go_at_call 278;refine mqv (cF) ?_) | (go_at_call 279;refine gqz cA fun w2 hb2=>?_))
  obtain⟨p0,Ql⟩:∃p:Int,(m.next.pass:Int)=p:=⟨_,Q⟩
  obtain⟨p1,Gy⟩:∃p:Int,(m.next.fr:Int)=p:=⟨_,Q⟩
  obtain⟨p2,Nf⟩:∃p:Int,(m.next.BG:Int)=p:=⟨_,Q⟩
  have hr3:(0<=p0/\p0<=512)/\(0<=p1/\p1<=512)/\0<=p2/\p2<=512:=J;rw[Ql,Gy,Nf]at E1 ⊢;have b3:=AB hb2 (N #[U O p0,U O p1,U O p2] 245);have k0:E (Ao w2 (N #[U O p0,U O p1,U O p2] 245)) ⟨w2,0,Z⟩=I (U O p0):=Cb Q;have k1:E (Ao w2 (N #[U O p0,U O p1,U O p2] 245)) ⟨w2,1,Z⟩=I (U O p1):=Cb Q;have k2:E (Ao w2 (N #[U O p0,U O p1,U O p2] 245)) ⟨w2,2,Z⟩=I (U O p2):=Cb Q;obtain⟨w3,hw3⟩:=Az (Ao w2 (N #[U O p0,U O p1,U O p2] 245));obtain⟨B,hB⟩:=Az (w2.heap.size);rw[hw3]at b3 k0 k1 k2 ⊢;rw[hB]at k0 k1 k2 ⊢;have h3:=h.on b3;have Gz:=fr.on b3.size;obtain⟨Sf,Sg,h4,f4⟩:=h3.wait hi Gz #[U O 7] 3 [7] Q AC;simp only[List.length_cons,List.length_nil,Nat.zero_add]at h4 f4
  have iA:b≠B:=fun e=>by
   have:=(Bm.1 h.row).1;have:=hb2.size;omega
  clear cF cA Ql Gy Nf hq hval hw3 hB x55 hb2 BI;go_upto_region 6 with fail;have m0:E (Ai (Ao w3 (N #[U O 7] 3)) ⟨b,43,Z⟩ (R (I ⟨w3,0,Z⟩) 1 1)) ⟨B,0,Z⟩=I (U O p0):=(Fx (Fd _ _ _ _ (Ne.symm iA))).trans (AK (AB (Ae _ _) _) k0);have m1:E (Ai (Ao w3 (N #[U O 7] 3)) ⟨b,43,Z⟩ (R (I ⟨w3,0,Z⟩) 1 1)) ⟨B,1,Z⟩=I (U O p1):=(Fx (Fd _ _ _ _ (Ne.symm iA))).trans (AK (AB (Ae _ _) _) k1);have m2:E (Ai (Ao w3 (N #[U O 7] 3)) ⟨b,43,Z⟩ (R (I ⟨w3,0,Z⟩) 1 1)) ⟨B,2,Z⟩=I (U O p2):=(Fx (Fd _ _ _ _ (Ne.symm iA))).trans (AK (AB (Ae _ _) _) k2);obtain⟨w4,hw4⟩:=Az (Ai (Ao w3 (N #[U O 7] 3)) ⟨b,43,Z⟩ (R (I ⟨w3,0,Z⟩) 1 1));rw[hw4]at h4 f4 m0 m1 m2 ⊢;have f04:=(Frm.of (τ:=τ) (i:=i) b3).trans f4;have JB:=fr.on f04.out.size;have im:=Imm.lit JB #[U O p0,U O p1,U O p2] 3 [p0,p1,p2] Q AO;simp only[List.length_cons,List.length_nil,Nat.zero_add]at im;have b5:=AB (Ae w4 w4) (N #[U O p0,U O p1,U O p2] 3);have cS:=Qx (h4.on b5) hi (JB.on b5.size) 6 _ [p0,p1,p2] im (Qy KA AC (TY h4) AO) (by simp[okW,AR];omega);clear hw4 Sf Sg h3 h4 f4 im k0 k1 k2;go_wp2_with fail;refine cS.mono ?_;rintro e Bs⟨x',v',rfl,hf,hs,hO,fx⟩;go_wp2;go_ret;exact⟨_,E1.out,DA.fin fr (f04.trans (Frm.of b5)) (Fix.refl x) hf hs hO ⟨fx.s,fx.side,fx.pool⟩⟩
 have ho':m.opn=false:=qsu ho;rw[ho']at cA
 have E1:Aj ((x.z W bits).FY a=I ((x.z W bits).send {({a with block:=m.b}:Bb).enter 3 (W:Int)with wait:=[9]} 8 [((JV (W:Int) (MM x.s.seed L W) m.b / 65536:Nat):Int),((JV (W:Int) (MM x.s.seed L W) m.b%65536:Nat):Int)])):=F (by
  unfold AV.FY;rw[hc];simp only;rw[AU hf,AU ho,show(x.z W bits).s.width=(W:Int)from ok.wd,hL]
  rfl)
 have cB:=qbw w fun y hy=>AbS y c m M (hM.on hy) J
 clear hM hv hat hf BI;go_in;go_upto_region 7 with(first | (go_at_call 278;refine mqv (cF) ?_) | (go_at_call 279;refine gqz cA fun w2 hb2=>?_))
 have b3:=AB hb2 (N m.next 245);obtain⟨w3,hw3⟩:=Az (Ao w2 (N m.next 245));rw[hw3]at b3 ⊢;have h3:=h.on b3;have Gz:=fr.on b3.size;have y55:=AK b3 x55;have cB3:=cB w3 b3;clear cF cA hw3 hb2 x55 cB;go_wp2_with fail;refine cB3.mono ?_;rintro e w4⟨v4,rfl,JC,hb4⟩;have LH:=JC.imm Dk (fun k hk=>Gz k hk);obtain⟨A4,c4,rfl,l4,m4,n4,Qn⟩:=JC.form Dk;have h4:=h3.on hb4;have KW:=h4.row.c 52;have z52:=h4.row.fr 52;have f5:=h4.JA 52 (R A4 (Y m.b) c4);have h5:=h4.setBlock hi (R A4 (Y m.b) c4) m.b LH;go_upto_region 8 with fail;obtain⟨w5,Ct⟩:=Az (Ai w4 ⟨b,52,Z⟩ (R A4 (Y m.b) c4));rw[Ct]at f5 h5 ⊢;have f05:=(Frm.of (b3.trans (hb4.mono b3.size))).trans f5;have Is:=fr.on f05.out.size;have Pm:E w5 ⟨b,31,Z⟩=I (U O W):=by rw[<-ok.wd];exact h5.row.c 31
 have cE:=bJ h5 hi Is MP 3 (W:Int);clear Ct KW z52 h4 h3 cB3 y55 JC LH Qn f5;go_wp2_with fail;refine cE.mono ?_;rintro e w6⟨rfl,x6,f6,h6,Fs⟩;have f06:=f05.trans f6;clear cE Pm h5 f05 f6 Is;obtain⟨a6,Sh⟩:=Az (({a with block:=m.b}:Bb).enter 3 (W:Int));have bl6:a6.block=m.b:=by rw[<-Sh];unfold Bb.enter;split <;> rfl
 have ls6:a6.last=(L:Int):=by rw[<-Sh,<-hL];unfold Bb.enter;split <;> rfl
 rw[Sh]at h6 E1;have ok6:=Fs.s▸ok;have es6:x6.s.seed=x.s.seed:=by rw[Fs.s]
 go_upto_region 9 with fail;obtain⟨A7,c7,PS,l7,m7,n7,ND,tg7⟩:=h6.li.block;rw[bl6]at PS l7 ND;have Pm:E w6 ⟨b,31,Z⟩=I (U O W):=by rw[<-ok6.wd];exact h6.row.c 31
 have KW:E w6 ⟨b,52,Z⟩=I (R A7 (Y m.b) c7):=qrb PS (h6.row.c 52);have cP:=Z2 (h6.on (Ae _ _).drew) L ls6 hl.2 ok6.wd ok6.sd;rw[es6]at cP;obtain⟨g0,hg0⟩:=Az (RZ x.s.seed L);obtain⟨g1,ER⟩:=Az (Ph x.s.seed L);obtain⟨g2,hg2⟩:=Az (MM x.s.seed L W);obtain⟨g3,hg3⟩:=Az (TR x.s.seed L);rw[hg0,ER,hg2,hg3]at cP;rw[hg2]at E1;obtain⟨d,hd⟩:=Az (JV (W:Int) g2 m.b);have Aeg:d<4294967296:=by rw[<-hd];exact rC h.pool.at_.wd _
 have cD:=qbw w6 fun y hy=>nr (W:Int) g2 A7 c7 m.b y (ND.on hy) l7 m7
 obtain⟨ed,hed⟩:=Az (Ny (W:Int) g2 m.b);simp only[hd,hed]at cD;rw[hd]at E1;clear hg0 ER hg2 hg3 hd hed ND;have F2:=rA g0 g1 g2 g3;have L31:=qbc Pm;have Si:=qbc KW;refine qrh w6 (Ae _ _).drew fun hHeld=>?_
 refine tQ4 0 ?_;refine tQ2 4 ?_;refine tQ4 8 ?_;refine tQ 12 ?_;refine url 6 (fun KU Bc=>?_);go_simp;refine gqz cP fun w7 QT=>?_;have Cl:=AH (Ae w6 w6).drew QT;refine Bc.out _ _ Cl (fun _=>?_);refine zp ?_;refine tQ 7 ?_;refine url 13 (fun KU Bc=>?_);go_simp;refine gqz (cD _ Cl) fun w8 Z3=>?_;have Cv:=AH Cl Z3;refine Bc.out _ _ (Cv) (fun _=>?_);refine zp ?_;refine tQ4 14 ?_;refine tQ 18 ?_;refine Ce ?_;have h8:=h6.on Cv;have f08:=f06.trans (Frm.of Cv);have Ki:=fr.on f08.out.size;obtain⟨Sf,Sg,h9,f9⟩:=h8.wait hi Ki #[U O 9] 3 [9] Q AC;simp only[List.length_cons,List.length_nil,Nat.zero_add]at h9 f9;clear cP cD L31 Si F2 Pm KW h6 Cl QT Cv Z3;go_upto_region 11 with fail;obtain⟨w9,RB⟩:=Az (Ai (Ao w8 (N #[U O 9] 3)) ⟨b,43,Z⟩ (R (I ⟨w8,0,Z⟩) 1 1));rw[RB]at h9 f9 ⊢;have f09:=f08.trans f9;have Ek:=fr.on f09.out.size;obtain⟨p0,Ql⟩:∃p:Nat,d / 65536=p:=⟨_,Q⟩
 obtain⟨p1,Gy⟩:∃p:Nat,d%65536=p:=⟨_,Q⟩
 have hr2:p0<=65535/\p1<=65535:=J;have u0:(d:Int) / 65536=(p0:Int):=by rw[<-Ql];rfl
 have u1:wrap64 (Go.bits BinOp.and IntKind.u64 (d:Int) 65535)=(p1:Int):=qrb Gy (Aef Aeg);rw[Ql,Gy]at E1;have im:=Imm.lit Ek #[U O p0,U O p1] 3 [(p0:Int),(p1:Int)] Q AO;simp only[List.length_cons,List.length_nil,Nat.zero_add]at im;have Jj:=AB (Ae w9 w9) (N #[U O p0,U O p1] 3);have Z4:1<=a6.last/\a6.last<=1000:=by rw[ls6];omega
 have cS:=Qx (h9.on Jj) hi (Ek.on Jj.size) 8 _ [(p0:Int),(p1:Int)] im (Qy Z4 AC (TY h9) (Fg Q)) (rD hr2.1 hr2.2);clear RB Sf Sg h8 h9 f9 im Ql Gy;go_wp2_with fail;refine cS.mono ?_;rintro e FW⟨x',v',rfl,hf,hs,hO,fx⟩;go_wp2;go_ret;exact⟨_,E1.out,DA.send fr (f09.trans (Frm.of Jj)) (x1:=x6) ⟨Fs.s,Fs.side,Fs.pool⟩ hf hs hO ⟨fx.s,fx.side,fx.pool⟩⟩
end
end
section
variable {τ:Nat→Nat} {w w':V} {i b W nb mb:Nat} {x:BR} {bits:List Bool} {a:Bb}
theorem Bx.told(h:Bx τ w i b x W nb mb bits a)(hi:i≠0)(fr:BU τ w){c:Cas}{m m':BP}{M:Mem}{tv:An}(hv:x.k.course=AI (I ⟨M.g,0,Z⟩))(hM:Cj w c m M)(BI:c.Ok)(hT:∀k,M.T k->τ k=i/\k≠b/\k≠mb/\x.recs.ownBlock≠I k)(hR:∀k,M.lo<=k->k<M.hi->τ k=0)
  (hM':Cj w' c m' {M with tv:=tv}) (hO:AT M.T w w') (hat:c.at .stop m') (ST:∀k,tv.ownBlock=I k->M.tv.ownBlock=I k\/w.heap.size<=k):
  ∃τ',Frm τ τ' w w' i/\BU τ' w'/\Bx τ' w' i b x W nb mb bits {a with course:=I (c,m')}:=by
 have hbl:=(Bm.1 h.row).1;have Pn:=h.pool.at_.us.lt
 have hrl:∀k,x.recs.ownBlock=I k->k<↑w:=fun k hk=>by
  obtain⟨rv,h1,_⟩:=h.recs;exact(Cp h1 k hk).2
 have tvl:∀k,tv.ownBlock=I k->k<↑w':=fun k hk=>(Cp hM'.tv k hk).2
 obtain⟨S,hS⟩:∃S:Nat->Prop,S=fun k=>tv.ownBlock=I k/\w.heap.size<=k:=⟨_,Q⟩
 have IU:∀k,k<↑w->Fh τ S i k=τ k:=fun k hk=>JY (fun e=>by grind)
 have hk:Kp τ (Fh τ S i) w w' M.T:=⟨hO,IU,fun k hk e=>hi ((hT k hk).1.symm.trans e)⟩
 have hf:Frm τ (Fh τ S i) w w' i:=⟨hO.mono (fun k _ hk=>(hT k hk).1),IU⟩
 refine⟨Fh τ S i,hf,fun k GT=>?_,?_⟩
 ·rw[JY (fun e=>by grind)]
  exact fr k (Br hO.size GT)
 ·refine⟨hO.row h.row (fun e=>(hT b e).2.1 Q),(IU b hbl).trans h.tb,h.mbb,⟨h.num.last,h.num.ph,h.num.rs,h.num.wt,h.num.sh,h.num.n,h.num.t,h.num.has⟩,h.eps.keep hk,h.lim.keep hk,?_,?_,h.pool.keep hk (fun e=>(hT mb e).2.2.1 Q),h.recs.keep hk (fun k hk e=>(hT k e).2.2.2 hk),h.rb⟩
  ·have:=h.li.keep hk
   exact⟨this.pulses,this.clicks,this.wait,this.sent,this.took,this.ledger,this.kept,this.slots,this.decoys,this.block⟩
  ·refine .inr ⟨{M with tv:=tv},c,m',rfl,hv,hM',BI,hat,fun k hk2=>?_,fun k h1 h2=>?_⟩
   ·grind [Fh,BU,Mem.T,Cas.at]
   ·exact(IU k (Ck h2 hM.rows.hi)).trans (hR k h1 h2)
theorem Bx.fresh(h:Bx τ w i b x W nb mb bits a)(hi:i≠0)(fr:BU τ w){c:Cas}{m:BP}{M:Mem}(hb:Ag w w w')(hM:Cj w' c m M)(BI:c.Ok)(hat:c.at .stop m)(hT:∀k,M.T k->w.heap.size<=k)(hlo:↑w<=M.lo):
  ∃τ',Frm τ τ' w (Ai w' ⟨b,55,Z⟩ (AI (I ⟨M.g,0,Z⟩))) i/\BU τ' (Ai w' ⟨b,55,Z⟩ (AI (I ⟨M.g,0,Z⟩)))/\
   Bx τ' (Ai w' ⟨b,55,Z⟩ (AI (I ⟨M.g,0,Z⟩))) i b {x with k:={x.k with course:= AI (I ⟨M.g,0,Z⟩)}} W nb mb bits {a with course:=I (c,m)}:=by
 have hbl:=(Bm.1 h.row).1;have Pn:=h.pool.at_.us.lt
 have hrl:∀k,x.recs.ownBlock=I k->k<↑w:=fun k hk=>by
  obtain⟨rv,h1,_⟩:=h.recs;exact(Cp h1 k hk).2
 have IU:∀k,k<↑w->Fh τ M.T i k=τ k:=fun k hk=>JY (fun e=>by grind)
 have ho:AT (fun k=>k=b) w' (Ai w' ⟨b,55,Z⟩ (AI (I ⟨M.g,0,Z⟩))):=AT.set (S:=fun k=>k=b) Q;have hO:=(AT.of hb).trans ho;have Te:Cu (Ai w' ⟨b,55,Z⟩ (AI (I ⟨M.g,0,Z⟩))) b {x with k:={x.k with course:= AI (I ⟨M.g,0,Z⟩)}}:=(h.row.on hb).set 55 _ Q;have nT:∀k,M.T k->k≠b:=fun k hk e=>by grind
 have hM2:=hM.keep ho (nT _ (.inl Q)) (nT _ (.inr (.inr (.inl Q)))) (fun k hk=>nT k (.inr (.inl hk))) (fun k hk=>nT k (.inr (.inr (.inr hk)))) (fun k hk=>by subst hk;exact .inl J);obtain⟨w2,hw2⟩:=Az (Ai w' ⟨b,55,Z⟩ (AI (I ⟨M.g,0,Z⟩)));rw[hw2]at hO Te hM2 ⊢;have hk:Kp τ (Fh τ M.T i) w w2 (fun k=>k=b):=⟨hO,IU,fun k hk e=>hi (by rw[<-e,hk,h.tb])⟩
 refine⟨Fh τ M.T i,⟨hO.mono (fun k _ hk=>by rw[hk];exact h.tb),IU⟩,fun k GT=>?_,?_⟩
 ·rw[JY (fun e=>by have:=(hM2.aM e).2;omega)]
  exact fr k (Br hO.size GT)
 ·refine⟨Te,(IU b hbl).trans h.tb,h.mbb,⟨h.num.last,h.num.ph,h.num.rs,h.num.wt,h.num.sh,h.num.n,h.num.t,h.num.has⟩,h.eps.keep hk,h.lim.keep hk,?_,?_,h.pool.keep hk h.mbb,h.recs.keep hk (fun k hk=>(h.rb k hk).1),h.rb⟩
  ·have:=h.li.keep hk
   exact⟨this.pulses,this.clicks,this.wait,this.sent,this.took,this.ledger,this.kept,this.slots,this.decoys,this.block⟩
  ·refine .inr ⟨M,c,m,rfl,rfl,hM2,BI,hat,fun k hk2=>⟨US hk2,?_⟩,fun k h1 h2=>?_⟩
   ·grind
   ·rw[JY (fun e=>?_)]
    ·exact fr k (Br hlo h1)
    ·have UM:M.off k:=by
      rcases e with rfl | e | rfl | e
      ·exact hM2.og
      ·exact hM2.obv _ e
      ·exact hM2.om
      ·exact hM2.otv _ e
     rcases UM with h3 | h3 <;> omega
def DA.on{w1 w2:V}{τ1:Nat->Nat}{x1:BR}{r:Bb × List Lt}{e:Ending}(fr:BU τ w)(f0:Frm τ τ1 w w1 i)(fx1:Fix x x1)(h:DA τ1 w1 i b W nb mb bits x1 r e w2):DA τ w i b W nb mb bits x r e w2:=by
 obtain⟨τ2,x2,v,rfl,f2,Ej,h2,o2,fx2⟩:=h;exact⟨τ2,x2,v,Q,f0.trans f2,Ej,h2,o2,⟨fx2.s.trans fx1.s,fx2.side.trans fx1.side,fx2.pool.trans fx1.pool⟩⟩
theorem rF{l:List C8}{k n:Int}(h:CF l=0)(he:(Fk l k n).e=0):CF (Fk l k n).l=0:=by
 grind [CF,Ent.l,Fk,Ent.e,lU,lV,Aei]
theorem rG(h:CF a.ledger=0)(k n:Int):CF (a.enter k n).ledger=0:=by
 grind [CF,Bb.enter,rF]
theorem Aej(h:CF a.ledger=0)(k n:Int):(a.enter k n).ledger.length<=1000:=by
 grind [Bb.enter,CF,Ns,rF]
theorem Aek{z:AV}{ws:List Int}(h:Y ws≠1):z.Sa a ws=Z:=by
 unfold AV.Sa
 grind
def Ael(h:Bx τ w i b x W nb mb bits a)(hi:i≠0)(fr:BU τ w)(ok:Gi x.s W)(L:Nat)(hL:a.last=(L:Int))(hl:1<=L/\L<=1000)(MP:CF a.ledger=0)(c:Cas)(m:BP)(hc:a.course=I (c,m))(ho:m.opn=true)
  (A:Option AS) (k:Nat) (ws:List Int) (hv:Imm 1 BD τ w (R A (Y ws) k) ws) (hw:ws.all okW=true):
  AL AE 202 #[AI (I ⟨b,0,Z⟩),R A (Y ws) k] w fun e w'=>QD τ w i b W nb mb bits x ((x.z W bits).Sa a ws) e w':=by
 by_cases h1:Y ws=1
 case neg=>
  rw[Aek h1];have g1:((Y ws:Int) == 1)=false:=by simp;omega
  go_in;go_wp2_with(go_at_call 220;refine(IT _).mono ?_;rintro e w2 ⟨⟨u,v,rfl⟩,hb2⟩);exact⟨Q,.inl ⟨rfl,⟨_,_,rfl⟩,hb2⟩⟩
 obtain⟨q,rfl⟩:∃q,ws=[q]:=by
  cases ws with
  | nil=>simp at h1
  | cons q l=>cases l with
   | nil=>exact⟨q,Q⟩
   | cons _ _=>simp at h1
 obtain⟨A',c',MO,_,_,_,hA,tA⟩:=hv;cases MO;obtain⟨bk,off,q',rfl,BN,hq,c0⟩:=hA.int (k:=0) AO (Ae _ _);obtain rfl:q=q':=qsu hq.out;have JW:E w ⟨bk,off,Z⟩=I (U O q):=qsu c0;have hb0:τ bk=0:=(tA _ Q).2;rw[show([q]:List Int).length=1 from rfl];clear hA hq c0 h1 hw;by_cases CT:q<=1
 case neg=>
  have e1:(x.z W bits).Sa a [q]=Z:=by show(if q<=1 then _ else Z)=Z;rw[AU CT]
  rw[e1];have g2:=Ds CT;clear CT;go_in;go_wp2_with(go_at_call 220;refine(IT _).mono ?_;rintro e w2 ⟨⟨u,v,rfl⟩,hb2⟩);exact⟨Q,.inl ⟨rfl,⟨_,_,rfl⟩,hb2⟩⟩
 have E1:Aj ((x.z W bits).Sa a [q]=(x.z W bits).FY ((a.enter 1 1).tell (q == 1))):=F (by show(if q<=1 then _ else Z)=_;rw[Bd CT]);have g2:=Er CT;have cE:=bJ h hi fr (Ns.1 MP).1 1 1;go_in;go_wp2_with(first | (go_at_call 220;refine(FM _).mono ?_;rintro e w2 ⟨rfl,rfl⟩) | (go_at_call 235;refine cE.mono ?_;rintro e w3 ⟨rfl,x3,f3,h3,fx3⟩));have hc3:(a.enter 1 1).course=I (c,m):=by rw[<-hc];unfold Bb.enter;split <;> rfl
 have hL3:(a.enter 1 1).last=(L:Int):=by rw[<-hL];unfold Bb.enter;split <;> rfl
 have hd3:=Aej MP 1 1;obtain⟨a3,ha3⟩:=Az (a.enter 1 1);rw[ha3]at h3 hc3 hL3 hd3 E1;rcases h3.crs with⟨h9,_⟩ | ⟨M,c1,m1,h9,hv3,hM,BI,hat,hT,hR⟩
 ·rw[hc3]at h9;cases h9
 obtain⟨rfl,rfl⟩:c=c1/\m=m1:=by rw[hc3]at h9;simpa using h9
 have y55:E w3 ⟨b,55,Z⟩=I (AI (I ⟨M.g,0,Z⟩)):=qrb hv3 (h3.row.c 55);have yq:=f3.out.cell JW (fun e=>hi (e.symm.trans hb0));have Gz:=fr.on f3.out.size;have nb3:¬M.T b:=fun e=>(hT b e).2.1 Q
 have nk3:¬M.T bk:=fun e=>hi ((hT bk e).1.symm.trans hb0)
 obtain⟨t,ht⟩:∃t:Bool,(q == 1)=t:=⟨_,Q⟩
 have cT:=Abz c m M t w3.drew (hM.on (Ae _ _).drew) BI hat ho;rw[ht]at E1
 have Oq:∀t,(c.tell m t).b.length<=512:=fun t=>by
  have h5:=(Cas.gx BI hat ho t).1.1.len;have h6:=BI.n;omega
 have Aem:=(Cas.gx BI hat ho t).1;have HM:=F hM;clear hat hM JW g2 cE h9 CT;refine Fz (S:=fun w'=>E w' ⟨b,55,Z⟩=I (AI (I ⟨M.g,0,Z⟩))/\E w' ⟨bk,off,Z⟩=I (U O q)) AG ⟨y55,yq⟩ (fun hHeld=>?_);have S0:E w3.drew ⟨b,55,Z⟩=I (AI (I ⟨M.g,0,Z⟩))/\E w3.drew ⟨bk,off,Z⟩=I (U O q):=⟨y55,yq⟩
 refine tQ4 0 ?_;refine tQ4 4 ?_;refine tQ 8 ?_;refine url 9 (fun KU Bc=>?_);go_simp;refine cT.mono ?_;rintro e w4⟨rfl,tv,hM4,hO4,ST⟩;refine Bc.out _ _ ⟨hO4.cell S0.1 nb3,hO4.cell S0.2 nk3⟩ (fun _=>?_);refine zp ?_;refine Ce ?_;obtain⟨τ4,f4,JB,h4⟩:=h3.told hi Gz hv3 HM.out BI hT hR hM4 ((AT.of (Ae w3 w3).drew).trans hO4) Aem ST
 have E2:Aj ((x.z W bits).Sa a [q]=(x3.z W bits).FY {a3 with course:=I (c,c.tell m t)}):=F (by
  rw[E1.out];have e2:a3.tell t={a3 with course:=I (c,c.tell m t)}:=by unfold Bb.tell;rw[hc3]
  rw[e2];unfold BR.z;rw[fx3.s,fx3.side])
 have cG:=rE h4 hi JB (fx3.s▸ok) L hL3 hl hd3 c (c.tell m t) Q (Oq t);clear S0 y55 yq cT hM4 hO4 ST E1 hHeld;go_wp2_with fail;refine cG.mono ?_;rintro e w5⟨p,hp,hD⟩;obtain⟨τ5,x5,v5,rfl,hD2⟩:=hD;go_wp2;go_ret;exact .inr ⟨p,E2.out.trans hp,DA.on fr (f3.trans f4) fx3 ⟨τ5,x5,v5,rfl,hD2⟩⟩
end
section
variable {τ:Nat→Nat} {w w':V} {i b W nb mb:Nat} {x:BR} {bits:List Bool} {a:Bb}
theorem Aen{z:AV}{ws:List Int}(h:Y ws≠2):z.QC a ws=Z:=by
 unfold AV.QC
 grind
def Bx.iC(h:Bx τ w i b x W nb mb bits a)(hi:i≠0)(p:Int):Bx τ (Ai w ⟨b,53,Z⟩ (U O p)) i b {x with k:={x.k with n:=p}} W nb mb bits {a with n:=p}:=
 h.cell hi 53 _ Q Q Q Q ⟨h.num.last,h.num.ph,h.num.rs,h.num.wt,h.num.sh,rfl,h.num.t,h.num.has⟩ ⟨h.li.pulses,h.li.clicks,h.li.wait,h.li.sent,h.li.took,h.li.ledger,h.li.kept,h.li.slots,h.li.decoys,h.li.block⟩ Q Q Q Q
def Bx.rH(h:Bx τ w i b x W nb mb bits a)(hi:i≠0)(p:Int):Bx τ (Ai w ⟨b,54,Z⟩ (U O p)) i b {x with k:={x.k with t:=p}} W nb mb bits {a with t:=p}:=
 h.cell hi 54 _ Q Q Q Q ⟨h.num.last,h.num.ph,h.num.rs,h.num.wt,h.num.sh,h.num.n,rfl,h.num.has⟩ ⟨h.li.pulses,h.li.clicks,h.li.wait,h.li.sent,h.li.took,h.li.ledger,h.li.kept,h.li.slots,h.li.decoys,h.li.block⟩ Q Q Q Q
theorem rI{ws:List Int}(h:Y ws=2):∃p q,ws=[p,q]:=by
 cases ws with
 | nil=>simp at h
 | cons p l=>cases l with
  | nil=>simp at h
  | cons q l=>grind
def Aeo(h:Bx τ w i b x W nb mb bits a)(hi:i≠0)(fr:BU τ w)(ok:Gi x.s W)(L:Nat)(hL:a.last=(L:Int))(hl:1<=L/\L<=1000)(MP:CF a.ledger=0)(hbl:Y a.block<=512)
  (A:Option AS) (k:Nat) (ws:List Int) (hv:Imm 1 BD τ w (R A (Y ws) k) ws) (hw:ws.all okW=true):
  AL AE 200 #[AI (I ⟨b,0,Z⟩),R A (Y ws) k] w fun e w'=>QD τ w i b W nb mb bits x ((x.z W bits).QC a ws) e w':=by
 by_cases h1:Y ws=2
 case neg=>
  rw[Aen h1];have g1:((Y ws:Int) == 2)=false:=by simp;omega
  go_in;go_upto_region 1 with fail;have S0:=(Ae w w).drew;refine qrh w S0 fun hHeld=>?_
  refine tQ4 0 ?_;refine oQ4 4 ?_;refine oQ4 8 ?_;refine oQ2 12 ?_;refine tQ2 14 ?_;refine oQ4 16 ?_;refine oQ4 20 ?_;refine oQ2 24 ?_;refine tQ 26 ?_;refine url 27 (fun KU Bc=>?_);go_simp;refine(IT _).mono ?_;rintro e w2⟨⟨u,v,rfl⟩,hb2⟩;exact⟨Q,.inl ⟨rfl,⟨_,_,rfl⟩,(Ae w w).drew.trans hb2⟩⟩
 obtain⟨p,q,rfl⟩:=rI h1;obtain⟨A',c',MO,_,_,_,hA,tA⟩:=hv;cases MO;obtain⟨bk,off,p',rfl,BN,hp,c0⟩:=hA.int (k:=0) AO (Ae _ _);obtain rfl:p=p':=qsu hp.out;obtain⟨bk',ZT,q',he,il,hq,c1⟩:=hA.int (k:=1) AO (Ae _ _);obtain rfl:q=q':=qsu hq.out;cases he;have JW:E w ⟨bk,off,Z⟩=I (U O p):=qsu c0;have hne:bk≠b:=fun e=>hi (h.tb.symm.trans (by rw[<-e];exact(tA _ Q).2))
 rw[show([p,q]:List Int).length=2 from rfl];obtain⟨Ab,cb,FU,lb,Fi,FC,arb,tgb⟩:=h.li.block;have Po:E w ⟨b,52,Z⟩=I (R Ab (Y a.block) cb):=qrb FU (h.row.c 52);clear hA hq hp c0 h1 hw il;by_cases Gy:p<=Y a.block
 case neg=>
  have e1:(x.z W bits).QC a [p,q]=Z:=by show(if p<=Y a.block/\q<=Y a.block then _ else Z)=Z;rw[AU (fun e=>Gy e.1)]
  rw[e1];have g2:=Ds Gy;clear Gy;go_in;go_upto_region 1 with fail;have Si:=qbc Po;have Lp:=qbc JW;have Lq:=qbc c1;have S0:=(Ae w w).drew;refine qrh w S0 fun hHeld=>?_
  refine tQ4 0 ?_;refine tQ4 4 ?_;refine tQ4 8 ?_;refine tQ4 12 ?_;refine oQ4 16 ?_;refine oQ4 20 ?_;refine oQ2 24 ?_;refine tQ 26 ?_;refine url 27 (fun KU Bc=>?_);go_simp;refine(IT _).mono ?_;rintro e w2⟨⟨u,v,rfl⟩,hb2⟩;exact⟨Q,.inl ⟨rfl,⟨_,_,rfl⟩,(Ae w w).drew.trans hb2⟩⟩
 have g2:=Er Gy;by_cases CT:q<=Y a.block
 case neg=>
  have e1:(x.z W bits).QC a [p,q]=Z:=by show(if p<=Y a.block/\q<=Y a.block then _ else Z)=Z;rw[AU (fun e=>CT e.2)]
  rw[e1];have g3:=Ds CT;clear Gy CT;go_in;go_upto_region 1 with fail;have Si:=qbc Po;have Lp:=qbc JW;have Lq:=qbc c1;have S0:=(Ae w w).drew;refine qrh w S0 fun hHeld=>?_
  refine tQ4 0 ?_;refine tQ4 4 ?_;refine tQ4 8 ?_;refine tQ4 12 ?_;refine tQ4 16 ?_;refine tQ4 20 ?_;refine tQ2 24 ?_;refine tQ 26 ?_;refine url 27 (fun KU Bc=>?_);go_simp;refine(IT _).mono ?_;rintro e w2⟨⟨u,v,rfl⟩,hb2⟩;exact⟨Q,.inl ⟨rfl,⟨_,_,rfl⟩,(Ae w w).drew.trans hb2⟩⟩
 have g3:=Er CT;have E1:Aj ((x.z W bits).QC a [p,q]=(x.z W bits).FY {a with n:=p,t:=q,course:=I ((x.z W bits).Pi a,((x.z W bits).Pi a).new a.block)}):=F (by show(if p<=Y a.block/\q<=Y a.block then _ else Z)=_;rw[Bd ⟨Gy,CT⟩]);clear Gy CT;go_in;go_upto_region 1 with fail;have S0:=(Ae w w).drew;have Si:=qbc Po;have Lp:=qbc JW;have Lq:=qbc c1;refine qrh w S0 fun hHeld=>?_
 refine tQ4 0 ?_;refine tQ4 4 ?_;refine tQ4 8 ?_;refine tQ4 12 ?_;refine tQ4 16 ?_;refine tQ4 20 ?_;refine tQ2 24 ?_;refine tQ 26 ?_;refine url 27 (fun KU Bc=>?_);go_simp;refine(FM _).mono ?_;rintro e w2⟨rfl,rfl⟩;refine Bc.out _ _ S0 (fun _=>?_);refine zp ?_;refine Ce ?_;clear Si Lp Lq hHeld g2 g3;have h2:=h.on S0;obtain⟨w2,hw2⟩:=Az (w.drew);rw[hw2]at S0 h2 ⊢;have y0:=AK S0 JW;have y1:=AK S0 c1;go_upto_region 2 with fail;have b2:=S0.drew;have h3:=h2.on (Ae w2 w2).drew;have Pp:E w2 ⟨b,53,Z⟩=I (U O x.k.n):=h2.row.c 53;have f53:=h2.row.fr 53;have h4:=h3.iC hi p;have Pq:E w2 ⟨b,54,Z⟩=I (U O x.k.t):=h2.row.c 54;have f54:=h2.row.fr 54;have h5:=h4.rH hi q;have f45:=((Frm.of (τ:=τ) (i:=i) b2).trans (h3.JA 53 (U O p))).trans (h4.JA 54 (U O q));have P2:E w2.drew ⟨bk,off,Z⟩=I (U O p)/\E w2.drew ⟨bk,off+1,Z⟩=I (U O q):=⟨y0,y1⟩
 have P3:E (Ai w2.drew ⟨b,53,Z⟩ (U O p)) ⟨bk,off,Z⟩=I (U O p)/\E (Ai w2.drew ⟨b,53,Z⟩ (U O p)) ⟨bk,off+1,Z⟩=I (U O q):=
  ⟨(Fx (a:=⟨bk,off,Z⟩) (Fd w2.drew ⟨b,53,Z⟩ (U O p) bk hne)).trans y0,(Fx (a:=⟨bk,off+1,Z⟩) (Fd w2.drew ⟨b,53,Z⟩ (U O p) bk hne)).trans y1⟩
 have P4:E (Ai (Ai w2.drew ⟨b,53,Z⟩ (U O p)) ⟨b,54,Z⟩ (U O q)) ⟨bk,off,Z⟩=I (U O p)/\E (Ai (Ai w2.drew ⟨b,53,Z⟩ (U O p)) ⟨b,54,Z⟩ (U O q)) ⟨bk,off+1,Z⟩=I (U O q):=
  ⟨(Fx (a:=⟨bk,off,Z⟩) (Fd _ ⟨b,54,Z⟩ (U O q) bk hne)).trans P3.1,(Fx (a:=⟨bk,off+1,Z⟩) (Fd _ ⟨b,54,Z⟩ (U O q) bk hne)).trans P3.2⟩
 refine Fz (S:=fun w'=>E w' ⟨bk,off,Z⟩=I (U O p)/\E w' ⟨bk,off+1,Z⟩=I (U O q)) AG P2 (fun hHeld=>?_);refine tQ4 0 ?_;refine tQ4 4 ?_;refine tQ2 8 ?_;refine tQ 10 ?_;refine url 11 (fun KU Bc=>?_);go_simp;refine Bc.out _ _ P3 (fun _=>?_);refine zp ?_;refine tQ2 12 ?_;refine tQ 14 ?_;refine url 15 (fun KU Bc=>?_);go_simp;refine Bc.out _ _ P4 (fun _=>?_);refine zp ?_;refine Ce ?_;obtain⟨w5,Ct⟩:=Az ((Ai (Ai w2 ⟨b,53,Z⟩ (U O p)) ⟨b,54,Z⟩ (U O q)).drew);have h5':Bx τ w5 i b {x with k:={x.k with n:=p,t:=q}} W nb mb bits {a with n:=p,t:=q}:=qrb Ct h5;have f5:Frm τ τ w w5 i:=qrb Ct f45;rw[Ct];clear h2 h3 h4 h5 f45 P2 P3 P4 Ct Pp f53 Pq f54 y0 y1 b2 S0 hw2 JW c1 hHeld Po;have Is:=fr.on f5.out.size;obtain⟨A5,c5,rJ,l5,m5,n5,ar5,tg5⟩:=h5'.li.block;have ar5:Arr 1 C4 w5 w5 A5 a.block:=ar5
 have KW:E w5 ⟨b,52,Z⟩=I (R A5 (Y a.block) c5):=by
  have e52:E w5 ⟨b,52,Z⟩=I x.k.block:=h5'.row.c 52;rw[show x.k.block=R A5 (Y a.block) c5 from rJ]at e52;exact e52
 have FZ:=ok.n;obtain⟨P,hP⟩:=DV (show 0<=x.s.passes by have:=FZ.passes;omega);obtain⟨K,hK⟩:=DV (show 0<=x.s.pblk by have:=FZ.pblk;omega);have cP:=rB (h5'.on (Ae _ _).drew) L hL hl.2 ok;simp only[hP,hK]at cP;obtain⟨Cr,hZ⟩:=Az ((x.s.pseed+Ph x.s.seed L)%18446744073709551616);rw[hZ]at cP;obtain⟨c0,hc0⟩:∃c0:Cas,c0=⟨P,K,Cr,Y a.block⟩:=⟨_,Q⟩
 have Xt:(x.z W bits).Pi a=c0:=by
  rw[hc0];unfold AV.Pi;rw[hL,show(x.z W bits).s=x.s from rfl,hP,hK];simp only[Int.toNat_natCast];rw[hZ]
 have bM:c0.Ok:=by
  rw[hc0];have h1:=FZ.passes;have h2:=FZ.pblk;exact⟨by simp only;omega,by simp only;omega,hbl⟩
 have E2:Aj ((x.z W bits).QC a [p,q]=(x.z W bits).FY {a with n:=p,t:=q,course:=I (c0,c0.new a.block)}):=F (by rw[E1.out,Xt]);have cN:=qbw w5 fun y hy=>AbH c0 A5 c5 a.block y bM (by rw[hc0]) (ar5.on hy) n5 l5 m5
 have cN2:∀y,Ag w5 w5 y->AL AE 231 #[Ba #[U O P,U O K,U AA Cr],R A5 (Y a.block) c5] y fun e w'=>∃M:Mem,e=AN (Be #[AI (I ⟨M.g,0,Z⟩),U O 0])/\Cj w' c0 (c0.new a.block) M/\Ag y y w'/\(∀k,M.T k->y.heap.size<=k)/\y.heap.size<=M.lo:=fun y hy=>by
  have:=cN y hy;rw[hc0]at this ⊢;exact this
 have Tf:=Cas.oY bM (b:=a.block) (by rw[hc0]);have Hn:=F Tf;clear cN E1 hZ Xt Tf rJ tg5 hc0;go_upto_region 3 with fail;refine Fz (S:=fun w'=>E w' ⟨b,52,Z⟩=I (R A5 (Y a.block) c5)) AG KW (fun hHeld=>?_);have S5:E w5.drew ⟨b,52,Z⟩=I (R A5 (Y a.block) c5):=KW;have q5:=(Ae w5 w5).drew;refine tQ2 0 ?_;refine tQ4 3 ?_;refine tQ 7 ?_;refine url 2 (fun KU Bc=>?_);go_simp;refine gqz cP fun w6 Un=>?_;have BV:=AH q5 Un;have S6:=AK BV KW;refine Bc.out _ _ S6 (fun _=>?_);refine zp ?_;refine url 8 (fun KU Bc=>?_);go_simp;refine(cN2 _ BV).mono ?_;rintro e w7⟨M,rfl,hM,QT,hT,hlo⟩;have Cl:=AH BV QT;have S7:=AK Cl KW;refine Bc.out _ _ S7 (fun _=>?_);refine zp ?_;refine tQ4 9 ?_;refine tQ2 13 ?_;have h7:=h5'.on Cl;have y55:=h7.row.c 55;have z55:=h7.row.fr 55
 have S8:E (Ai w7 ⟨b,55,Z⟩ (AI (I ⟨M.g,0,Z⟩))) ⟨b,52,Z⟩=I (R A5 (Y a.block) c5):=by
  have:=(h7.row.set (x':={x with k:={x.k with n:=p,t:=q,course:= AI (I ⟨M.g,0,Z⟩)}}) 55 (AI (I ⟨M.g,0,Z⟩)) Q).c 52;have e:=h7.row.c 52;exact this.trans (e.symm.trans S7)
 refine url 15 (fun KU Bc=>?_);go_simp;refine Bc.out _ _ S8 (fun _=>?_);refine zp ?_;refine Ce ?_;obtain⟨τ8,f8,Ki,h8⟩:=h5'.fresh hi Is Cl hM bM Hn.out.1 (fun k hk=>Br BV.size (hT k hk)) (Br BV.size hlo);have cG:=rE h8 hi Ki ok L hL hl (Ns.1 MP).1 c0 (c0.new a.block) Q (by have h1:=Hn.out.1.1.len;have h2:=bM.n;omega);clear hT hlo hM QT Un cP cN2 S5 S6 S7 S8 KW y55 z55 h7 hHeld;go_wp2_with fail;refine cG.mono ?_;rintro e w9⟨p9,hp9,hD⟩;obtain⟨τ9,x9,v9,rfl,hD2⟩:=hD;go_wp2;go_ret;exact .inr ⟨p9,E2.out.trans hp9,DA.on fr (f5.trans f8) (x1:={x with k:={x.k with n:=p,t:=q,course:= AI (I ⟨M.g,0,Z⟩)}}) ⟨rfl,rfl,rfl⟩ ⟨τ9,x9,v9,rfl,hD2⟩⟩
end
end Go.Proofs.YtjpidgffdkjjeaaGreat
