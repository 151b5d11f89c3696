/- Contracts and plain laws. No condition. -/
import Derived.Test.YtjpidgffdkjjeaaGreatMA
import Derived.Test.YtjpidgffdkjjeaaGreatM36
set_option linter.all false
set_option maxHeartbeats 16000000
namespace Go.Proofs.YtjpidgffdkjjeaaGreat
open Go.Proofs.Tryz
open Go.Proofs.Tryz renaming prog->AE
open List renaming length->Y
open Go.World renaming cell?->E,setCell->Ai,alloc->Ao,frozen?->Bo
open Go.Value renaming int->U,slice->R,pointer->AI,agg->Ba,tuple->Be,nilFunc->Bl,bool->Av
open Go.IntKind renaming i64->O,u64->AA,u32->BF,u8->Cd
open Option renaming none->Z,some->I
open Go.Ending renaming returned->AN
open Go.Obj renaming cells->N
open Go renaming World->V,Value->An,Calls->AL,Addr->AS
open Go.RowKit renaming Below->Ag,Hid->Aj
open Go.RowKit Go.Maps
set_option maxRecDepth 100000
section
variable{W:Nat}{a:Bb}{r:Int}{z:AV}
structure Iv(z:AV):Prop where
 s:Gi z.s z.W
 wd:z.W=8\/z.W=16\/z.W=32
 bits:Y z.bits<=65536
theorem Ae8(hw:W=8\/W=16\/W=32):If (W:Int)=2^W:=by grind [If]
theorem Ae9(hw:W=8\/W=16\/W=32)(bits:List Bool)(n:Int)(m:List Bool):Ky W bits n m<If (W:Int):=by
 have h0:0<If (W:Int):=by grind [If]
 have hW:Wd W:=by unfold Wd;omega
 have hB:II (W:Int)=true:=by grind [II,If,Wd]
 unfold Ky Ml;split
 ·rename_i h
  unfold Lr at h;split at h
  ·cases h
  ·rename_i h2
   have hp:OR W bits n.toNat<2^W:=by
    grind
   rw[Ae8 hw];exact VF (fX hW _) hp
 omega
theorem Xv{P:Prop}{b:Bool}(h:b=false)(e:b=true):P:=by grind
def BO.idle(h:BO z {a with wait:=[]})(p r:Int)(hp:0<=p/\p<=4)(h1:p≠1):BO z {a with ph:=p,rs:=r}:=
 {h with busy:=fun e=>absurd e h1,ph:=hp,wb:=fun e=>absurd e h1,w2:=fun e=>absurd e h1,w4:=fun e=>absurd e h1,w7:=fun e=>absurd e h1,rn:=fun e=>absurd e h1,w8:=fun e=>absurd e h1}
def BO.wait(h:BO z {a with wait:=[]})(l:List Int)(h2:2∉l)(h4:4∉l)(h7:7∉l)(h8:a.has=true->∀k∈l,k=10):BO z {a with wait:=l}:=
 {h with w2:=fun _ e=>absurd e h2,w4:=fun _ e=>absurd e h4,w7:=fun _ e=>absurd e h7,w8:=fun _ e=>h8 e}
def BO.none(h:BO z a):BO z {a with wait:=[]}:=
 {h with w2:=fun _ e=>(by cases e),w4:=fun _ e=>(by cases e),w7:=fun _ e=>(by cases e),w8:=fun _ _ _ e=>(by cases e)}
def BO.phase(h:BO z a)(p r:Int)(hp:0<=p/\p<=4)(h1:p≠1):BO z {a with ph:=p,rs:=r}:=h.none.idle p r hp h1
theorem BO.send(hz:Iv z)(h:BO z a)(hl:1<=a.last){kind:Int}{ws:List Int}(hk:1<=kind/\kind<=11)(hw:ws.all okW=true)(hn:Y ws<=4096):BO z (z.send a kind ws).1:=by
 unfold AV.send Bb.send;split
 ·refine{h with sent:=fun l e=>?_}
  have e2:a.Qw z.side z.W z.bits kind ws=l:=by grind
  rw[<-e2];exact⟨⟨hl,h.last.2⟩,hk,⟨Int.natCast_nonneg _,Int.ofNat_le.2 (YN z.W hz.wd z.bits hz.bits a.used z.side)⟩,hn,hw,Ae9 hz.wd _ _ _⟩
 ·exact h.phase 3 14 AC AC
theorem BO.se(h:BO z {a with wait:=[]})(hz:Iv z)(hl:1<=a.last)(hr:0<=r/\r<=65535):BO z (z.stop a r).1:=
 BO.send hz (h.idle 3 r AC AC) hl AC (by
  simp only[List.all_cons,List.all_nil,Bool.and_true];unfold okW AR
  grind) (Fg Q)
def BO.stop(h:BO z a)(hz:Iv z)(hl:1<=a.last)(hr:0<=r/\r<=65535):BO z (z.stop a r).1:=h.none.se hz hl hr
def BO.down(h:BO z a):BO z a.down:=
 {h with busy:=fun e=>absurd e (by decide:¬(4:Int)=1),ph:=(by decide:(0:Int)<=4/\(4:Int)<=4),wt:=(by decide:(0:Int)<=0/\(0:Int)<=101),wb:=fun e=>absurd e (by decide:¬(4:Int)=1),pls:=Q,clk:=Q,sent:=fun l e=>(by cases e),took:=fun l e=>(by cases e),blk:=BM _,led:=Q,slt:=Q,kpt:=Q,dec:=Q,w2:=fun _ e=>(by cases e),w4:=fun _ e=>(by cases e),w7:=fun _ e=>(by cases e),crs:=fun c m e=>(by cases e),rn:=fun e=>absurd e (by decide:¬(4:Int)=1),w8:=fun e=>absurd e (by decide:¬(4:Int)=1)}
def Pv(z:AV)(r:Jz):Prop:=∀p,r=I p->BO z p.1
def Afa(h:BO z a)(ws:List Int):Pv z (AV.Tb a ws):=fun p e=>by
 unfold AV.Tb at e;split at e
 ·cases e
 ·cases e
  exact h.phase 2 a.rs AC AC
theorem Afb(h:BO z a)(ws:List Int):Pv z (AV.Tc a ws):=fun p e=>by
 unfold AV.Tc at e;split at e
 ·split at e
  ·split at e
   ·cases e
    exact h.phase 2 a.rs AC AC
   ·cases e
    exact h.phase 3 _ AC AC
  grind
 grind
theorem Afc(hz:Iv z)(h:BO z a)(hl:1<=a.last)(hh:a.has=false)(ws:List Int):Pv z (z.Pj a ws):=fun p e=>by
 have n:=hz.s.n;unfold AV.Pj at e;split at e
 ·cases e
 ·split at e
  ·cases e
   exact h.stop hz hl AC
  ·cases e
   have h0:BO z {a with shift:=(KK (ws.map Gx) a.clicks z.s.need).1}:={h with}
   have h1:=h0.none.wait [3] AC AC AC (Xv hh);refine BO.send hz h1 hl AC (rt n.head.1 (by have:=n.slots;omega)) ?_
   grind [KT,MK,KK,Gx,ru,Va]
def BO.enter(h:BO z a)(k n:Int):BO z (a.enter k n):=by
 have hl:=rG h.led k n;unfold Bb.enter at hl ⊢;split
 ·rename_i he
  rw[Bd he]at hl;exact{h with led:=hl}
 omega
theorem Vc(a:Bb)(k n:Int):(a.enter k n).last=a.last:=by grind [Bb.enter]
theorem iJ(a:Bb)(k n:Int):(a.enter k n).has=a.has:=by grind [Bb.enter]
theorem Afd(a:Bb)(k n:Int)(l:List Int):({a with wait:=l}:Bb).enter k n={a.enter k n with wait:=l}:=by grind [Bb.enter]
theorem Afe(hz:Iv z)(h:BO z a)(hl:1<=a.last)(ws:List Int):Pv z (z.Ta a ws):=fun p e=>by
 unfold AV.Ta at e;split at e
 ·split at e
  ·cases e
   exact BO.send hz (h.enter 1 1) (by grind [Bb.enter]) AC (rK _) (Fg Q)
  grind
 grind
def Aff{p q r:Nat}(hp:p<=65535)(hq:q<=65535)(hr:r<=65535):([(p:Int),(q:Int),(r:Int)]).all okW=true:=by
 rw[List.all_cons,List.all_cons,List.all_cons,List.all_nil,Xs J,Xs J,Xs J]
 rfl
theorem sf(hz:Iv z)(h:BO z {a with wait:=[]})(hl:1<=a.last)(hh:a.has=false):Pv z (z.FY a):=fun p e=>by
 unfold AV.FY at e;split at e
 ·cases e
 ·rename_i c m hc
  obtain⟨c1,c2,c3⟩:=h.crs c m hc;split at e
  ·cases e
   exact h.se hz hl AC
  ·split at e
   ·rename_i ho
    cases e;obtain⟨v1,v2,v3⟩:=(c2.2 ho).1;have hP:=c1.P;have hn:=c1.n
    have h1:BO z {a with wait:=[7]}:=
     {h with w2:=fun _ e=>absurd e (show¬(2:Int)∈[7]by decide),w4:=fun _ e=>absurd e (show¬(4:Int)∈[7]by decide),w7:=fun _ _=>⟨c,m,hc,ho⟩,w8:=fun _ e=>Xv hh e}
    exact BO.send hz h1 hl AC (Aff J J J) (Fg Q)
   ·cases e
    have h1:BO z {({a with block:=m.b}:Bb)with wait:=[]}:={h with blk:=c3}
    have h2:=h1.enter 3 z.s.width;rw[Afd]at h2;have h3:=h2.wait [9] AC AC AC (Xv (qrf iJ hh));have hd:JV z.s.width (MM z.s.seed a.last.toNat z.W) m.b<4294967296:=by rw[hz.s.wd];exact rC hz.wd _
    exact BO.send hz h3 (by grind [Bb.enter,Cas.at,JV,MM]) AC (rD J J) (Fg Q)
theorem BO.course(h:BO z {a with wait:=[]}){c:Cas}{m:BP}(h1:c.Ok)(h2:c.at .stop m):BO z {({a with course:=I (c,m)}:Bb)with wait:=[]}:=by
 have hb:Y m.b<=512:=by
  have e1:=h2.1.len;have e2:=h1.n;omega
 exact{h with crs:=fun c' m' e=>(by grind),w7:=fun _ e=>(by cases e)}
theorem sg(hz:Iv z)(a:Bb)(hb:Y a.block<=512):(z.Pi a).Ok:=by
 have n:=hz.s.n;have h1:=n.passes;have h2:=n.pblk;unfold AV.Pi;exact⟨by grind,by grind,hb⟩
theorem Afg(hz:Iv z)(h:BO z a)(hl:1<=a.last)(hh:a.has=false)(ws:List Int):Pv z (z.QC a ws):=fun p e=>by
 unfold AV.QC at e;split at e
 ·rename_i n t
  split at e
  ·have h0:BO z {a with n:=n,t:=t}:={h with}
   have h1:=h0.none.course (sg hz a h.blk) (Cas.oY (sg hz a h.blk) Q).1;exact sf hz h1 hl hh p e
  grind
 grind
theorem Afh(hz:Iv z)(h:BO z a)(hl:1<=a.last)(hh:a.has=false)(hc:∃c m,a.course=I (c,m)/\m.opn=true)(ws:List Int):Pv z (z.Sa a ws):=fun p e=>by
 obtain⟨c,m,hc,ho⟩:=hc;obtain⟨c1,c2,c3⟩:=h.crs c m hc;unfold AV.Sa at e;split at e
 ·rename_i t
  split at e
  ·have e0:(a.enter 1 1).course=I (c,m):=by rw[<-hc];unfold Bb.enter;grind
   have e1:(a.enter 1 1).tell (t == 1)={a.enter 1 1 with course:=I (c,c.tell m (t == 1))}:=by unfold Bb.tell;rw[e0]
   rw[e1]at e;have h1:=(h.enter 1 1).none.course c1 (Cas.gx c1 c2 ho (t == 1)).1;exact sf hz h1 (by show 1<=(a.enter 1 1).last;rw[Vc];exact hl) (by show(a.enter 1 1).has=false;rw[iJ];exact hh) p e
  grind
 grind
theorem Afi(a:List Bool)(out:Int)(s:Nat):(QA a out s).length<=512:=by
 unfold QA;split
 ·rename_i h
  unfold Qz at h
  grind [YR,GW,RT,i7,qC]
 ·simp
theorem Afj(b:List Bool)(n t:Int)(l:List C8)(m:Int)(s:Nat):(MC b n t l m s).length<=512:=by
 grind [MC,Afi]
theorem BO.acc(hz:Iv z)(h:BO z a)(hl:1<=a.last)(hb:a.ph=1)(hh:a.has=false):BO z {z.IS a with wait:=[]}:=by
 have hr:=h.rn hb hh;unfold AV.IS;refine{h with recs:=fun r hr2=>?_,ro:=?_,rl:=fun r hr2=>?_,rn:=fun _ e=>(by cases e),w2:=fun _ e=>(by cases e),w4:=fun _ e=>(by cases e),w7:=fun _ e=>(by cases e),w8:=fun _ _ _ e=>(by cases e)}
 ·rcases OV.1 hr2 with h3 | h3
  ·exact h.recs r h3
  ·simp only[List.mem_singleton]at h3
   subst h3;exact⟨⟨by have:=h.last;exact this.1,h.last.2⟩,h.blk,(Ns.1 h.led).1,Afj _ _ _ _ _ _⟩
 ·show((a.recs++ [_]).map Rc.ses).Pairwise (· < ·)
  rw[SQ,List.pairwise_append];refine⟨h.ro,AO,fun x hx y hy=>?_⟩
  grind
 ·rcases OV.1 hr2 with h3 | h3
  ·exact h.rl r h3
  grind
end
section
variable{a:Bb}{l:List Int}{z:AV}
theorem iK{α:Type}(p q:α->Bool)(hpq:∀x,p x=true->q x=false):∀l:List α,(l.filter p).length+(l.filter q).length<=Y l
 | []=>by simp
 | x::l=>by
  have ih:=iK p q hpq l
  grind
theorem Vd(h:∀x∈l,0<=x/\x<=65535):l.all okW=true:=by
 grind [okW,Xs]
def bV{n:Nat}{x:Int}(hn:n<=4096)(h:Cz l 0 (n-1)=0)(hx:x∈l):0<=x/\x<=4096:=by
 have:=YY h hx;omega
theorem si(b:Bool):0<=EM b/\EM b<=1:=by grind [EM]
theorem Afk(hz:Iv z)(h:BO z a)(hl:1<=a.last)(hh:a.has=false)(ws:List Int)(hw:Y ws<=4096):Pv z (z.TS a ws):=fun p e=>by
 have n:=hz.s.n;unfold AV.TS at e;split at e
 ·cases e
 ·rename_i hm
  have hm:KO a.pulses (ws.map KS) z.s.head=0:=J;have hk:=re n.head.1 hm;have LR:=qO a.pulses (ws.map KS) z.s.head;rw[Dz]at LR;have h0:=(iy hm).2.2;have hc:=rg h0 (c:=2) AC hk;have hpl:=Va h0;simp only at e;split at e
  ·cases e
   exact h.stop hz hl AC
  ·rename_i hs
   cases e;obtain⟨kept,Afl⟩:=Az (KP a.pulses (ws.map KS) z.s.head);rw[Afl]at hk LR hc hs ⊢;obtain⟨sig,Afm⟩:=Az (LC a.pulses kept 2);rw[Afm]at hc hs ⊢;have sj:(sig.take z.s.block.toNat).Sublist kept:=(List.take_sublist _ _).trans (hc▸List.filter_sublist);have hb:=n.block
   have h1:BO z {a with kept:=kept,slots:=sig.take z.s.block.toNat,decoys:=kept.filter (NX z a),wait:=[4]}:=
    {h with slt:=Ad4 hk sj,kpt:=hk,dec:=Q,w2:=fun _ e=>absurd e (show¬(2:Int)∈[4]by decide),w4:=fun _ _=>(by grind),w7:=fun _ e=>absurd e (show¬(7:Int)∈[4]by decide),w8:=fun _ e=>Xv hh e}
   refine BO.send hz h1 hl AC (Vd fun x hx=>?_) ?_
   ·rcases OV.1 hx with hx | hx
    ·have:=bV hpl hk (sj.subset hx)
     omega
    ·obtain⟨y,hy,rfl⟩:=Ld.1 hx
     have h3:=bV hpl hk (List.mem_filter.1 hy).1;have h4:=si (Jw a.pulses y == 1);unfold Wg;omega
   ·have h3:=iK (fun s=>decide (Jw a.pulses s=2)) (NX z a) (fun s e=>by
     have e2:Jw a.pulses s=2:=by grind
     unfold NX
     grind) kept
    grind
theorem Afn(hz:Iv z)(h:BO z a)(hl:1<=a.last)(hh:a.has=false)(ws:List Int)(hw:Y ws<=4096):Pv z (z.T9 a ws):=fun p e=>by
 have n:=hz.s.n;unfold AV.T9 at e;split at e
 ·cases e
 ·rename_i hlen
  split at e
  ·cases e
  ·split at e
   ·cases e
   ·cases e
    have hb:=n.block
    have hr:(DN (Iq a.clicks a.shift (ws.take z.s.block.toNat)) (z.MN a)).length<=512:=by
     grind [DN,Iq,AV.MN,MJ,bO]
    have h0:BO z {a with block:=DN (Iq a.clicks a.shift (ws.take z.s.block.toNat)) (z.MN a)}:={h with blk:=hr}
    have h1:=h0.none.wait [5] AC AC AC (Xv hh);refine BO.send hz h1 hl AC (rQ _) ?_;rw[Dz,KZ];have h3:=ir a.clicks a.shift ((ws.drop z.s.block.toNat).map (· / 2));rw[Dz,SI]at h3
    have h4:((DN (Iq a.clicks a.shift (ws.take z.s.block.toNat)) (z.NW a)).length:Int)<=z.s.block:=by
     unfold DN AV.NW;rw[Dz];exact rP J
    omega
def iM(t s n:Int)(f:BA):0<=V7 t s n f/\V7 t s n f<=512:=by
 unfold V7;split
 ·rename_i h
  have:=ln h;omega
 omega
theorem Afo(o:Bw)(g:Gn)(n:Nat):Pf o g (n:Int)<=n:=by
 grind [Pf]
theorem sk(z:AV)(a:Bb)(l:List Int)(n:Nat):0<=(z.LF a l n).1/\(z.LF a l n).1<=n:=by
 grind [AV.LF,Afo]
theorem Afp(hz:Iv z)(h:BO z a)(hl:1<=a.last)(hh:a.has=false)(ws:List Int):Pv z (z.QB a ws):=fun p e=>by
 unfold AV.QB at e;split at e
 ·cases e
 ·simp only at e
  split at e
  ·cases e
   exact h.stop hz hl AC
  ·obtain⟨rest,so⟩:=Az (DN (KQ a.pulses a.slots) (z.MN a))
   obtain⟨t,ht⟩:=Az (V7 z.s.block z.s.sample (V6 (DN (KQ a.pulses a.slots) (z.NW a)) ws) z.s.eps)
   have hr:Y rest<=512:=by
    rw[<-so];unfold DN AV.MN;rw[Dz];exact bO
   have ht2:0<=t/\t<=512:=by rw[<-ht];exact iM _ _ _ _
   rw[so,ht]at e;have h0:∀n:Int,BO z {a with t:=t,n:=n,block:=rest}:=fun n=>{h with blk:=hr}
   have h1:∀n:Int,BO z {a with t:=t,n:=n,block:=rest,wait:=[6,8]}:=fun n=>(h0 n).none.wait [6,8] AC AC AC (Xv hh)
   split at e
   ·split at e
    ·cases e
     exact(h0 _).stop hz hl AC
    ·cases e
     obtain⟨q1,q2⟩:=sk z {a with t:=t,n:=Y rest,block:=rest} (ws.drop z.s.sample.toNat) (Y rest);refine BO.send hz (h1 _) hl AC (Vd fun x hx=>?_) (Fg Q)
     grind
   ·cases e
    refine BO.send hz (h1 _) hl AC (Vd fun x hx=>?_) (Fg Q)
    grind
theorem Afq(hz:Iv z)(h:BO z a)(hl:1<=a.last)(hb:a.ph=1)(hh:a.has=false)(ws:List Int):Pv z (z.Sb a ws):=fun p e=>by
 unfold AV.Sb at e;split at e
 ·have h1:=h.enter 3 z.s.width
  have Ll:1<=(a.enter 3 z.s.width).last:=qrf Vc hl;have hb1:(a.enter 3 z.s.width).ph=1:=by rw[<-hb];unfold Bb.enter;grind
  have hh1:(a.enter 3 z.s.width).has=false:=qrf iJ hh;simp only at e;split at e
  ·cases e
   exact h1.stop hz Ll AC
  ·split at e
   ·cases e
    exact h1.stop hz Ll AC
   ·cases e
    have h2:=(h1.acc hz Ll hb1 hh1).wait [10] AC AC AC (fun _ k e=>by grind);exact BO.send hz h2 Ll AC Q (Fg Q)
 grind
def Afr(hz:Iv z)(h:BO z a)(hl:1<=a.last)(hb:a.ph=1)(hh:a.has=false)(ws:List Int):Pv z (z.Sc a ws):=fun p e=>by
 unfold AV.Sc at e;split at e
 ·cases e
 ·split at e
  ·cases e
   exact h.stop hz hl AC
  ·cases e
   have h2:=(h.acc hz hl hb hh).idle 2 a.rs AC AC;exact BO.send hz h2 hl AC Q (Fg Q)
theorem Afs(hz:Iv z)(h:BO z a)(hl:1<=a.last)(hb:a.ph=1)(kind:Int)(hw:kind=11\/kind∈a.wait)(ws:List Int)(hl4:Y ws<=4096):BO z (z.Td kind a ws).1:=by
 have fin:∀r:Jz,Pv z r->BO z (r.getD (z.stop a 6)).1:=fun r hr=>by
  cases e:r with
  | none=>exact h.stop hz hl AC
  | some p=>exact hr p e
 have hf:kind≠10->kind≠11->a.has=false:=fun k1 k2=>by
  rcases hw with h1 | h1
  ·omega
  ·cases hh:a.has with
   | false=>rfl
   | true=>exact absurd (h.w8 hb hh kind h1) k1
 unfold AV.Td AV.V8;apply fin;split
 ·exact Afc hz h hl (hf J J) ws
 ·split
  ·exact Afk hz h hl (hf J J) ws hl4
  ·split
   ·exact Afn hz h hl (hf J J) ws hl4
   ·split
    ·exact Afp hz h hl (hf J J) ws
    ·split
     ·exact Afg hz h hl (hf J J) ws
     ·split
      ·exact Afe hz h hl ws
      ·split
       ·rename_i e
        refine Afh hz h hl (hf J J) (h.w7 hb ?_) ws
        grind
       ·split
        ·exact Afq hz h hl hb (hf J J) ws
        ·split
         ·exact Afr hz h hl hb (hf J J) ws
         ·split
          ·exact Afa h ws
          ·exact Afb h ws
end
section
variable{a:Bb}{p:Bb × List Lt}{z:AV}
def sq{l:Lt}(h:z.Wh l=true):Pk z.W l:=by
 unfold AV.Wh VH H5 AR at h;simp only[Bool.and_eq_true]at h;obtain⟨⟨h1,h2,h3,h4⟩,h5,h6⟩:=h;exact⟨Ib h1,Ib h2,Ib h3,Ib h4,h6,Ib h5⟩
theorem Aft(hz:Iv z)(h:BO z a)(l:Lt):BO z (z.Gj a l).1:=by
 unfold AV.Gj;split
 ·exact h
 ·split
  ·exact h
  ·rename_i hf
   split
   ·exact h
   ·split
    ·exact h
    ·rename_i hs
     split
     ·exact h
     ·have Afu:z.Wh l=true:=by
       grind
      have BI:=sq Afu
      have hb:a.ph=1:=by
       omega
      have hw:l.kind=11\/l.kind∈a.wait:=by
       grind
      have ht:=hz.s.n.tries
      have h1:BO z {a with used:=l.num.toNat::a.used,took:=I l,waited:=0}:=
       {h with took:=fun l' e=>(by grind),wt:=(by decide:(0:Int)<=0/\(0:Int)<=101),wb:=fun _=>(show(0:Int)<=z.s.tries by omega)}
      exact Afs hz h1 (h.busy hb) hb l.kind hw l.ws BI.len
def Afv(hz:Iv z)(h:BO z a):BO z (a.tick z.side z.W z.bits z.s.tries).1:=by
 have ht:=hz.s.n.tries;have hw:=h.wt;unfold Bb.tick;split
 ·rename_i hb
  have h1:=h.wb hb;split
  ·exact{h with wt:=(show 0<=a.waited+1/\a.waited+1<=101 by omega),wb:=fun _=>(show a.waited+1<=z.s.tries by assumption)}
  ·have h2:BO z {({a with waited:=a.waited+1}:Bb)with ph:=3,rs:=a.rs}:=
    {h.phase 3 a.rs AC AC with wt:=(show 0<=a.waited+1/\a.waited+1<=101 by omega),wb:=fun e=>absurd e (show¬(3:Int)=1 by decide)}
   split
   ·exact h2.phase 2 a.rs AC AC
   ·have h3:BO z {({a with waited:=a.waited+1}:Bb)with ph:=3,rs:=9}:=h2.phase 3 9 AC AC
    exact BO.send hz h3 (h.busy hb) AC Q (Fg Q)
 omega
def AV.LI(z:AV)(p:List AQ)(c:List Bf):Bool:=if z.side=0 then !(decide ((Y p:Int)=z.s.slots)&&decide (Bz AQ.ok p=0))else !(decide ((Y c:Int)=z.s.slots)&&decide (Bz Bf.ok c=0))
def Bb.JD(a:Bb)(ses:Int)(p:List AQ)(c:List Bf)(w:Int):Bb:={a.down with ph:=1,last:=ses,pulses:=p,clicks:=c,wait:=[w]}
def AV.Em(z:AV)(a:Bb)(ses:Int)(p:List AQ)(c:List Bf):Bb × List Lt × Int:=
 if a.ph=4 then(a,[],13)
 else if¬(1<=ses/\ses<=1000)then(a,[],3)
 else if ses<=a.last then(a,[],16)
 else if z.LI p c=true then(a,[],2)
 else if z.side=1 then(a.JD ses [] c 1,[],0)
 else
  let r:=z.send (a.JD ses p [] 2) 1 ((p.take z.s.head.toNat).map CY)
  (r.1,r.2,0)
theorem su{p:AQ}(h:p.ok=true):0<=CY p/\CY p<=65535:=by
 simp[AQ.ok,AR]at h
 grind [CY]
theorem BO.JD(hz:Iv z)(h:BO z a){ses:Int}{p:List AQ}{c:List Bf}{w:Int}(hs:1<=ses/\ses<=1000)(hl:a.last<ses)(hp:Bz AQ.ok p=0)(hc:Bz Bf.ok c=0)(hw:w≠4/\w≠7):BO z (a.JD ses p c w):=by
 have ht:=hz.s.n.tries;have hd:=h.down;have e4:∀{k:Int},k≠w->k∈[w]->False:=fun h1 h2=>h1 (by grind)
 have e5:∀r∈a.recs,r.ses<ses:=fun r hr=>by
  have:=(h.rl r hr).2;omega
 have e6:∀r∈a.recs,1<=r.ses/\r.ses<=ses:=fun r hr=>⟨(h.rl r hr).1,Int.le_of_lt (e5 r hr)⟩
 unfold Bb.JD;exact{hd with last:=(show 0<=ses/\ses<=1000 by omega),busy:=fun _=>hs.1,ph:=(by decide:(0:Int)<=1/\(1:Int)<=4),wb:=fun _=>(show(0:Int)<=z.s.tries by omega),pls:=hp,clk:=hc,slt:=(show Cz [] 0 _=0 from rfl),kpt:=(show Cz [] 0 _=0 from rfl),dec:=Q,w2:=fun _ _=>rfl,w4:=fun _ e=>(e4 (Ne.symm hw.1) e).elim,w7:=fun _ e=>(e4 (Ne.symm hw.2) e).elim,rl:=e6,rn:=fun _ _=>e5,w8:=fun _ e=>(by cases e)}
theorem sx(hz:Iv z)(h:BO z a)(Gk:z.side=0\/z.side=1)(ses:Int)(p:List AQ)(c:List Bf):BO z (z.Em a ses p c).1:=by
 unfold AV.Em;split
 ·exact h
 ·split
  ·exact h
  ·rename_i hs
   split
   ·exact h
   ·rename_i hl
    split
    ·exact h
    ·rename_i hb
     split
     ·rename_i h1
      have hc:Bz Bf.ok c=0:=by
       grind [Bz,Bf.ok,AV.LI]
      exact h.JD hz J J Q hc AC
     ·rename_i h1
      have h0:z.side=0:=by omega
      have hp:((Y p:Int)=z.s.slots)/\Bz AQ.ok p=0:=by
       grind [Bz,AQ.ok,AV.LI]
      have BI:∀q∈p,q.ok=true:=by
       grind [AQ.ok,AV.LI,Bz]
      refine BO.send hz (h.JD hz J J hp.2 Q AC) (by show 1<=ses;omega) AC (Vd fun y hy=>?_) ?_
      ·obtain⟨q,hq,rfl⟩:=Ld.1 hy
       exact su (BI q (Ui hq))
      grind [CY,AV.LI,Bz,AQ.ok]
def EB(p:Bb × List Lt):Prop:=∀l∈p.2,p.1.sent=I l
theorem EB.nil(a:Bb):EB (a,[]):=fun l h=>by cases h
theorem EB.again(a:Bb):EB (a,a.sent.toList):=fun l h=>by
 grind
theorem EB.send(z:AV)(a:Bb)(kind:Int)(ws:List Int):EB (z.send a kind ws):=by
 unfold AV.send Bb.send
 grind [EB,Bb.UV,Bb.Qw,Dr]
theorem EB.stop(z:AV)(a:Bb)(r:Int):EB (z.stop a r):=EB.send z _ 11 [r]
def JE(r:Jz):Prop:=∀p,r=I p->EB p
theorem JE.none:JE Z:=fun p e=>by cases e
theorem JE.some(h:EB p):JE (I p):=fun q e=>by grind
theorem Afw(z:AV)(a:Bb):JE (z.FY a):=by
 grind [JE,AV.FY,JE.none,JE.some,EB.stop,EB.send]
theorem Afx(z:AV)(kind:Int)(a:Bb)(ws:List Int):JE (z.V8 kind a ws):=by
 have nn:=JE.none;have s1:=fun b r=>JE.some (EB.stop z b r)
 have s2:=fun b k l=>JE.some (EB.send z b k l)
 have s3:=fun b=>JE.some (EB.nil b)
 have s4:=Afw z;unfold AV.V8;split
 ·grind [JE,AV.Pj,AV.stop,AV.send,AV.FY]
 ·split
  ·grind [JE,AV.TS,AV.stop,AV.send,AV.FY]
  ·split
   ·grind [JE,AV.T9,AV.stop,AV.send,AV.FY]
   ·split
    ·grind [JE,AV.QB,AV.stop,AV.send,AV.FY]
    ·split
     ·unfold AV.QC;grind
     ·split
      ·unfold AV.Ta;grind
      ·split
       ·unfold AV.Sa;grind
       ·split
        ·unfold AV.Sb;grind
        ·split
         ·grind [JE,AV.Sc,AV.stop,AV.send,AV.FY]
         ·split
          ·grind [JE,AV.Tb,AV.stop,AV.send,AV.FY]
          ·unfold AV.Tc;split;split;split;with_reducible exact s3 _;with_reducible exact s3 _;all_goals omega
theorem Afz(z:AV)(kind:Int)(a:Bb)(ws:List Int):EB (z.Td kind a ws):=by
 unfold AV.Td;cases e:z.V8 kind a ws with
 | none=>exact EB.stop _ _ _
 | some p=>exact Afx z kind a ws p e
theorem AfA(z:AV)(a:Bb)(l:Lt):EB ((z.Gj a l).1,(z.Gj a l).2.1):=by
 grind [EB,AV.Gj,EB.nil,EB.again,Afz]
theorem AfB(z:AV)(a:Bb):EB (a.tick z.side z.W z.bits z.s.tries):=by
 unfold Bb.tick;split
 ·split
  ·grind [EB]
  ·split
   ·grind [EB]
   ·exact EB.stop z {a with waited:=a.waited+1} 9
 grind [EB]
theorem AfC(z:AV)(a:Bb)(ses:Int)(p:List AQ)(c:List Bf):EB ((z.Em a ses p c).1,(z.Em a ses p c).2.1):=by
 grind [EB,AV.Em,EB.nil,EB.send]
def iN(h:BO z p.1)(hs:EB p):∀l∈p.2,Pk z.W l:=fun l hl=>h.sent l (hs l hl)
end
end Go.Proofs.YtjpidgffdkjjeaaGreat
