/- Contracts and plain laws. No condition. -/
import Derived.Test.YtjpidgffdkjjeaaGreatCA
import Derived.Test.YtjpidgffdkjjeaaGreatC18
import Derived.Test.YtjpidgffdkjjeaaGreatC21
set_option linter.all false
set_option maxHeartbeats 16000000
namespace Go.Proofs.YtjpidgffdkjjeaaGreat
open Go.Proofs.Tryz
open Go.Proofs.Tryz renaming prog->AE
open List renaming length->Y
open Go.World renaming cell?->E,setCell->Ai,alloc->Ao,frozen?->Bo
open Go.Value renaming int->U,slice->R,pointer->AI,agg->Ba,tuple->Be,nilFunc->Bl,bool->Av
open Go.IntKind renaming i64->O,u64->AA,u32->BF,u8->Cd
open Option renaming none->Z,some->I
open Go.Ending renaming returned->AN
open Go.Obj renaming cells->N
open Go renaming World->V,Value->An,Calls->AL,Addr->AS
open Go.RowKit renaming Below->Ag,Hid->Aj
set_option maxRecDepth 100000
open Go.RowKit Go.Maps
structure Bj where
 s:BX
 s0:BX
 s1:BX
 rules:List C5
 light:Nat
 W:Nat
 bits:List Bool
def Bj.st(v:Bj)(i:Int):BX:=if i=0 then v.s0 else v.s1
def Bj.z(v:Bj)(i:Int):AV:=⟨v.st i,i,v.W,v.bits⟩
structure Oe where
 d:Int
 l:Lt
structure Flt where
 pulses:List AQ
 clicks:List Bf
 notes:List CA
 shift:Int
structure Bt where
 x:Bb
 y:Bb
 way:List Oe
 fl:Flt
def Bt.at(q:Bt)(i:Int):Bb:=if i=0 then q.x else q.y
def Bt.put(q:Bt)(i:Int)(a:Bb):Bt:=if i=0 then{q with x:=a}else{q with y:=a}
def I2(d:Int):List Oe->List Lt->List Oe
 | way,[]=>way
 | way,l::ls=>I2 d (if Y way<64 then way++ [⟨d,l⟩]else way) ls
structure Ev where
 kind:Int
 a:Int
 b:Int
def IY(n:Int):Int:=if n%2=0 then n+1 else n-1
def Ix(n:Nat):Nat:=if n%2=0 then n+1 else n-1
def Lt.QI(l:Lt)(b:Int):Lt:=if 0<=b/\b<Y l.ws then{l with ws:=l.ws.set b.toNat (IY (l.ws.getD b.toNat 0))}else{l with tag:=Ix l.tag}
def Bj.sd(v:Bj)(ses:Int):Nat:=(v.light+ses.toNat)%18446744073709551616
def Bj.FO(v:Bj)(ses:Int):Flt:=
 let s0:=C9 (v.sd ses)
 let s1:=C9 (Bk (v.sd ses))
 let s2:=C9 (Bk (Bk (v.sd ses)))
 let n:=v.s.slots.toNat
 ⟨(Fb v.s.o s0 n).1,(Eu v.s.o.eta v.s.o.dark (CQ v.rules (Fb v.s.o s0 n).1 s1 n).1 (Iw v.rules) s2 n).1,(CQ v.rules (Fb v.s.o s0 n).1 s1 n).2.2,Iw v.rules⟩
def Bj.U5(v:Bj)(q:Bt)(ses:Int):Bt:=
 let f:=v.FO ses
 let y:=((v.z 1).Em q.y ses [] f.clicks).1
 let x:=(v.z 0).Em q.x ses f.pulses []
 ⟨x.1,y,I2 1 q.way x.2.1,f⟩
def Bj.Kl(q:Bt):Int:=if q.x.ph=4\/q.y.ph=4 then 13 else if 1000<max q.x.last q.y.last+1 then 12 else 0
def Bj.MW(v:Bj)(q:Bt):Bt × Int:=
 if Bj.Kl q=0 then(v.U5 q (max q.x.last q.y.last+1),0)else(q,Bj.Kl q)
def Bj.IZ(v:Bj)(q:Bt)(e:Ev):Bt × Int:=
 if e.a≠0/\e.a≠1 then(q,3)
 else if e.kind=7 then(if(q.at e.a).ph=4 then(q,13)else(q.put e.a (q.at e.a).down,0))
 else if e.kind=8 then(if(q.at e.a).ph=4 then(q.put e.a {q.at e.a with ph:=0},0)else(q,11))
 else if(q.at e.a).ph=4 then(q,13)
 else
  let r:=(q.at e.a).tick e.a v.W v.bits (v.st e.a).tries
  ({q.put e.a r.1 with way:=I2 (1-e.a) q.way r.2},0)
def Bj.Tm(v:Bj)(q:Bt)(k:Nat)(f:Oe):Bt × Int:=
 let r:=(v.z f.d).Gj (q.at f.d) f.l
 ({q.put f.d r.1 with way:=I2 (1-f.d) (q.way.eraseIdx k) r.2.1},r.2.2)
def Bj.CI(v:Bj)(q:Bt)(e:Ev):Bt × Int:=
 if e.kind<1\/8<e.kind then(q,2)
 else if e.kind=1 then v.MW q
 else if 6<=e.kind then v.IZ q e
 else if e.a<0 then(q,3)
 else match q.way[e.a.toNat]? with
  | none=>(q,3)
  | some f=>
   if e.kind=4 then(if Y q.way=64 then(q,12)else({q with way:=q.way++ [f]},0))
   else if e.kind=5 then({q with way:=q.way.set e.a.toNat ⟨f.d,f.l.QI e.b⟩},0)
   else if e.kind=3 then({q with way:=q.way.eraseIdx e.a.toNat},0)
   else v.Tm q e.a.toNat f
def Bj.GB(v:Bj):Nat->Bt->Bt × Nat
 | 0,q=>(q,0)
 | n+1,q=>if Y q.way=0 then(q,0)else
  let r:=v.GB n (v.CI q ⟨2,0,0⟩).1
  (r.1,r.2+1)
structure Gm(v:Bj):Prop where
 s0:Gi v.s0 v.W
 s1:Gi v.s1 v.W
 wd:v.W=8\/v.W=16\/v.W=32
 bits:Y v.bits<=65536
 rules:LZ v.rules=0/\v.rules.all DU=true/\Y v.rules<=32
def Gm.z{v:Bj}(h:Gm v)(i:Int):Iv (v.z i):=⟨by unfold Bj.z Bj.st;simp only;split;exact h.s0;exact h.s1,h.wd,h.bits⟩
structure Dv(v:Bj)(q:Bt):Prop where
 x:BO (v.z 0) q.x
 y:BO (v.z 1) q.y
 way:∀f∈q.way,(f.d=0\/f.d=1)/\Pk v.W f.l
 len:Y q.way<=64
def Dv.at{v:Bj}{q:Bt}(h:Dv v q){i:Int}(hi:i=0\/i=1):BO (v.z i) (q.at i):=by
 rcases hi with rfl | rfl
 ·exact h.x
 ·exact h.y
theorem jc{v:Bj}{d:Int}(ht:d=0\/d=1):∀(ls:List Lt) (way:List Oe),(∀l∈ls,Pk v.W l)->(∀f∈way,(f.d=0\/f.d=1)/\Pk v.W f.l)->Y way<=64->(∀f∈I2 d way ls,(f.d=0\/f.d=1)/\Pk v.W f.l)/\(I2 d way ls).length<=64
 | [],way,_,h2,h3=>⟨h2,h3⟩
 | l::ls,way,h1,h2,h3=>by
  unfold I2;refine jc ht ls _ (fun y hy=>h1 y (by simp[hy])) ?_ ?_
  all_goals grind
def Dv.put{v:Bj}{q:Bt}(h:Dv v q){i:Int}(hi:i=0\/i=1){a:Bb}(ha:BO (v.z i) a):Dv v (q.put i a):=by
 rcases hi with rfl | rfl
 ·exact⟨ha,h.y,h.way,h.len⟩
 ·exact⟨h.x,ha,h.way,h.len⟩
def Dv.fly{v:Bj}{q:Bt}(h:Dv v q){d:Int}(ht:d=0\/d=1){ls:List Lt}(hl:∀l∈ls,Pk v.W l):Dv v {q with way:=I2 d q.way ls}:=by
 obtain⟨h1,h2⟩:=jc (v:=v) ht ls q.way hl h.way h.len;exact⟨h.x,h.y,h1,h2⟩
def Dv.sub{v:Bj}{q:Bt}(h:Dv v q){way:List Oe}(hs:way.Sublist q.way):Dv v {q with way:=way}:=
 ⟨h.x,h.y,fun f hf=>h.way f (hs.subset hf),Br hs.length_le h.len⟩
theorem AgE{n:Int}(h:0<=n/\n<=65535):0<=IY n/\IY n<=65535:=by grind [IY]
theorem AgF{W:Nat}(hw:W=8\/W=16\/W=32){n:Nat}(h:n<If (W:Int)):Ix n<If (W:Int):=by
 grind [Ix,If]
theorem AgG{W:Nat}(hw:W=8\/W=16\/W=32){l:Lt}(h:Pk W l)(b:Int):Pk W (l.QI b):=by
 unfold Lt.QI;split
 ·rename_i hb
  have hlt:b.toNat<Y l.ws:=J;refine⟨h.ses,h.kind,h.num,by simp only[List.length_set];exact h.len,?_,h.tag⟩;show(l.ws.set b.toNat _).all okW=true;refine Vd fun x hx=>?_
  have hall:∀x∈l.ws,0<=x/\x<=65535:=fun x hx=>by
   have h9:=EA.1 h.ws x hx;unfold okW AR at h9
   grind
  grind [IY,AgE]
 ·exact⟨h.ses,h.kind,h.num,h.len,h.ws,AgF hw h.tag⟩
theorem AgH{v:Bj}(hv:Gm v){q:Bt}(h:Dv v q)(k:Nat){f:Oe}(hf:f∈q.way):Dv v (v.Tm q k f).1:=by
 obtain⟨ht,hl⟩:=h.way f hf;have h1:=Aft (hv.z f.d) (h.at ht) f.l;have h2:=iN (z:=v.z f.d) (p:=(((v.z f.d).Gj (q.at f.d) f.l).1,((v.z f.d).Gj (q.at f.d) f.l).2.1)) h1 (AfA (v.z f.d) (q.at f.d) f.l);have h3:=(h.sub (List.eraseIdx_sublist q.way k)).put ht h1;have h4:=h3.fly (d:=1-f.d) J h2
 grind [Bj.Tm,Bj.z,AV.Gj,Bt.at,Bt.put,I2]
theorem AgI{v:Bj}(hv:Gm v){q:Bt}(h:Dv v q)(e:Ev):Dv v (v.IZ q e).1:=by
 unfold Bj.IZ;split
 ·exact h
 ·rename_i ha
  have ha:e.a=0\/e.a=1:=J;have hi:=h.at ha;split
  ·split
   ·exact h
   ·exact h.put ha hi.down
  ·split
   ·split
    ·exact h.put ha (hi.phase 0 (q.at e.a).rs AC AC)
    omega
   ·split
    ·exact h
    ·have h1:=Afv (hv.z e.a) hi
     have h2:=iN (z:=v.z e.a) h1 (AfB (v.z e.a) (q.at e.a));have h4:=(h.put ha h1).fly (d:=1-e.a) J h2;have e2:∀(i:Int) (a:Bb),(q.put i a).way=q.way:=fun i a=>by unfold Bt.put;grind
     rw[e2]at h4;exact h4
def AgJ{v:Bj}(hv:Gm v){q:Bt}(h:Dv v q):Dv v (v.MW q).1:=by
 unfold Bj.MW;split
 ·unfold Bj.U5
  have h1:=sx (hv.z 1) h.y (.inr Q) (max q.x.last q.y.last+1) [] (v.FO (max q.x.last q.y.last+1)).clicks;have h2:=sx (hv.z 0) h.x (.inl Q) (max q.x.last q.y.last+1) (v.FO (max q.x.last q.y.last+1)).pulses [];have h3:=iN (z:=v.z 0) (p:=(((v.z 0).Em q.x (max q.x.last q.y.last+1) (v.FO (max q.x.last q.y.last+1)).pulses []).1,((v.z 0).Em q.x (max q.x.last q.y.last+1) (v.FO (max q.x.last q.y.last+1)).pulses []).2.1)) h2 (AfC (v.z 0) _ _ _ _);obtain⟨h4,h5⟩:=jc (v:=v) (d:=1) (.inr Q) _ q.way h3 h.way h.len;exact⟨h2,h1,h4,h5⟩
 omega
theorem de{v:Bj}(hv:Gm v){q:Bt}(h:Dv v q)(e:Ev):Dv v (v.CI q e).1:=by
 unfold Bj.CI;split
 ·exact h
 ·split
  ·exact AgJ hv h
  ·split
   ·exact AgI hv h e
   ·split
    ·exact h
    ·split
     ·exact h
     ·rename_i f hf
      have hm:=DI hf;obtain⟨ht,hl⟩:=h.way f hm;split
      ·split
       ·exact h
       ·rename_i hn
        refine⟨h.x,h.y,fun g hg=>?_,?_⟩
        ·rcases OV.1 hg with hg | hg
         ·exact h.way g hg
         grind
        ·have:=h.len
         grind
      ·split
       ·refine⟨h.x,h.y,fun g hg=>?_,by simp only[List.length_set];exact h.len⟩
        rcases List.mem_or_eq_of_mem_set hg with hg | hg
        ·exact h.way g hg
        ·exact hg▸⟨ht,AgG hv.wd hl e.b⟩
       ·split
        ·exact h.sub (List.eraseIdx_sublist q.way _)
        ·exact AgH hv h _ hm
theorem sY{v:Bj}(hv:Gm v):∀(n:Nat) {q:Bt},Dv v q->Dv v (v.GB n q).1
 | 0,q,h=>h
 | n+1,q,h=>by
  unfold Bj.GB;split
  ·exact h
  ·exact sY hv n (de hv h ⟨2,0,0⟩)
section
variable{S:Nat->Prop}{a:Bb}{i:Nat}{w w':V}{x':BR}{τ τ':Nat->Nat}
structure EN(T:Nat->Prop)(τ τ':Nat->Nat)(w w':V):Prop where
 out:AT (fun k=>T (τ k)) w w'
 tag:∀k,k<↑w->τ' k=τ k
section
variable {T:Nat→Prop} {τ τ' τ'':Nat→Nat} {w w' w'':V}
def EN.refl(T:Nat->Prop)(τ:Nat->Nat)(w:V):EN T τ τ w w:=⟨AT.refl _ _,fun _ _=>rfl⟩
def EN.trans(h:EN T τ τ' w w')(k:EN T τ' τ'' w' w''):EN T τ τ'' w w'':=
 ⟨⟨k.out.os.trans h.out.os,k.out.tape.trans h.out.tape,k.out.output.trans h.out.output,Br h.out.size k.out.size,fun j hj h1=>(k.out.block j (Ck hj h.out.size) (fun e=>h1 (by rw[h.tag j hj]at e;exact e))).trans (h.out.block j hj h1)⟩,
  fun j hj=>(k.tag j (Ck hj h.out.size)).trans (h.tag j hj)⟩
def EN.of(h:Ag w w w'):EN T τ τ w w':=⟨AT.of h,fun _ _=>rfl⟩
theorem Frm.t(h:Frm τ τ' w w' i)(hi:T i):EN T τ τ' w w':=⟨h.out.mono (fun k _ e=>by grind),h.tag⟩
def EN.kp(h:EN T τ τ' w w')(h0:¬T 0):Kp τ τ' w w' (fun k=>T (τ k)):=⟨h.out,h.tag,fun k hk e=>h0 (e▸hk)⟩
theorem Bx.dh{b W nb mb:Nat}{x:BR}{bits:List Bool}(h:Bx τ w i b x W nb mb bits a)(hf:EN T τ τ' w w')(h0:¬T 0)(hi:¬T i):Bx τ' w' i b x W nb mb bits a:=by
 have hb:=(Bm.1 h.row).1;have hk:=hf.kp h0;obtain⟨rv,_,_,_,hr⟩:=h.recs
 exact⟨hf.out.row h.row (by rw[h.tb];exact hi),(hf.tag b hb).trans h.tb,h.mbb,h.num,h.eps.keep hk,h.lim.keep hk,h.li.keep hk,
  h.crs.keep hk (fun k hk e=>(hi (e▸hk)).elim),h.pool.keep hk (by rw[h.pool.tm];exact hi),h.recs.keep hk (fun k hk=>by grind),h.rb⟩
end
structure BW where
 f:Oe
 A:Option AS
 c:Nat
instance:CoeOut BW (Array An):=⟨fun z=>#[U O z.f.d,U O z.f.l.ses,U O z.f.l.kind,U O z.f.l.num,R z.A (Y z.f.l.ws) z.c,U AA z.f.l.tag]⟩
def BW.enc(x:BW):List An:=[U O x.f.d,U O x.f.l.ses,U O x.f.l.kind,U O x.f.l.num,R x.A (Y x.f.l.ws) x.c,U AA x.f.l.tag]
def BW.BY(x:BW):Y x.enc=6:=Q
theorem BW.one(x:BW):∀u∈x.enc,u.oneCell'=true:=by simp[BW.enc,Value.oneCell']
def BW.Im(τ:Nat->Nat)(w:V)(x:BW):Prop:=Imm 1 BD τ w (R x.A (Y x.f.l.ws) x.c) x.f.l.ws
def di(τ:Nat->Nat)(w:V)(i:Nat)(v:An)(way:List Oe):Prop:=
 ∃fv:List BW,fv.map BW.f=way/\Own w 0 41 6 BW.enc v fv/\(∀x∈fv,x.Im τ w)/\∀k,v.ownBlock=I k->τ k=i
def di.keep{v:An}{way:List Oe}(h:di τ w i v way)(hf:Kp τ τ' w w' S)(hv:∀k,v.ownBlock=I k->¬S k):di τ' w' i v way:=by
 obtain⟨fv,h1,h2,h3,h4⟩:=h;exact⟨fv,h1,hf.out.own h2 hv,fun x hx=>Imm.keep (h3 x hx) hf,fun k hk=>(hf.tag k (Cp h2 k hk).2).trans (h4 k hk)⟩
structure XA(τ:Nat->Nat)(w:V)(a b c:An)(f:Flt):Prop where
 pl:Imm 5 AQ.enc τ w a f.pulses
 cl:Imm 2 Bf.enc τ w b f.clicks
 nt:Imm 4 CA.enc τ w c f.notes
def XA.keep{a b c:An}{f:Flt}(h:XA τ w a b c f)(hf:Kp τ τ' w w' S):XA τ' w' a b c f:=⟨h.pl.keep hf,h.cl.keep hf,h.nt.keep hf⟩
structure Dg where
 b:Nat
 k:Nat
 i:Nat
 j:Nat
 X:Kw
 b0:Nat
 x0:BR
 n0:Nat
 m0:Nat
 b1:Nat
 x1:BR
 n1:Nat
 m1:Nat
def Dg.T(M:Dg)(t:Nat):Prop:=t=M.k\/t=M.i\/t=M.j
structure Dg.jd(M:Dg):Prop where
 k0:M.k≠0
 i0:M.i≠0
 j0:M.j≠0
 ik:M.i≠M.k
 jk:M.j≠M.k
 ij:M.i≠M.j
def Dg.jd.zero{M:Dg}(h:M.jd):¬M.T 0:=fun e=>by
 rcases e with e | e | e
 ·exact h.k0 e.symm
 ·exact h.i0 e.symm
 ·exact h.j0 e.symm
structure CO(τ:Nat->Nat)(w:V)(M:Dg)(v:Bj)(q:Bt):Prop where
 row:Gu w M.b M.X
 tb:τ M.b=M.k
 tags:M.jd
 s:M.X.s=v.s
 rules:Imm 5 C5.enc τ w M.X.rules v.rules
 light:M.X.light=v.light
 p0:M.X.x0=AI (I ⟨M.b0,0,Z⟩)
 p1:M.X.x1=AI (I ⟨M.b1,0,Z⟩)
 t0:Bx τ w M.i M.b0 M.x0 v.W M.n0 M.m0 v.bits q.x
 t1:Bx τ w M.j M.b1 M.x1 v.W M.n1 M.m1 v.bits q.y
 z0:M.x0.z v.W v.bits=v.z 0
 z1:M.x1.z v.W v.bits=v.z 1
 way:di τ w M.k M.X.way q.way
 wb:∀k,M.X.way.ownBlock=I k->k≠M.b
 fl:XA τ w M.X.f0 M.X.f1 M.X.f2 q.fl
 sh:M.X.shift=q.fl.shift
section
variable {τ τ':Nat→Nat} {w w':V} {M:Dg} {v:Bj} {q:Bt}
theorem CO.dh{T:Nat->Prop}(h:CO τ w M v q)(hf:EN T τ τ' w w')(h0:¬T 0)(hk:¬T M.k)(hi:¬T M.i)(hj:¬T M.j):CO τ' w' M v q:=by
 have kp:=hf.kp h0;have hb:=(Bm.1 h.row).1;obtain⟨fv,_,_,_,hw⟩:=h.way;exact⟨hf.out.row h.row (by rw[h.tb];exact hk),(hf.tag _ hb).trans h.tb,h.tags,h.s,h.rules.keep kp,h.light,h.p0,h.p1,h.t0.dh hf h0 hi,h.t1.dh hf h0 hj,h.z0,h.z1,h.way.keep kp (fun k e=>by grind),h.wb,h.fl.keep kp,h.sh⟩
def CO.on(h:CO τ w M v q)(hb:Ag w w w'):CO τ w' M v q:=
 h.dh (T:=fun _=>False) (EN.of hb) id id id id
def CO.Gp(h:CO τ w M v q)(hf:Frm τ τ' w w' M.i)(fx:Fix M.x0 x')(hs:Bx τ' w' M.i M.b0 x' v.W M.n0 M.m0 v.bits a):CO τ' w' {M with x0:=x'} v {q with x:=a}:=by
 have t:=h.tags;have kp:=hf.kp t.i0;have hb:=(Bm.1 h.row).1;obtain⟨fv,_,_,_,hw⟩:=h.way;exact⟨hf.out.row h.row (by rw[h.tb];exact t.ik.symm),(hf.tag _ hb).trans h.tb,⟨t.k0,t.i0,t.j0,t.ik,t.jk,t.ij⟩,h.s,h.rules.keep kp,h.light,h.p0,h.p1,hs,h.t1.keep hf t.i0 t.ij,by rw[<-h.z0];unfold BR.z;rw[fx.s,fx.side],h.z1,h.way.keep kp (fun k e=>by rw[hw k e];exact t.ik.symm),h.wb,h.fl.keep kp,h.sh⟩
def CO.Eg(h:CO τ w M v q)(hf:Frm τ τ' w w' M.j)(fx:Fix M.x1 x')(hs:Bx τ' w' M.j M.b1 x' v.W M.n1 M.m1 v.bits a):CO τ' w' {M with x1:=x'} v {q with y:=a}:=by
 have t:=h.tags;have kp:=hf.kp t.j0;have hb:=(Bm.1 h.row).1;obtain⟨fv,_,_,_,hw⟩:=h.way;exact⟨hf.out.row h.row (by rw[h.tb];exact t.jk.symm),(hf.tag _ hb).trans h.tb,⟨t.k0,t.i0,t.j0,t.ik,t.jk,t.ij⟩,h.s,h.rules.keep kp,h.light,h.p0,h.p1,h.t0.keep hf t.j0 t.ij.symm,hs,h.z0,by rw[<-h.z1];unfold BR.z;rw[fx.s,fx.side],h.way.keep kp (fun k e=>by rw[hw k e];exact t.jk.symm),h.wb,h.fl.keep kp,h.sh⟩
end
end
section
variable{W mb:Nat}{s s':BX}{w:V}
def XC:Bb:={ph:=0,rs:=0,pulses:=[],clicks:=[],wait:=[],sent:=Z,took:=Z,waited:=0,ledger:=[],shift:=0,kept:=[],slots:=[],decoys:=[],block:=[],n:=0,t:=0,course:=Z,has:=false,last:=0,recs:=[],used:=[]}
theorem Arr.blk{α:Type}{sz:Nat}{enc:α->List An}{B:Nat}{A:Option AS}{l:List α}(h:Arr sz enc w B A l)(hl:l≠[])(hs:∀x,0<(enc x).length):∀a,A=I a->a.block<B/\∃v j,E w ⟨a.block,j,Z⟩=I v:=by
 obtain⟨b,off,rfl,hb,hc⟩:=h hl;intro a e;cases e;refine⟨hb,?_⟩;cases l with
 | nil=>grind
 | cons x l=>exact⟨_,_,hc 0 x Q 0 _ (CH (hs x))⟩
theorem Kv.AgK{u:List Nat}(h:Kv w mb u){v:An}{j:Nat}(hc:E w ⟨mb,j,Z⟩=I v):False:=by
 obtain⟨D,⟨es,clock,hb,r⟩,h7,h8⟩:=h;unfold World.cell? at hc
 grind
theorem Made.stt{w':V}{b pb nb:Nat}{side:Int}{l:List Bool}{τ:Nat->Nat}(m:Made w w' b s s' side W pb nb mb l)(fr:BU τ w)(hb:Ag w w w')(i:Nat):
  ∃τ',Frm τ τ' w w' i/\BU τ' w'/\(∀k,τ' k=τ k\/τ' k=i)/\Bx τ' w' i b ⟨s',side,pb,R Z 0 0,0,Jn⟩ W nb mb l XC:=by
 obtain⟨y,hy,pool,iny,hby⟩:=m.low;obtain⟨lo1,lo2,Rs,lo4⟩:=m.lo;have hbl:=(Bm.1 m.at_).1;have Pn:mb<b:=qrb hy pool.us.lt;have hpl:pb<b:=by rw[<-hy];exact Ch y _ pool.c0
 have hnl:nb<b:=by rw[<-hy];exact Ch y _ pool.d0
 obtain⟨τ',hτ⟩:∃t,t=Fh τ (fun k=>k=b\/k=mb) i:=⟨_,Q⟩
 have IU:∀k,k≠b->k≠mb->τ' k=τ k:=fun k h1 h2=>by rw[hτ];grind [Fh,BU]
 have tz:∀k,w.heap.size<=k->k≠b->k≠mb->τ' k=0:=fun k h0 h1 h2=>(IU k h1 h2).trans (fr k h0)
 have part:∀{A:Option AS} {c:Nat} {q:List Nat},Nt y A c q->(∀a,A=I a->w.heap.size<=a.block)->q≠[]->∀a,A=I a->a.block<↑w'/\τ' a.block=0:=fun{A c q} n h0 hq a e=>by
  obtain⟨g1,v,j,g2⟩:=n.arr.blk hq (fun _=>by simp[CR]) a e;have g3:a.block≠mb:=fun e2=>pool.us.AgK (qrb e2 g2)
  exact⟨J,tz _ (h0 a e) J g3⟩
 have in':=iny.on hby
 have f:=m.frn
 refine⟨τ',⟨AT.of hb,fun k hk=>IU k J J⟩,fun k hk=>tz k J J J,fun k=>?_,
  m.at_,?_,J,⟨rfl,rfl,rfl,rfl,rfl,rfl,rfl,rfl⟩,⟨in'.e,part iny.e.n (fun a e=>f a (.inl e)),part iny.e.d (fun a e=>f a (.inr (.inl e)))⟩,⟨in'.l,part iny.l.n (fun a e=>f a (.inr (.inr (.inl e)))),part iny.l.d (fun a e=>f a (.inr (.inr (.inr e))))⟩,
  ⟨Imm.nil,Imm.nil,Imm.nil,.inl ⟨rfl,rfl⟩,.inl ⟨rfl,rfl⟩,Imm.nil,Imm.nil,Imm.nil,SV.nil,Imm.nil⟩,.inl ⟨rfl,rfl⟩,⟨pool.on hby,?_,tz pb lo2 J pool.bm,tz nb Rs J pool.nm,fun A c hc a e=>?_⟩,⟨[],Own.nil,rfl,fun k r q hr=>(by cases hr),fun k e=>(by cases e)⟩,fun k e=>(by cases e)⟩
 ·by_cases h1:k=b\/k=mb
  ·exact .inr (qrf hτ (US h1))
  grind
 ·rw[hτ];exact US (.inl Q)
 ·rw[hτ];exact US (.inr Q)
 ·obtain⟨A',c',g1,_,_,_,_,g6⟩:=pool.c2
  have g2:=AK hby g1;have g3:=m.pa A c hc a e;rw[g2]at hc;cases hc;obtain⟨g7,g8⟩:=g6 a e;exact tz _ g3 J g7
theorem Jm.ok(h:Jm s s')(he:Kt s=0)(hw:s.width=(W:Int))(h1:s.seed<18446744073709551616)(h2:s.pseed<18446744073709551616):Gi s' W:=by
 have hb:TG s=true:=by grind [TG,Jm,Kt]
 obtain⟨_,_,_,_,_,_,_,_,rfl⟩:=h;exact⟨hb,hw,h1,h2⟩
end
def prs0:Bt:=⟨XC,XC,[],⟨[],[],[],0⟩⟩
def StK(τ:Nat->Nat)(w:V)(i:Nat)(s:BX)(side:Int)(W:Nat)(l:List Bool)(v:An):Prop:=
 ∃b x nb mb,v=AI (I ⟨b,0,Z⟩)/\Bx τ w i b x W nb mb l XC/\Jm s x.s/\x.side=side
def StK.keep{τ τ':Nat->Nat}{w w':V}{i j:Nat}{s:BX}{side:Int}{W:Nat}{l:List Bool}{v:An}(h:StK τ w i s side W l v)(hf:Frm τ τ' w w' j)(hj:j≠0)(UK:j≠i):StK τ' w' i s side W l v:=by
 obtain⟨b,x,nb,mb,h1,h2,h3,h4⟩:=h;exact⟨b,x,nb,mb,h1,h2.keep hf hj UK,h3,h4⟩
def Wm(s:BX)(vr:An)(light:Nat)(x0 x1:An):Kw:=⟨s,vr,light,x0,x1,R Z 0 0,R Z 0 0,R Z 0 0,R Z 0 0,0⟩
structure PrK(τ0 τ:Nat->Nat)(w0 w:V)(B kt i j:Nat)(s s':BX)(vr:An)(r:List C5)(light W:Nat)(l:List Bool)(k:Nat)(x0 x1:An):Prop where
 row:Gu w B (Wm s' vr light x0 x1)
 tb:τ B=kt
 fr:BU τ w
 old:∀k,k<↑w0->τ k=τ0 k
 st0:0<k->StK τ w i s 0 W l x0
 st1:1<k->StK τ w j s 1 W l x1
 imm:Imm 5 C5.enc τ w vr r
 at_:EV w w0 s
 hb:Ag w0 w0 w
 lt:↑w0<B
section
variable {τ0 τ τ':Nat→Nat} {w0 w w':V} {B kt i j:Nat} {s s':BX} {vr vr2:An} {r:List C5} {light W:Nat} {l:List Bool} {x0 x1:An}
theorem PrK.first(h:PrK τ0 τ w0 w B kt i j s s' vr r light W l 0 x0 x1)(hk:kt≠0)(hi:i≠0)(QR:kt≠i)(fr:BU τ' w')(hf:Frm τ τ' w w' i)(hb:Ag w w w')(hs:StK τ' w' i s 0 W l vr2):
  PrK τ0 τ' w0 (Ai w' ⟨B,37,Z⟩ vr2) B kt i j s s' vr r light W l 1 vr2 x1:=by
 have hB:=(Bm.1 h.row).1;have tb:=(hf.tag B hB).trans h.tb;have f2:Frm τ' τ' w' (Ai w' ⟨B,37,Z⟩ vr2) kt:=Frm.Ik (AT.set (S:=fun k=>k=B) Q) (fun k _ e=>by grind);have q:=AH h.hb hb;exact⟨(h.row.on hb).set 37 vr2 Q,tb,fr.on f2.out.size,fun k hk=>(hf.tag k (Ck hk h.hb.size)).trans (h.old k hk),fun _=>hs.keep f2 hk QR,fun e=>absurd e AC,(h.imm.keep (hf.kp hi)).keep (f2.kp hk),(h.at_.on hb).on2 h.lt,q.setCell (EO h.lt) _,h.lt⟩
theorem PrK.second(h:PrK τ0 τ w0 w B kt i j s s' vr r light W l 1 x0 x1)(hk:kt≠0)(hi:i≠0)(hj:j≠0)(QR:kt≠i)(hkj:kt≠j)(Lf:j≠i)(fr:BU τ' w')(hf:Frm τ τ' w w' j)(hb:Ag w w w')(hs:StK τ' w' j s 1 W l vr2):
  PrK τ0 τ' w0 (Ai w' ⟨B,38,Z⟩ vr2) B kt i j s s' vr r light W l 2 x0 vr2:=by
 have hB:=(Bm.1 h.row).1;have tb:=(hf.tag B hB).trans h.tb;have f2:Frm τ' τ' w' (Ai w' ⟨B,38,Z⟩ vr2) kt:=Frm.Ik (AT.set (S:=fun k=>k=B) Q) (fun k _ e=>by grind);have q:=AH h.hb hb;exact⟨(h.row.on hb).set 38 vr2 Q,tb,fr.on f2.out.size,fun k hk=>(hf.tag k (Ck hk h.hb.size)).trans (h.old k hk),fun _=>((h.st0 AC).keep hf hj Lf).keep f2 hk QR,fun _=>hs.keep f2 hk hkj,(h.imm.keep (hf.kp hj)).keep (f2.kp hk),(h.at_.on hb).on2 h.lt,q.setCell (EO h.lt) _,h.lt⟩
end
def NpS(τ:Nat->Nat)(w:V)(s:BX)(r:List C5)(light W:Nat)(l:List Bool)(kt i j:Nat)(e:Ending)(w':V):Prop:=
 ∃τ' M v,e=AN (Be #[AI (I ⟨M.b,0,Z⟩),U O 0])/\Ag w w w'/\(∀k,k<↑w->τ' k=τ k)/\BU τ' w'/\CO τ' w' M v prs0/\Gm v/\(M.k=kt/\M.i=i/\M.j=j)/\(Jm s v.s/\Jm s v.s0/\Jm s v.s1)/\v.rules=r/\v.light=light/\v.W=W/\v.bits=l
def PrK.done{τ0 τ:Nat->Nat}{w0 w:V}{B kt i j:Nat}{s s':BX}{vr:An}{r:List C5}{light W:Nat}{l:List Bool}{x0 x1:An}(h:PrK τ0 τ w0 w B kt i j s s' vr r light W l 2 x0 x1)(hk:kt≠0)(hi:i≠0)(hj:j≠0)(QR:kt≠i)(hkj:kt≠j)(Lf:j≠i)
  (kep:Jm s s') (he:Kt s=0) (hw:s.width=(W:Int)) (h1:s.seed<18446744073709551616) (h2:s.pseed<18446744073709551616) (hW:W=8\/W=16\/W=32) (hl:Y l<=65536) (hr:LZ r=0/\r.all DU=true/\Y r<=32):
  NpS τ0 w0 s r light W l kt i j (AN (Be #[AI (I ⟨B,0,Z⟩),U O 0])) w:=by
 obtain⟨b0,y0,n0,m0,e0,s0,k0,d0⟩:=h.st0 AC;obtain⟨b1,y1,n1,m1,e1,s1,k1,d1⟩:=h.st1 AC;refine⟨τ,⟨B,kt,i,j,Wm s' vr light x0 x1,b0,y0,n0,m0,b1,y1,n1,m1⟩,⟨s',y0.s,y1.s,r,light,W,l⟩,Q,h.hb,h.old,h.fr,⟨h.row,h.tb,⟨hk,hi,hj,QR.symm,hkj.symm,Lf.symm⟩,Q,h.imm,Q,e0,e1,s0,s1,?_,?_,⟨[],Q,Own.nil,fun x hx=>(by cases hx),fun k e=>(by cases e)⟩,fun k e=>(by cases e),⟨Imm.nil,Imm.nil,Imm.nil⟩,rfl⟩,⟨k0.ok he hw h1 h2,k1.ok he hw h1 h2,hW,hl,hr⟩,⟨rfl,rfl,rfl⟩,⟨kep,k0,k1⟩,rfl,rfl,rfl,rfl⟩
 ·unfold BR.z Bj.z Bj.st;rw[d0];rfl
 ·unfold BR.z Bj.z Bj.st;rw[d1];rfl
def AgL(s:BX)(AW:Option AS)(cr:Nat)(r:List C5)(A:Option AS)(c:Nat)(l:List Bool)(light:Nat)(w:V)(h:s.In w)(hR:Arr 5 C5.enc w w AW r)(nR:AW=Z->cr=0)(hr:Y r<=cr)(hr2:LZ r=0/\r.all DU=true/\Y r<=32)
  (hA:Arr 1 C4 w w A l) (nA:A=Z->c=0) (hl:Y l<=c) (hc:c<=maxLen) (hl2:Y l<=65536)
  (hf:Y s.eps.l<=1000/\Y s.eps.m<=1000/\Y s.lim.l<=1000/\Y s.lim.m<=1000) (he:Kt s=0) (W:Nat) (hw:s.width=(W:Int)) (hW:W=8\/W=16\/W=32) (h1:s.seed<18446744073709551616) (h2:s.pseed<18446744073709551616)
  (τ:Nat->Nat) (fr:BU τ w) (kt i j:Nat) (hk:kt≠0) (hi:i≠0) (hj:j≠0) (QR:kt≠i) (hkj:kt≠j) (Lf:j≠i):
  AL AE 53 #[s.val,R AW (Y r) cr,R A (Y l) c,U AA light] w fun e w'=>NpS τ w s r light W l kt i j e w':=by
 have q0:=AB (Ae w w) (N s.cs 62);have Ci:=EV.new w s;have hsz:(prog.info? 62).map (·.size)=I s.cs.size:=(qiz 62 34)
 have cO:=qbw w fun w' hb=>lI s w' (h.on hb)
 have cR:=qbw w fun w' hb=>ZV AW cr r w' (hR.on hb) J
 have cN:=qbw w fun w' hb (k:Int)=>mK s k A c l w' (h.on hb) (hA.on hb) nA hl hc J hf
 have cC:=qbw w fun w' hb=>zA AW cr r w' (hR.on hb) nR hr J
 have cK:=qbw w fun w' hb=>mJ s w' (h.on hb) hf
 have n0:Md s 0 (Y l)=0:=mO he Q J;have n1:Md s 1 (Y l)=0:=mO he Q J;have Nn:=F (JQ n0 n1);have Fin:=F (fun(B:Nat) (s':BX) (vr:An) (τ':Nat->Nat) (wr:V) (x0 x1:An) (hd:PrK τ τ' w wr B kt i j s s' vr r light W l 2 x0 x1) (kep:Jm s s')=>hd.done hk hi hj QR hkj Lf kep he hw h1 h2 hW hl2 hr2);have Tg:=F (show kt≠0/\i≠0/\j≠0/\kt≠i/\kt≠j/\j≠i from⟨hk,hi,hj,QR,hkj,Lf⟩);have Wd:=F hw;simp only[he]at cO;simp only[hr2.1]at cR;clear he hr2 n0 n1 hk hi hj QR hkj Lf hw h1 h2 hW;unfold BX.val at cO cN cK ⊢;go_in;go_upto_region 1 with fail;obtain⟨w1,BJ⟩:=Az (Ao w (N s.cs 62));rw[BJ]at q0 Ci ⊢;clear BJ;go_wp2_with(refine JN 62 _ Q w 0 Q s.cs _ (fun j v hv=>by rw[EE];exact(Ci.c j).trans hv) underlying62 Q hsz (by rfl) ?_);refine gqz (cO _ q0) fun w2 hb2=>?_;have Fy:=Ci.on hb2;have q2:=AH q0 hb2;go_wp2_with fail;refine gqz (cR _ q2) fun w3 hb3=>?_;have EH:=Fy.on hb3;have q3:=AH q2 hb3;go_wp2_with(refine JN 62 _ Q w 0 Q s.cs _ (fun j v hv=>by rw[EE];exact(EH.c j).trans hv) underlying62 Q hsz (by rfl) ?_);refine(cK _ q3).mono ?_;rintro e w4⟨s',rfl,kep,in4,frn,hb4⟩;have GV:=EH.on hb4;have q4:=AH q3 hb4;go_wp2_with fail;refine(cC _ q4).mono ?_;rintro e w5⟨vr,rfl,owr,Bh⟩;have OH:=GV.on Bh;have q5:=AH q4 Bh;have JB:=fr.on q4.size;have Iu:=Own.imm owr C5.BY JB;obtain⟨Ar,kr,rfl,-,-,-,-⟩:=owr.form C5.BY;have Kp':=F kep;clear owr in4 frn kep;go_upto_region 8 with(refine Qc rfl 120 _ rfl #[(0,Av true),(1,Ba s'.cs),(2,R Ar (Y r) kr),(3,U AA light)] AG (Wm s' (R Ar (Y r) kr) light (AI Z) (AI Z)).cs AG ?_)
 have bP:=AB (Ae w5 w5) (N (Wm s' (R Ar (Y r) kr) light (AI Z) (AI Z)).cs 120);have P6:=Gu.new w5 (Wm s' (R Ar (Y r) kr) light (AI Z) (AI Z));obtain⟨B,hB⟩:=Az (w5.heap.size);have hwB:↑w<B:=by rw[<-hB];exact Ck (Bm.1 OH).1 (Bg _)
 have Is:=fr.on q5.size;have hs6:(Ao w5 (N (Wm s' (R Ar (Y r) kr) light (AI Z) (AI Z)).cs 120)).heap.size=B+1:=by rw[<-hB];simp
 have q6:=AH q5 bP;have JO:=OH.on bP;obtain⟨w6,Ge⟩:=Az (Ao w5 (N (Wm s' (R Ar (Y r) kr) light (AI Z) (AI Z)).cs 120));rw[Ge]at bP P6 hs6 q6 JO ⊢;rw[hB]at P6 ⊢;obtain⟨τ6,hτ6⟩:∃t,t=Fh τ (fun k=>k=B) kt:=⟨_,Q⟩
 have f56:Frm τ τ6 w5 w6 kt:=⟨AT.of bP,fun k hk=>by rw[hτ6];exact JY (fun e=>by omega)⟩
 have K0:PrK τ τ6 w w6 B kt i j s s' (R Ar (Y r) kr) r light W l 0 (AI Z) (AI Z):=
  ⟨P6,qrf hτ6 (US Q),fun k hk=>by rw[hτ6,JY (fun e=>by omega)];exact Is k J,fun k hk=>by rw[hτ6];exact JY (fun e=>by omega),fun e=>absurd e AC,fun e=>absurd e AC,Iu.keep (f56.kp Tg.out.1),JO,q6,hwB⟩
 clear Ge hB bP P6 hs6 q6 JO f56 Is JB Iu hτ6 OH q5 GV q4 EH q3 Fy q2 q0 Ci hb2 hb3 hb4 Bh;go_wp2_with fail;go_loopw [33] (fun i' wr=>∃(k:Nat) (x0 x1:An) (τ':Nat->Nat),k<=2/\i'=U O k/\PrK τ τ' w wr B kt i j s s' (R Ar (Y r) kr) r light W l k x0 x1) (fun i _=>2-(intOf i).toNat);exact⟨0,_,_,τ6,J,rfl,K0⟩
 obtain⟨k,x0,x1,τ',hk,rfl,K⟩:=hrel;obtain⟨w7,rfl⟩:=qgn wr;clear K0;rcases(show k=0\/k=1\/k=2 by omega)with rfl | rfl | rfl
 case inr.inr=>
  go_wp2;go_ret2;exact Fin.out _ _ _ _ _ _ _ K Kp'.out
 ·have cN2:=cN w7 K.hb 0
  have Ax:=K.at_;have KH:=F K;clear K;simp only[show((0:Nat):Int)=0 from rfl];go_wp2_with(refine JN 62 _ Q w 0 Q s.cs _ (fun j v hv=>by rw[EE];exact(Ax.c j).trans hv) underlying62 Q hsz (by rfl) ?_);refine cN2.mono ?_;rintro e w8⟨v,rfl,Cv,BI,hno⟩;have e4:=Nn.out.1;obtain⟨b2,s2,W2,pb,nb,mb,rfl,md⟩:=BI e4;obtain rfl:W2=W:=by have:=md.wid;have:=Wd.out;omega
  obtain⟨τ2,f2,Ej,-,st⟩:=md.stt KH.out.fr Cv i;have K8:=F (KH.out.first (vr2:= AI (I ⟨b2,0,Z⟩)) Tg.out.1 Tg.out.2.1 Tg.out.2.2.2.1 Ej f2 Cv ⟨b2,_,_,_,rfl,st,md.kep,rfl⟩);rw[e4];have P8:=KH.out.row.on Cv;have f8:=P8.fr 37;have y8:E w8 ⟨B,37,Z⟩=I x0:=P8.c 37;clear BI hno e4 md st f2 Ej P8 cN2 Ax;go_wp2_with fail;exact⟨⟨1,_,_,τ2,J,Q,K8.out⟩,by simp[intOf]⟩
 ·have cN2:=cN w7 K.hb 1
  have Ax:=K.at_;have KH:=F K;clear K;simp only[show((1:Nat):Int)=1 from rfl];go_wp2_with(refine JN 62 _ Q w 0 Q s.cs _ (fun j v hv=>by rw[EE];exact(Ax.c j).trans hv) underlying62 Q hsz (by rfl) ?_);refine cN2.mono ?_;rintro e w8⟨v,rfl,Cv,BI,hno⟩;have e4:=Nn.out.2;obtain⟨b2,s2,W2,pb,nb,mb,rfl,md⟩:=BI e4;obtain rfl:W2=W:=by have:=md.wid;have:=Wd.out;omega
  obtain⟨τ2,f2,Ej,-,st⟩:=md.stt KH.out.fr Cv j;have K8:=F (KH.out.second (vr2:= AI (I ⟨b2,0,Z⟩)) Tg.out.1 Tg.out.2.1 Tg.out.2.2.1 Tg.out.2.2.2.1 Tg.out.2.2.2.2.1 Tg.out.2.2.2.2.2 Ej f2 Cv ⟨b2,_,_,_,rfl,st,md.kep,rfl⟩);rw[e4];have P8:=KH.out.row.on Cv;have f8:=P8.fr 38;have y8:E w8 ⟨B,38,Z⟩=I x1:=P8.c 38;clear BI hno e4 md st f2 Ej P8 cN2 Ax;go_wp2_with fail;exact⟨⟨2,_,_,τ2,J,Q,K8.out⟩,by simp[intOf]⟩
def Dv.init(v:Bj):Dv v prs0:=by
 have iv:∀z:AV,BO z XC:=fun z=>
  ⟨AC,fun e=>absurd e (show¬(0:Int)=1 by decide),AC,AC,fun e=>absurd e (show¬(0:Int)=1 by decide),rfl,rfl,fun l e=>(by cases e),fun l e=>(by cases e),BM _,rfl,rfl,rfl,rfl,fun _ e=>(by cases e),fun _ e=>(by cases e),fun _ e=>(by cases e),fun c m e=>(by cases e),fun r e=>(by cases e),by simp[XC],fun r e=>(by cases e),fun e=>absurd e (show¬(0:Int)=1 by decide),fun e=>absurd e (show¬(0:Int)=1 by decide)⟩
 exact⟨iv _,iv _,fun f hf=>(by cases hf),BM _⟩
abbrev Iy:={r:EZ // r.bv.oneCell'=true/\r.lv.oneCell'=true/\r.kv.oneCell'=true}
def Iy.enc(r:Iy):List An:=r.1.enc
def Iy.BY(r:Iy):Y r.enc=6:=Q
theorem Iy.one(r:Iy):∀u∈r.enc,u.oneCell'=true:=by
 obtain⟨h1,h2,h3⟩:=r.2;intro u hu;simp only[Iy.enc,EZ.enc,List.mem_cons,List.not_mem_nil,or_false]at hu;rcases hu with rfl | rfl | rfl | rfl | rfl | rfl
 ·rfl
 ·exact h1
 ·rfl
 ·rfl
 ·exact h2
 ·exact h3
def Zb:(prog.info? 41).map (fun i=>(i.zero,i.size,i.bytes))=I (I (Ba #[U O 0,U O 0,U O 0,U O 0,R Z 0 0,U AA 0]),6,64):=AG
def AgN:(prog.info? 70).map (fun i=>(i.zero,i.size,i.bytes))=I (I (Ba #[U O 0,R Z 0 0,U O 0,U O 0,R Z 0 0,R Z 0 0]),6,96):=AG
def ax:ClC 101 70 6 Iy.enc:=by
 have uT:=Tryz.underlying64;have hI:=AgN;have SH:=Iy.BY;have on:=Iy.one;have fF:=func101;have Qb:=ntmps101;exact clW
theorem t7{α:Type}{P:α->Prop}:∀(l:List α),(∀r∈l,P r)->∃m:List {r // P r},m.map (·.1)=l
 | [],_=>⟨[],Q⟩
 | r::l,h=>by
  obtain⟨m,e⟩:=t7 l (fun y hy=>h y (by simp[hy]));exact⟨⟨r,h r AO⟩::m,by simp[e]⟩
theorem I4{w:V}{B e:Nat}{v:An}{m:List Iy}:Own w B e 6 Iy.enc v m↔Own w B e 6 EZ.enc v (m.map (·.1)):=by
 unfold Own;rw[Dz,List.flatMap_map];exact Iff.rfl
theorem Xf.subs{τ:Nat->Nat}{w:V}{i:Nat}{v:An}{l:List Rc}(h:Xf τ w i v l):
  ∃rw:List Iy,Own w 0 70 6 Iy.enc v rw/\Y rw=Y l/\∀(k:Nat) (r:EZ) (q:Rc),(rw.map (·.1))[k]?=I r->l[k]?=I q->DS τ w r q:=by
 obtain⟨rv,h1,h2,h3,_⟩:=h
 obtain⟨m,rfl⟩:=t7 (P:=fun r:EZ=>r.bv.oneCell'=true/\r.lv.oneCell'=true/\r.kv.oneCell'=true) rv (fun r hr=>by
  obtain⟨k,hk,rfl⟩:=List.getElem_of_mem hr;have hq:=h3 k _ (l[k]'(by omega)) (CH hk) (CH J);obtain⟨_,_,e1,_⟩:=hq.b;obtain⟨_,_,e2,_⟩:=hq.l;obtain⟨_,_,e3,_⟩:=hq.k;rw[e1,e2,e3];exact⟨Q,Q,Q⟩)
 grind [Own,Iy.enc,EZ.enc,I4]
def tf:Array An:=#[Av false,U O 0,U O 0,U O 0,U O 0,U O 0,U O 0,U O 0,U O 0,U O 0,U O 0,U O 0,U O 0,U O 0,U O 0,U O 0,U O 0,U O 0,U O 0,U O 0,U O 0,U O 0,U O 0,U O 0,R Z 0 0,R Z 0 0,R Z 0 0,R Z 0 0,U O 0,U O 0,U AA 0,U O 0,U O 0,U O 0,U AA 0,U O 0,AI Z,R Z 0 0,U O 0,U O 0,U O 0,R Z 0 0,R Z 0 0,R Z 0 0,AI Z,AI Z,U O 0,R Z 0 0,U O 0,R Z 0 0,R Z 0 0,R Z 0 0,R Z 0 0,U O 0,U O 0,AI Z,Av false]
section
variable {τ:Nat→Nat} {w:V} {i b W nb mb:Nat} {x:BR} {bits:List Bool} {a:Bb}
def AgV(h:Bx τ w i b x W nb mb bits a)(FE:x.cs.all (·.oneCell')=true)(hc:∀c m,a.course=I (c,m)->Y m.b<=100000/\Y m.told<=3000000000)(rw:List Iy)(hr:Own w 0 70 6 Iy.enc x.recs rw)(hrl:Y rw<=3000000000):
  AL AE 43 #[AI (I ⟨b,0,Z⟩)] w fun e w'=>∃p' FC Fi v' cv' L1 L2,e=AN (AI (I ⟨w,0,Z⟩))/\Ag w w w'/\Cu w' w {x with pool:=p',recs:=v',k:={x.k with course:=cv'}}/\
   CG w' p' FC Fi W bits a.used/\(↑w<p'/\p'<L1)/\(↑w<FC/\FC<L1)/\(↑w<Fi/\Fi<L1)/\(∀A' c',E w' ⟨p',2,Z⟩=I (R A' (Y bits) c')->∀a,A'=I a->w.heap.size<a.block/\a.block<L1)/\
   Own w' L1 70 6 Iy.enc v' rw/\(∀k,v'.ownBlock=I k->k<L2)/\L1<=L2/\((a.course=Z/\cv'=AI Z)\/∃(c:Cas) (m:BP) (M M':Mem),a.course=I (c,m)/\x.k.course=AI (I ⟨M.g,0,Z⟩)/\Cj w c m M/\c.Ok/\c.at .stop m/\(∀k,M.lo<=k->k<M.hi->τ k=0)/\cv'=AI (I ⟨M'.g,0,Z⟩)/\Cj w' c m M'/\(∀k,M'.T k->L2<=k)/\M'.lo=M.lo/\M'.hi=M.hi):=by
 have cV:=Qk b x w h.row;have hsz:(prog.info? 142).map (·.size)=I x.cs.size:=(qiz 142 57)
 have hC:=fun(j:Nat) (v:An) (hv:x.cs[j]?=I v)=>(h.row.c j).trans hv
 go_in;go_upto_region 3 with(go_at_call 70;refine mqv (cV) ?_)
 refine wp_region_lit ?_;go_upto_region 4 with(first | (refine JN 142 _ rfl b 0 rfl x.cs _ (fun j v hv=>by rw[EE];exact hC j v hv) underlying142 rfl hsz (by rfl) ?_) | (refine Great.wpList_allocTo rfl (I 3) rfl (AI (I ⟨w,0,Z⟩)) (N tf 142) AG ?_) | (refine Mc rfl 142 _ _ rfl w x.cs AG AG 142 tf (CB w _) hsz rfl FE ?_))
 rw[World.setRow_alloc_new];refine zp ?_;have q1:=AB (Ae w w) (N x.cs 142);have R1:Cu (Ao w (N x.cs 142)) w x:=CB w _;have Qd:↑w<(Ao w (N x.cs 142)).heap.size:=AO;obtain⟨w1,BJ⟩:=Az (Ao w (N x.cs 142));obtain⟨B,hB⟩:=Az (w.heap.size);rw[BJ]at q1 R1 Qd ⊢;rw[hB]at R1 Qd ⊢;clear BJ cV hC;have h1:=h.on q1;have x36:E w1 ⟨b,36,Z⟩=I (AI (I ⟨x.pool,0,Z⟩)):=h1.row.c 36;have cP:=AeU x.pool nb mb W bits a.used w1 h1.pool.at_;go_wp2_with fail;refine cP.mono ?_;rintro e w2⟨p',FC,Fi,rfl,P2,g1,g2,g3,g4,hb2⟩;have q2:=AH q1 hb2;have R2:=R1.on hb2;have y36:=R2.c 36;have f36:=R2.fr 36;have R3:Cu (Ai w2 ⟨B,36,Z⟩ (AI (I ⟨p',0,Z⟩))) B {x with pool:=p'}:=R2.set 36 _ Q;have q3:=q2.setCell (p:=⟨B,36,Z⟩) (by rw[<-hB];exact Bg _) (AI (I ⟨p',0,Z⟩));have gs:=Fo w2 B 36 (AI (I ⟨p',0,Z⟩));have nB:∀k,w1.heap.size<=k->I k≠I B:=fun k hk e=>by cases e;omega
 have P3:=P2.kept gs (nB _ g1) (nB _ g2) (nB _ g3) (fun A c hc a ha=>nB _ (g4 A c hc a ha));have g5:∀A' c',E (Ai w2 ⟨B,36,Z⟩ (AI (I ⟨p',0,Z⟩))) ⟨p',2,Z⟩=I (R A' (Y bits) c')->∀a,A'=I a->w1.heap.size<=a.block:=fun A' c' hc=>g4 A' c' ((Fx (gs.block p' (Ch _ _ P2.c0) (nB _ g1))).symm.trans hc)
 clear x36 cP h1 P2 g4 R1;go_upto_region 5 with fail;obtain⟨w3,hw3⟩:=Az (Ai w2 ⟨B,36,Z⟩ (AI (I ⟨p',0,Z⟩)));rw[hw3]at R3 q3 P3 g5 gs ⊢;clear hw3 y36 f36 R2 gs
 have g5:∀A1 c1,E w3 ⟨p',2,Z⟩=I (R A1 (Y bits) c1)->∀a,A1=I a->w1.heap.size<=a.block/\a.block<↑w3:=fun A1 c1 hc a ha=>⟨g5 A1 c1 hc a ha,by
  obtain⟨A0,c0,h0,_,_,_,_,h6⟩:=P3.c2;rw[h0]at hc;cases hc;exact(h6 a ha).2⟩
 have u1:=Ch _ _ P3.c0;have u2:=Ch _ _ P3.d0;have u3:=P3.us.lt;obtain⟨A,c,hrv,l1,m1,n1,arR⟩:=hr.form Iy.BY;have x37:E w3 ⟨b,37,Z⟩=I (R A (Y rw) c):=qrb hrv ((h.on q3).row.c 37);have cC:=ax A c rw w3 (arR.on q3) n1 l1 hrl;clear hrv;go_wp2_with fail;refine cC.mono ?_;rintro e w4⟨v',rfl,JC,hb4⟩;obtain⟨A',c',rfl,-,-,-,-⟩:=JC.form Iy.BY;have q4:=AH q3 hb4;have R4:=R3.on hb4;have y37:=R4.c 37;have f37:=R4.fr 37;have R5:Cu (Ai w4 ⟨B,37,Z⟩ (R A' (Y rw) c')) B {x with pool:=p',recs:= R A' (Y rw) c'}:=R4.set 37 _ Q;have q5:=q4.setCell (p:=⟨B,37,Z⟩) (by rw[<-hB];exact Bg _) (R A' (Y rw) c');have gs:=Fo w4 B 37 (R A' (Y rw) c');have n3:∀g,(Value.slice A' (Y rw) c').ownBlock=I g->w3.heap.size<=g:=fun g hg=>(Cp JC g hg).1
 have NC:=Own.keep JC gs (by
  cases hg:(Value.slice A' (Y rw) c').ownBlock with
  | none=>exact .inl Q
  | some g=>exact .inr (by have:=n3 g hg;simp;omega))
 have g6:∀A1 c1,E w4 ⟨p',2,Z⟩=I (R A1 (Y bits) c1)->∀a,A1=I a->w1.heap.size<=a.block/\a.block<↑w3:=fun A1 c1 hc=>g5 A1 c1 ((Fx (hb4.block p' (Ch _ _ P3.c0))).symm.trans hc)
 have P4:=P3.on hb4;have P5:=P4.kept gs (nB _ g1) (nB _ g2) (nB _ g3) (fun A c hc a ha=>nB _ (g6 A c hc a ha).1);have g7:∀A1 c1,E (Ai w4 ⟨B,37,Z⟩ (R A' (Y rw) c')) ⟨p',2,Z⟩=I (R A1 (Y bits) c1)->∀a,A1=I a->w1.heap.size<=a.block/\a.block<↑w3:=fun A1 c1 hc=>g6 A1 c1 ((Fx (gs.block p' (Ch _ _ P4.c0) (nB _ g1))).symm.trans hc)
 have AgW:=h.crs;have Eb:∀k,(Value.slice A' (Y rw) c').ownBlock=I k->k<↑w4:=fun k hk=>(Cp JC k hk).2
 have sz4:=hb4.size;clear x37 cC P3 P4 g5 g6 R3 JC;go_upto_region 6 with fail;obtain⟨w5,Ct⟩:=Az (Ai w4 ⟨B,37,Z⟩ (R A' (Y rw) c'));rw[Ct]at R5 q5 P5 g7 gs NC ⊢;have sz5:=gs.size;clear Ct y37 f37 R4 gs;have hB5:B<↑w5:=J;have x55:E w5 ⟨b,55,Z⟩=I x.k.course:=(h.on q5).row.c 55
 have fin:∀(w6:V) (v:An),Ag w5 w5 w6->Ag w w (Ai w6 ⟨B,55,Z⟩ v)/\Cu (Ai w6 ⟨B,55,Z⟩ v) B {x with pool:=p',recs:= R A' (Y rw) c',k:={x.k with course:=v}}/\CG (Ai w6 ⟨B,55,Z⟩ v) p' FC Fi W bits a.used/\
   (∀A1 c1,E (Ai w6 ⟨B,55,Z⟩ v) ⟨p',2,Z⟩=I (R A1 (Y bits) c1)->∀a,A1=I a->w1.heap.size<=a.block/\a.block<↑w3)/\Own (Ai w6 ⟨B,55,Z⟩ v) w3 70 6 Iy.enc (R A' (Y rw) c') rw:=fun w6 v BV=>by
  have g8:=Fo w6 B 55 v;have P6:=P5.on BV
  refine⟨(AH q5 BV).setCell (p:=⟨B,55,Z⟩) (by rw[<-hB];exact Bg _) v,(R5.on BV).set 55 v Q,P6.kept g8 (nB _ g1) (nB _ g2) (nB _ g3) (fun A c hc a ha=>nB _ (g7 A c ((Fx (BV.block p' (Ch _ _ P5.c0))).symm.trans hc) a ha).1),fun A1 c1 hc=>g7 A1 c1 ((Fx (BV.block p' (Ch _ _ P5.c0))).symm.trans ((Fx (g8.block p' (Ch _ _ P6.c0) (nB _ g1))).symm.trans hc)),Own.keep (Own.below NC BV) g8 (by
   cases hg:(Value.slice A' (Y rw) c').ownBlock with
   | none=>exact .inl Q
   | some g=>exact .inr (by have:=n3 g hg;simp;omega))⟩
 have hL5:w3.heap.size<=w5.heap.size:=J;have Mn:∀k,w1.heap.size<=k->B<k:=fun k hk=>by omega
 rcases AgW with⟨c1,c2⟩ | ⟨M,c,m,c1,c2,hM,hOk,hst,hT,hR⟩
 ·rw[c2]at x55
  have cN:=AgU w5;clear P5 g7 NC Qd q1 q2 q3 q4 sz4;go_wp2_with fail;refine cN.mono ?_;rintro e w6⟨rfl,rfl⟩;obtain⟨k1,k2,k3,k4,k5⟩:=fin w5 (AI Z) (Ae _ _);have y55:=R5.c 55;have f55:=R5.fr 55;go_wp2;go_ret;exact⟨p',FC,Fi,_,AI Z,w3,w5,by rw[hB] <;> rfl,k1,qrf hB k2,k3,⟨by rw[hB];exact Mn _ g1,u1⟩,⟨by rw[hB];exact Mn _ g2,u2⟩,⟨by rw[hB];exact Mn _ g3,u3⟩,fun A1 c3 hc y hy=>⟨by rw[hB];exact Mn _ (k4 A1 c3 hc y hy).1,(k4 A1 c3 hc y hy).2⟩,k5,fun k hk=>Ck (Eb k hk) sz5,hL5,.inl ⟨c1,rfl⟩⟩
 ·rw[c2]at x55
  have cN:=BG w5 c m M (hM.on q5) (hc c m c1).1 (hc c m c1).2;have hhi:=hM.rows.hi;clear P5 g7 NC Qd q1 q2 q3 q4 sz4;go_wp2_with fail;refine cN.mono ?_;rintro e w6⟨M',rfl,hM',BV,hT',hlo,th⟩;obtain⟨k1,k2,k3,k4,k5⟩:=fin w6 (AI (I ⟨M'.g,0,Z⟩)) BV;have y55:=(R5.on BV).c 55;have f55:=(R5.on BV).fr 55;have nS:∀k,M'.T k->k≠B:=fun k hk e=>by have:=hT' k hk;omega
  have M7:Cj (Ai w6 ⟨B,55,Z⟩ (AI (I ⟨M'.g,0,Z⟩))) c m M':=hM'.keep (S:=fun k=>k=B) (AT.set Q) (nS _ (.inl Q)) (nS _ (.inr (.inr (.inl Q)))) (fun k hk=>nS k (.inr (.inl hk))) (fun k hk=>nS k (.inr (.inr (.inr hk)))) (fun k hk=> .inr (by show M'.hi<=k;rw[th,hk,<-hB];exact hhi));clear hM' cN fin hT;go_wp2;go_ret;exact⟨p',FC,Fi,_,_,w3,w5,by rw[hB] <;> rfl,k1,qrf hB k2,k3,⟨by rw[hB];exact Mn _ g1,u1⟩,⟨by rw[hB];exact Mn _ g2,u2⟩,⟨by rw[hB];exact Mn _ g3,u3⟩,fun A1 c3 hc y hy=>⟨by rw[hB];exact Mn _ (k4 A1 c3 hc y hy).1,(k4 A1 c3 hc y hy).2⟩,k5,fun k hk=>Ck (Eb k hk) sz5,hL5,.inr ⟨c,m,M,M',c1,c2,hM,hOk,hst,hR,rfl,M7,hT',hlo,th⟩⟩
end
section
variable {τ:Nat→Nat} {w:V} {i j b W nb mb:Nat} {x:BR} {bits:List Bool} {a:Bb}
def ti(h:Bx τ w i b x W nb mb bits a)(fr:BU τ w)(FE:x.cs.all (·.oneCell')=true)(hc:∀c m,a.course=I (c,m)->Y m.b<=100000/\Y m.told<=3000000000)(hrl:Y a.recs<=3000000000)(j:Nat):
  AL AE 43 #[AI (I ⟨b,0,Z⟩)] w fun e w'=>∃τ' x' FC Fi,e=AN (AI (I ⟨w,0,Z⟩))/\Ag w w w'/\(∀k,k<↑w->τ' k=τ k)/\(∀k,τ' k=τ k\/τ' k=j)/\BU τ' w'/\Bx τ' w' j w x' W FC Fi bits a/\x'.s=x.s/\x'.side=x.side:=by
 obtain⟨rw,r1,r2,r3⟩:=h.recs.subs;refine(AgV h FE hc rw r1 J).mono ?_;rintro e w'⟨p',FC,Fi,v',cv',L1,L2,rfl,hb,row,P,⟨p1,p2⟩,⟨n1,n2⟩,⟨m1,m2⟩,hA,ow,oL,hL,hcr⟩
 obtain⟨TT,hTT⟩:∃TT:Nat->Prop,(∀k,TT k->L2<=k)/\(∀k,TT k->k<↑w')/\((a.course=Z/\cv'=AI Z)\/∃(c:Cas) (m:BP) (M M':Mem),a.course=I (c,m)/\Cj w c m M/\c.Ok/\c.at .stop m/\(∀k,M.lo<=k->k<M.hi->τ k=0)/\cv'=AI (I ⟨M'.g,0,Z⟩)/\Cj w' c m M'/\(∀k,M'.T k↔TT k)/\M'.lo=M.lo/\M'.hi=M.hi):=by
  rcases hcr with hcr | ⟨c,m,M,M',q1,q2,q3,q4,q5,q6,q7,q8,q9,q10,q11⟩
  ·exact⟨fun _=>False,fun _ h=>h.elim,fun _ h=>h.elim,.inl hcr⟩
  ·exact⟨M'.T,q9,fun k hk=>(q8.aM hk).2,.inr ⟨c,m,M,M',q1,q3,q4,q5,q6,q7,q8,fun _=>Iff.rfl,q10,q11⟩⟩
 obtain⟨t1,t2,hcr⟩:=hTT;have oB:∀k,v'.ownBlock=I k->L1<=k/\k<↑w':=fun k hk=>Cp ow k hk
 have bB:=(Bm.1 row).1;have mB:=P.us.lt;obtain⟨S,hS⟩:∃S:Nat->Prop,∀k,S k↔(k=↑w\/k=Fi\/v'.ownBlock=I k\/TT k):=⟨_,fun _=>Iff.rfl⟩
 have Slo:∀k,S k->w.heap.size<=k:=fun k hk=>by
  rcases(hS k).1 hk with e | e | e | e
  ·omega
  ·omega
  ·have:=(oB k e).1;omega
  ·have:=t1 k e;omega
 have Shi:∀k,S k->k<↑w':=fun k hk=>by
  rcases(hS k).1 hk with e | e | e | e
  ·omega
  ·omega
  ·exact(oB k e).2
  ·exact t2 k e
 have old:∀k,k<↑w->Fh τ S j k=τ k:=fun k hk=>JY (fun e=>by have:=Slo k e;omega)
 have low:∀k,w.heap.size<k->k<L1->k≠Fi->Fh τ S j k=0:=fun k k1 k2 k3=>by
  rw[JY (fun e=>?_)]
  ·exact fr k (EO k1)
  ·rcases(hS k).1 e with e | e | e | e
   ·omega
   ·exact k3 e
   ·have:=(oB k e).1;omega
   ·have:=t1 k e;omega
 have frw:=fr.on hb.size;have kp:Kp τ (Fh τ S j) w w' (fun _=>False):=⟨AT.of hb,old,fun _ h=>h.elim⟩
 have inS:∀k,S k->Fh τ S j k=j:=fun k hk=>US hk
 have li:=h.li.keep kp
 refine⟨Fh τ S j,_,FC,Fi,Q,hb,old,fun k=>?_,frw.AbI Shi j,⟨row,inS _ ((hS _).2 (.inl Q)),J,⟨h.num.last,h.num.ph,h.num.rs,h.num.wt,h.num.sh,h.num.n,h.num.t,h.num.has⟩,h.eps.keep kp,h.lim.keep kp,
  ⟨li.pulses,li.clicks,li.wait,li.sent,li.took,li.ledger,li.kept,li.slots,li.decoys,li.block⟩,?_,⟨P,inS _ ((hS _).2 (.inr (.inl Q))),low _ p1 p2 P.bm,low _ n1 n2 P.nm,fun A c hc y hy=>?_⟩,?_,fun k hk=>?_⟩,rfl,rfl⟩
 ·by_cases hk:S k
  ·exact .inr (inS k hk)
  ·exact .inl (JY hk)
 ·rcases hcr with hcr | ⟨c,m,M,M',q1,q3,q4,q5,q6,q7,q8,q9,q10,q11⟩
  ·exact .inl hcr
  ·refine .inr ⟨M',c,m,q1,q7,q8,q4,q5,fun k hk=>⟨inS k ((hS k).2 (.inr (.inr (.inr ((q9 k).1 hk))))),?_,?_,?_⟩,fun k k1 k2=>?_⟩
   ·have:=t1 k ((q9 k).1 hk);omega
   ·have:=t1 k ((q9 k).1 hk);omega
   ·intro e
    have:=t1 k ((q9 k).1 hk);have:=oL k e;omega
   ·rw[q10]at k1
    rw[q11]at k2;have:=q3.rows.hi;exact(old k J).trans (q6 k k1 k2)
 ·obtain⟨A0,c0,h0,_,_,_,_,h6⟩:=P.c2
  rw[h0]at hc;cases hc;have h7:=hA A c h0 y hy;exact low _ h7.1 h7.2 (h6 y hy).1
 ·refine⟨rw.map (·.1),I4.1 (ow.lift (BM _)),by rw[Dz];exact r2,fun k r q hr hq=>(r3 k r q hr hq).keep kp,fun k hk=>inS k ((hS k).2 (.inr (.inr (.inl hk))))⟩
 ·have:=(oB k hk).1
  omega
end
section
variable {τ:Nat→Nat} {w:V} {i b W nb mb:Nat} {x:BR} {bits:List Bool} {a:Bb}
def Imm.KY{α:Type}{sz:Nat}{enc:α->List An}{v:An}{l:List α}(h:Imm sz enc τ w v l):v.oneCell'=true:=by
 obtain⟨_,_,e,_⟩:=h;rw[e];rfl
def UT.KY{v:An}{o:Option Lt}(h:UT τ w v o):v.oneCell'=true:=by
 rcases h with⟨_,e⟩ | ⟨_,_,_,e,_⟩ <;> rw[e] <;> rfl
def Bx.KY(h:Bx τ w i b x W nb mb bits a):x.cs.all (·.oneCell')=true:=by
 have h1:=h.li.pulses.KY;have h2:=h.li.clicks.KY;have h3:=h.li.wait.KY;have h4:=h.li.sent.KY;have h5:=h.li.took.KY;have h6:=h.li.ledger.KY;have h7:=h.li.kept.KY;have h8:=h.li.slots.KY;have h9:=h.li.decoys.1.KY;have h10:=h.li.block.KY
 have h11:x.k.course.oneCell'=true:=by
  rcases h.crs with⟨_,e⟩ | ⟨_,_,_,_,e,_⟩ <;> rw[e] <;> rfl
 have DO:x.recs.oneCell'=true:=by
  obtain⟨rv,o,_⟩:=h.recs;obtain⟨_,_,e,_⟩:=o.form EZ.BY;rw[e];rfl
 have one:∀(k:IntKind) (n:Int),(Value.int k n).oneCell'=true:=fun _ _=>rfl
 have Wn:∀(A:Option AS) (n c:Nat),(Value.slice A n c).oneCell'=true:=fun _ _ _=>rfl
 have dp:∀(p:Bool),(Value.bool p).oneCell'=true:=fun _=>rfl
 have AgX:∀p,(Value.pointer p).oneCell'=true:=fun _=>rfl
 simp only[BR.cs,List.all_toArray,List.all_cons,List.all_nil,one,Wn,dp,AgX,h1,h2,h3,h4,h5,h6,h7,h8,h9,h10,h11,DO,Bool.and_true,Bool.and_self]
end
section
variable {τ:Nat→Nat} {w:V} {M:Dg} {v:Bj} {q:Bt}
def Zc(h:CO τ w M v q):AL AE 56 #[AI (I ⟨M.b,0,Z⟩)] w fun e w'=>e=AN (Av true)/\w=w':=by
 have x0:E w ⟨M.b,0,Z⟩=I (Av true):=h.row.c 0;go_in;go_wp2;go_ret;exact⟨Q,Q⟩
def tj(τ:Nat->Nat)(w:V)(W:Nat)(bits:List Bool)(x:BR)(a:Bb)(j:Nat)(e:Ending)(w':V):Prop:=
 ∃τ' x' FC Fi,e=AN (AI (I ⟨w,0,Z⟩))/\Ag w w w'/\(∀k,k<↑w->τ' k=τ k)/\(∀k,τ' k=τ k\/τ' k=j)/\BU τ' w'/\Bx τ' w' j w x' W FC Fi bits a/\x'.s=x.s/\x'.side=x.side
def AgY(h:CO τ w M v q)(fr:BU τ w)(side:Int)(hs:side=0\/side=1)(c0:∀c m,q.x.course=I (c,m)->Y m.b<=100000/\Y m.told<=3000000000)(c1:∀c m,q.y.course=I (c,m)->Y m.b<=100000/\Y m.told<=3000000000)(r0:Y q.x.recs<=3000000000)(r1:Y q.y.recs<=3000000000)(j:Nat):
  AL AE 19 #[AI (I ⟨M.b,0,Z⟩),U O side] w fun e w'=>(side=0/\tj τ w v.W v.bits M.x0 q.x j e w')\/(side=1/\tj τ w v.W v.bits M.x1 q.y j e w'):=by
 have cV:=Zc h;have y0:E w ⟨M.b,37,Z⟩=I (AI (I ⟨M.b0,0,Z⟩)):=by rw[<-h.p0];exact h.row.c 37
 have y1:E w ⟨M.b,38,Z⟩=I (AI (I ⟨M.b1,0,Z⟩)):=by rw[<-h.p1];exact h.row.c 38
 have k0:=ti h.t0 fr h.t0.KY c0 r0 j;have k1:=ti h.t1 fr h.t1.KY c1 r1 j;clear c0 c1 r0 r1;rcases hs with rfl | rfl
 ·go_in
  go_wp2_with(go_at_call 56;refine mqv (cV) ?_);refine k0.mono ?_;rintro e w' hr;obtain⟨τ',x',FC,Fi,rfl,rest⟩:=hr;have hr2:=F rest;clear rest;go_wp2;go_ret;exact .inl ⟨AO,τ',x',FC,Fi,rfl,hr2.out⟩
 ·go_in
  go_wp2_with(go_at_call 56;refine mqv (cV) ?_);refine k1.mono ?_;rintro e w' hr;obtain⟨τ',x',FC,Fi,rfl,rest⟩:=hr;have hr2:=F rest;clear rest;go_wp2;go_ret;exact .inr ⟨AO,τ',x',FC,Fi,rfl,hr2.out⟩
end
section
variable {τ τ':Nat→Nat} {w w1 w':V} {M:Dg} {v:Bj} {q:Bt}
def CO.XD(h:CO τ w M v q):∀k,M.X.way.ownBlock=I k->τ k=M.k/\k<↑w:=by
 obtain⟨fv0,g1,g2,g3,g4⟩:=h.way;exact fun k hk=>⟨g4 k hk,(Cp g2 k hk).2⟩
theorem CO.je{v':An}{fv:List BW}(h:CO τ w M v q)(fr:BU τ w)(hO:AT (fun k=>M.X.way.ownBlock=I k) w w1)(T7:Own w1 0 41 6 BW.enc v' fv)(MX:∀x∈fv,x.Im τ w)(Tf:∀k,v'.ownBlock=I k->M.X.way.ownBlock=I k\/w.heap.size<=k):
  ∃τ',Frm τ τ' w (Ai w1 ⟨M.b,39,Z⟩ v') M.k/\BU τ' (Ai w1 ⟨M.b,39,Z⟩ v')/\CO τ' (Ai w1 ⟨M.b,39,Z⟩ v') {M with X:={M.X with way:=v'}} v {q with way:=fv.map BW.f}:=by
 have t:=h.tags;have hbl:=(Bm.1 h.row).1;have wt:=h.XD;obtain⟨S,hS⟩:∃S:Nat->Prop,S=fun k=>v'.ownBlock=I k/\w.heap.size<=k:=⟨_,Q⟩
 have IU:∀k,k<↑w->Fh τ S M.k k=τ k:=fun k hk=>JY (fun e=>by grind)
 have ho:AT (fun k=>k=M.b) w1 (Ai w1 ⟨M.b,39,Z⟩ v'):=AT.set (S:=fun k=>k=M.b) Q;have NF:AT (fun k=>k=M.b\/M.X.way.ownBlock=I k) w (Ai w1 ⟨M.b,39,Z⟩ v'):=(hO.mono (fun k _ hk=> .inr hk)).trans (ho.mono (fun k _ hk=> .inl hk));have iD:Gu w1 M.b M.X:=hO.row h.row (fun e=>h.wb _ e Q);have Te:Gu (Ai w1 ⟨M.b,39,Z⟩ v') M.b {M.X with way:=v'}:=iD.set 39 v' Q
 have nvb:∀k,v'.ownBlock=I k->k≠M.b:=fun k hk=>by
  rcases Tf k hk with h1 | h1
  ·exact h.wb k h1
  ·omega
 have CU:=Own.keep T7 (Fo w1 M.b 39 v') (by
  grind)
 have vlt:∀k,v'.ownBlock=I k->k<(Ai w1 ⟨M.b,39,Z⟩ v').heap.size:=fun k hk=>(Cp CU k hk).2
 obtain⟨w2,hw2⟩:=Az (Ai w1 ⟨M.b,39,Z⟩ v');rw[hw2]at NF Te CU vlt ⊢;have f:Frm τ (Fh τ S M.k) w w2 M.k:=⟨NF.mono (fun k _ hk=>by rcases hk with rfl | hk;exact h.tb;grind),IU⟩
 have kp:=f.kp t.k0;refine⟨Fh τ S M.k,f,fun k GT=>?_,⟨Te,(IU _ hbl).trans h.tb,⟨t.k0,t.i0,t.j0,t.ik,t.jk,t.ij⟩,h.s,h.rules.keep kp,h.light,h.p0,h.p1,h.t0.keep f t.k0 t.ik.symm,h.t1.keep f t.k0 t.jk.symm,h.z0,h.z1,⟨fv,Q,CU,fun x hx=>Imm.keep (MX x hx) kp,fun k hk=>?_⟩,nvb,h.fl.keep kp,h.sh⟩⟩
 ·rw[JY (fun e=>by grind)]
  exact fr k (Br NF.size GT)
 grind [Fh,BU,Own,BW.enc,BW.Im,Gu]
def CO.AgZ{fv:List BW}(h:CO τ w M v q)(hO:AT (fun k=>M.X.way.ownBlock=I k) w w')(T7:Own w' 0 41 6 BW.enc M.X.way fv)(MX:∀x∈fv,x.Im τ w):
  Frm τ τ w w' M.k/\CO τ w' M v {q with way:=fv.map BW.f}:=by
 have t:=h.tags;have wt:=h.XD;have f:Frm τ τ w w' M.k:=⟨hO.mono (fun k _ hk=>(wt k hk).1),fun _ _=>rfl⟩
 have kp:=f.kp t.k0;exact⟨f,⟨hO.row h.row (fun e=>h.wb _ e Q),h.tb,t,h.s,h.rules.keep kp,h.light,h.p0,h.p1,h.t0.keep f t.k0 t.ik.symm,h.t1.keep f t.k0 t.jk.symm,h.z0,h.z1,⟨fv,Q,T7,fun x hx=>Imm.keep (MX x hx) kp,fun k hk=>(wt k hk).1⟩,h.wb,h.fl.keep kp,h.sh⟩⟩
def CO.Ag0{a b c:An}{g:Flt}(h:CO τ w M v q)(ho:AT (fun k=>k=M.b) w w')(Te:Gu w' M.b {M.X with f0:=a,f1:=b,f2:=c,shift:=g.shift})(hg:XA τ w a b c g):
  Frm τ τ w w' M.k/\CO τ w' {M with X:={M.X with f0:=a,f1:=b,f2:=c,shift:=g.shift}} v {q with fl:=g}:=by
 have t:=h.tags;have f:Frm τ τ w w' M.k:=⟨ho.mono (fun k _ hk=>by rw[hk];exact h.tb),fun _ _=>rfl⟩
 have kp:=f.kp t.k0;have kb:Kp τ τ w w' (fun k=>k=M.b):=⟨ho,fun _ _=>rfl,fun k e=>by rw[e,h.tb];exact t.k0⟩
 exact⟨f,⟨Te,h.tb,⟨t.k0,t.i0,t.j0,t.ik,t.jk,t.ij⟩,h.s,h.rules.keep kp,h.light,h.p0,h.p1,h.t0.keep f t.k0 t.ik.symm,h.t1.keep f t.k0 t.jk.symm,h.z0,h.z1,h.way.keep kb (fun k e=>h.wb k e),h.wb,hg.keep kp,Q⟩⟩
end
def tu(b:Nat)(d:Int)(w:V):AL AE 65 #[AI (I ⟨b,0,Z⟩),U O d,R Z 0 0] w fun e w'=>e=AN (Be #[])/\w'=w:=by
 go_in;go_wp2_with fail;go_loopw [10] (fun i wr=>i=U O 0/\wr=w) (fun _ _=>0);exact⟨rfl,rfl⟩
 obtain⟨rfl,rfl⟩:=hrel;go_wp2;go_end0;exact⟨Q,Q⟩
def Ag1{τ:Nat->Nat}{w:V}{M:Dg}{v:Bj}{q:Bt}(h:CO τ w M v q)(d:Int)(p:Nat)(y:Lt)(hy:SU τ w p y)(hf:64<=Y q.way)(hf2:Y q.way<=1000):AL AE 65 #[AI (I ⟨M.b,0,Z⟩),U O d,R (I ⟨p,0,Z⟩) 1 1] w fun e w'=>e=AN (Be #[])/\Ag w w w':=by
 obtain⟨fv,f1,f2,f3,f4⟩:=h.way;obtain⟨A,c,e1,l1,m1,n1,ar⟩:=f2.form BW.BY;obtain⟨B,k,hL,Dp,hpl,htp,hAt⟩:=hy;have Nz:E w ⟨M.b,39,Z⟩=I (R A (Y fv) c):=qrb e1 (h.row.c 39);have hn:Y fv=Y q.way:=by rw[<-f1,Dz]
 have g1:decide ((Y fv:Int)<64)=false:=by simp;omega
 have z0:E w ⟨p,0,Z⟩=I (U O y.ses):=AX w p 0 _ _ _ hL;have z1:E w ⟨p,1,Z⟩=I (U O y.kind):=AX w p 1 _ _ _ hL;have z2:E w ⟨p,2,Z⟩=I (U O y.num):=AX w p 2 _ _ _ hL;have z3:E w ⟨p,3,Z⟩=I (R B (Y y.ws) k):=AX w p 3 _ _ _ hL;have z4:E w ⟨p,4,Z⟩=I (U AA y.tag):=AX w p 4 _ _ _ hL;clear hn hf hf2 e1 f1;go_in;go_wp2_with fail;go_loopw [10] (fun i wr=>(i=U O 0\/i=U O 1)/\Ag w w wr) (fun i _=>1-(intOf i).toNat);exact⟨.inl rfl,Ae _ _⟩
 obtain⟨hi,hb⟩:=hrel;obtain⟨w6,rfl⟩:=qgn wr;rcases hi with rfl | rfl
 ·have IK:=AK hb Nz
  have a0:=AK hb z0;have a1:=AK hb z1;have a2:=AK hb z2;have a3:=AK hb z3;have a4:=AK hb z4;have q7:=AB hb (N #[U O y.ses,U O y.kind,U O y.num,R B (Y y.ws) k,U AA y.tag] 39);have z40:=AK q7 Nz;clear IK;go_wp2_with fail;exact⟨⟨.inr Q,q7⟩,by simp[intOf]⟩
 ·go_wp2_with fail
  go_end0;exact⟨Q,hb⟩
section
variable{M:Dg}{q:Bt}{v:Bj}{w:V}{τ:Nat->Nat}
structure GO(M M':Dg):Prop where
 b:M'.b=M.b
 k:M'.k=M.k
 i:M'.i=M.i
 j:M'.j=M.j
def GO.refl(M:Dg):GO M M:=⟨Q,Q,Q,Q⟩
def GO.trans{A B C:Dg}(h:GO A B)(g:GO B C):GO A C:=⟨g.b.trans h.b,g.k.trans h.k,g.i.trans h.i,g.j.trans h.j⟩
def GO.T{M':Dg}(h:GO M M'):M'.T=M.T:=by unfold Dg.T;rw[h.k,h.i,h.j]
def Dh(τ:Nat->Nat)(w:V)(M:Dg)(v:Bj)(q':Bt)(w':V):Prop:=
 ∃τ' M',EN M.T τ τ' w w'/\BU τ' w'/\CO τ' w' M' v q'/\GO M M'
def tx:(prog.info? 41).map (fun i=>(i.zero,i.size,i.bytes))=I (I (Ba #[U O 0,U O 0,U O 0,U O 0,R Z 0 0,U AA 0]),6,64):=Zb
theorem Ag2(h:CO τ w M v q)(fr:BU τ w)(d:Int)(p:Nat)(y:Lt)(hy:SU τ w p y)(hf:Y q.way<64):AL AE 65 #[AI (I ⟨M.b,0,Z⟩),U O d,R (I ⟨p,0,Z⟩) 1 1] w fun e w'=>e=AN (Be #[])/\Dh τ w M v {q with way:=q.way++ [⟨d,y⟩]} w':=by
 obtain⟨fv,f1,f2,f3,f4⟩:=h.way;obtain⟨A,c,e1,l1,m1,n1,ar⟩:=f2.form BW.BY;have hn:Y fv=Y q.way:=by rw[<-f1,Dz]
 have hy':=hy;obtain⟨B,k,hL,Dp,hpl,htp,hAt⟩:=hy;have Nz:E w ⟨M.b,39,Z⟩=I (R A (Y fv) c):=qrb e1 (h.row.c 39);have g1:decide ((Y fv:Int)<64)=true:=by simp;omega
 have z0:E w ⟨p,0,Z⟩=I (U O y.ses):=AX w p 0 _ _ _ hL;have z1:E w ⟨p,1,Z⟩=I (U O y.kind):=AX w p 1 _ _ _ hL;have z2:E w ⟨p,2,Z⟩=I (U O y.num):=AX w p 2 _ _ _ hL;have z3:E w ⟨p,3,Z⟩=I (R B (Y y.ws) k):=AX w p 3 _ _ _ hL;have z4:E w ⟨p,4,Z⟩=I (U AA y.tag):=AX w p 4 _ _ _ hL;have q7:=AB (Ae w w) (N #[U O y.ses,U O y.kind,U O y.num,R B (Y y.ws) k,U AA y.tag] 39);have z40:=AK q7 Nz;have Hby:=F (show(Y fv+1)*64<=140737488355328 by omega);have F1:=F f1;have F3:=F f3;have h7:=h.on q7
 have im7:=
  Imm.keep (⟨B,k,Q,Dp.len,Dp.cap,Dp.nil,Dp.a,hAt⟩:Imm 1 BD τ w (R B (Y y.ws) k) y.ws) (Kp.of q7)
 have f7:Own (Ao w (N #[U O y.ses,U O y.kind,U O y.num,R B (Y y.ws) k,U AA y.tag] 39)) 0 41 6 BW.enc (R A (Y fv) c) fv:=by
  have:=Own.below f2 q7;rw[e1]at this;exact this
 have fr7:=fr.on q7.size;have rowP:(Ao w (N #[U O y.ses,U O y.kind,U O y.num,R B (Y y.ws) k,U AA y.tag] 39)).heap[w.heap.size]?=I (N #[U O y.ses,U O y.kind,U O y.num,R B (Y y.ws) k,U AA y.tag] 39 (0,0)):=CB w _;have E1:=F e1;have OWn:=F (fun k (hk:M.X.way.ownBlock=I k)=>(Cp f2 k hk).2);clear f1 hn f3 hf hL Dp hAt f2 e1 l1 m1 n1 ar htp;go_in;go_wp2_with fail;go_loopw [10] (fun i wr=>(i=U O 0/\wr=w)\/(i=U O 1/\Dh τ w M v {q with way:=q.way++ [⟨d,y⟩]} wr)) (fun i _=>1-(intOf i).toNat);exact .inl ⟨rfl,rfl⟩
 rcases hrel with⟨rfl,rfl⟩ | ⟨rfl,hrel⟩
 case inr=>
  have HR:=F hrel;clear hrel z40 q7 Nz z0 z1 z2 z3 z4 h7 im7 f7 fr7 rowP;go_wp2;go_end0;exact⟨Q,HR.out⟩
 go_upto_region 4 with fail;obtain⟨w1,BJ⟩:=Az (Ao wr (N #[U O y.ses,U O y.kind,U O y.num,R B (Y y.ws) k,U AA y.tag] 39));obtain⟨P,hP⟩:=Az (wr.heap.size);rw[BJ]at z40 h7 im7 f7 fr7 rowP q7 ⊢;rw[hP]at rowP ⊢;have Q7:=F q7;clear BJ z0 z1 z2 z3 z4 Nz q7;obtain⟨r,hr⟩:∃r:BW,r=⟨⟨d,y⟩,B,k⟩:=⟨_,Q⟩
 have S0:w1.drew.heap[P]?=I (N #[U O y.ses,U O y.kind,U O y.num,R B (Y y.ws) k,U AA y.tag] 39 (0,0)):=rowP;have W8:Ag w1 w1 (Ao w1 (N #[U O d,U O y.ses,U O y.kind,U O y.num,R B (Y y.ws) k,U AA y.tag] 41)).drew:=(AB (Ae _ _) _).drew;have S8:=(W8.block P (Bm.1 rowP).1).trans rowP;have Ag3:=AK W8 z40;have Tv8:=F (Own.below f7 W8)
 have Nw8:Aj (∀j u,(BW.enc r)[j]?=I u->E (Ao w1 (N #[U O d,U O y.ses,U O y.kind,U O y.num,R B (Y y.ws) k,U AA y.tag] 41)).drew ⟨w1,j,Z⟩=I u):=F (fun j u hu=>by
  have hcs:(#[U O d,U O y.ses,U O y.kind,U O y.num,R B (Y y.ws) k,U AA y.tag]:Array An).toList=BW.enc r:=by rw[hr];rfl
  exact Cb (w:=w1) (by rw[<-hu,<-hcs];simp))
 have One:=F (BW.one r);have bN:=OWn.out;have H7:=F h7;have Im7:=F im7;have Wb:=F h7.wb;have nP:Aj (M.X.way.ownBlock≠I P):=F (fun e=>by have:=bN P e;omega);have nPb:Aj (P≠M.b):=F (fun e=>by have:=(Bm.1 h.row).1;omega);clear h7 im7 bN;refine Fz (S:=fun w'=>w'.heap[P]?=I (N #[U O y.ses,U O y.kind,U O y.num,R B (Y y.ws) k,U AA y.tag] 39 (0,0))) AG rowP (fun hHeld=>?_);refine tQ4 0 ?_;refine tQ 5 ?_;refine G3 (i:=6) (v:= Ba #[U O y.ses,U O y.kind,U O y.num,R B (Y y.ws) k,U AA y.tag]) Q AG AG AG (fun _ _ _ h=>h) (MQ Q 39 _ (by rfl) P 0 (by rfl) #[U O y.ses,U O y.kind,U O y.num,R B (Y y.ws) k,U AA y.tag] _ (fun w hS j v hv=>by rw[EE];exact(AX w P j _ _ _ hS).trans hv) underlying39 Q (qiz 39 5)) (by assumption) ?_;refine zp ?_;refine tQ 7 ?_;refine I8 [4,8] ?_;refine Dj Q (fun KU Bc=>?_) (Dj Q (fun KU Bc=>?_) GQ)
 all_goals(first | (go_simp;refine Bc.out _ _ S0 (fun _=>?_);refine zp ?_;(refine url 8 (fun KU Bc=>?_);go_simp)) | (go_simp;refine Bc.out _ _ S8 (fun _=>?_);refine zp ?_;(refine url 4 (fun KU Bc=>?_);go_simp)))
 all_goals(
  refine Bc.out _ _ S8 (fun _=>?_);refine zp ?_;refine url 9 (fun KU Bc=>?_);refine UL (enc:=BW.enc) underlying34 tx fv r Tv8.out Nw8.out One.out Hby.out (BM _) ?_;intro v10 Bs DX FI Ln;have Sj:AT (fun k=>M.X.way.ownBlock=I k) w1 Bs:=(AT.of W8).trans (AT.grown FI (fun g hg=> .inl (qrf E1.out hg)))
  have Z5:∀k,v10.ownBlock=I k->M.X.way.ownBlock=I k\/w1.heap.size<=k:=fun k hk=>by
   rcases Ln with h1 | ⟨X,h1,h2⟩
   ·left;rw[E1.out,<-h1];exact hk
   ·right
    rw[h1]at hk;obtain rfl:=Option.some.inj hk;exact Br W8.size h2
  have FL:=Sj.row rowP nP.out
  have MX:∀x∈fv++ [r],x.Im τ w1:=fun x hx=>by
   rcases OV.1 hx with hx | hx
   ·exact Imm.keep (F3.out x hx) (Kp.of Q7.out)
   ·simp only[List.mem_singleton]at hx
    rw[hx,hr];exact Im7.out
  obtain⟨τ9,f9,Ek,h9⟩:=H7.out.je fr7 Sj DX MX Z5;have Fr:Gu Bs M.b M.X:=Sj.row H7.out.row (fun e=>Wb.out _ e Q);have H8:=Fr.c 39;have IK:=Fr.fr 39;obtain⟨DM,c10,OO,_,_,_,_⟩:=DX.form BW.BY;obtain⟨n10,UO⟩:=Az ((fv++ [r]).length);rw[UO]at OO
  have RL:Aj (Dh τ wr M v {q with way:=q.way++ [⟨d,y⟩]} (Bs.setCell ⟨M.b,39,Z⟩ v10)):=F (by
   refine⟨τ9,{M with X:={M.X with way:=v10}},(EN.of Q7.out).trans (f9.t (.inl Q)),Ek,?_,⟨Q,Q,Q,Q⟩⟩;have e:(fv++ [r]).map BW.f=q.way++ [⟨d,y⟩]:=by rw[SQ,F1.out,hr];rfl
   rw[e]at h9;exact h9)
  clear h9 f9 Ek;subst OO;refine Bc.out _ _ FL (fun _=>?_);refine zp ?_;refine tQ2 10 ?_;have S11:(Bs.setCell ⟨M.b,39,Z⟩ (R DM n10 c10)).heap[P]?=I (N #[U O y.ses,U O y.kind,U O y.num,R B (Y y.ws) k,U AA y.tag] 39 (0,0)):=(Jo Bs ⟨M.b,39,Z⟩ P _ (qsu nPb.out)).trans FL;refine url 12 (fun KU Bc=>?_);go_simp;refine Bc.out _ _ S11 (fun _=>?_);refine zp ?_;refine Ce ?_;go_wp2_with fail;exact⟨.inr ⟨rfl,RL.out⟩,by simp[intOf]⟩)
theorem jf(h:CO τ w M v q)(fr:BU τ w)(d:Int)(vl:An)(ls:List Lt)(hl:Ju τ w vl ls)(hq:Y q.way<=64):
  AL AE 65 #[AI (I ⟨M.b,0,Z⟩),U O d,vl] w fun e w'=>e=AN (Be #[])/\Dh τ w M v {q with way:=I2 d q.way ls} w':=by
 rcases hl with⟨rfl,rfl⟩ | ⟨p,y,rfl,rfl,hy⟩
 ·refine(tu M.b d w).mono ?_
  rintro e w'⟨he,rfl⟩;exact⟨he,τ,M,EN.refl _ _ _,fr,h,GO.refl M⟩
 ·have e1:I2 d q.way [y]=if Y q.way<64 then q.way++ [⟨d,y⟩]else q.way:=Q
  rw[e1];by_cases hf:Y q.way<64
  ·grind [Dh,BU,SU,I2,Ag2]
  ·rw[AU hf]
   refine(Ag1 h d p y hy J J).mono ?_;rintro e w'⟨he,hb⟩;exact⟨he,τ,M,EN.of hb,fr.on hb.size,h.on hb,GO.refl M⟩
end
def tk(a:Bb)(l:Lt):Bb:={a with used:=l.num.toNat::a.used,took:=I l,waited:=0}
def Bt.CE(q:Bt):Int:=max q.x.last q.y.last
structure jh where
 e:Ev
 n:Nat
def Bj.QJ(v:Bj)(q:Bt)(s:jh):Bt:=if 0<s.n then(v.GB (s.n%700) q).1 else(v.CI q s.e).1
section
variable {τ τ' τ'':Nat→Nat} {w w' w'':V} {M M':Dg} {v:Bj} {q q':Bt}
def Dh.stay(h:CO τ w M v q)(fr:BU τ w)(hb:Ag w w w'):Dh τ w M v q w':=⟨τ,M,EN.of hb,fr.on hb.size,h.on hb,GO.refl M⟩
def Dh.of(hf:EN M.T τ τ' w w')(px:GO M M')(h:Dh τ' w' M' v q w''):Dh τ w M v q w'':=by
 obtain⟨t,AP,f,fr,p,x⟩:=h;rw[px.T]at f;exact⟨t,AP,hf.trans f,fr,p,px.trans x⟩
structure Ahd(τ:Nat->Nat)(w:V)(M:Dg)(v:Bj)(q:Bt)(side:Int)(i b:Nat)(x:BR)(nb mb:Nat):Prop where
 cell:E w ⟨M.b,37+side.toNat,Z⟩=I (AI (I ⟨b,0,Z⟩))
 t:Bx τ w i b x v.W nb mb v.bits (q.at side)
 z:x.z v.W v.bits=v.z side
 i0:i≠0
 iT:M.T i
 ik:i≠M.k
 up:∀τ' w' x' a,Frm τ τ' w w' i->Fix x x'->Bx τ' w' i b x' v.W nb mb v.bits a->∃M',CO τ' w' M' v (q.put side a)/\GO M M'
def CO.side(h:CO τ w M v q){side:Int}(hs:side=0\/side=1):∃i b x nb mb,Ahd τ w M v q side i b x nb mb:=by
 rcases hs with rfl | rfl
 ·exact⟨M.i,M.b0,M.x0,M.n0,M.m0,by rw[<-h.p0];exact h.row.c 37,h.t0,h.z0,h.tags.i0,.inr (.inl Q),h.tags.ik,fun τ' w' x' a hf fx hs=>⟨_,h.Gp hf fx hs,⟨Q,Q,Q,Q⟩⟩⟩
 ·exact⟨M.j,M.b1,M.x1,M.n1,M.m1,by rw[<-h.p1];exact h.row.c 38,h.t1,h.z1,h.tags.j0,.inr (.inr Q),h.tags.jk,fun τ' w' x' a hf fx hs=>⟨_,h.Eg hf fx hs,⟨Q,Q,Q,Q⟩⟩⟩
end
def Ahe{τ:Nat->Nat}{w:V}{M:Dg}{v:Bj}{q:Bt}(h:CO τ w M v q)(fr:BU τ w)(hv:Gm v)(iv:Dv v q)(k a c:Int):
  AL AE 63 #[AI (I ⟨M.b,0,Z⟩),Ba #[U O k,U O a,U O c]] w fun e w'=>e=AN (U O (v.IZ q ⟨k,a,c⟩).2)/\Dh τ w M v (v.IZ q ⟨k,a,c⟩).1 w':=by
 have q0:=AB (Ae w w) (N #[U O k,U O a,U O c] 29);by_cases ha:a≠0/\a≠1
 ·have e1:v.IZ q ⟨k,a,c⟩=(q,3):=by unfold Bj.IZ;rw[Bd ha]
  rw[e1];have g1:(a != 0)=true:=qsu ha.1;have g2:(a != 1)=true:=qsu ha.2;clear ha e1;go_in;go_wp2;go_ret;exact⟨Q,Dh.stay h fr q0⟩
 have ha:a=0\/a=1:=J;obtain⟨i,b,x,nb,mb,s⟩:=h.side ha;have iva:=iv.at ha;have hz:=hv.z a
 have ez:x.s=(v.z a).s/\x.side=a:=by
  have:=s.z;exact⟨congrArg AV.s this,congrArg AV.side this⟩
 have es:x.s.tries=(v.st a).tries:=congrArg BX.tries ez.1;have okz:Gi x.s v.W:=by rw[ez.1];exact hz.s
 have q0:=q0.drew;have sc:=(s.t.on q0)
 have Dc:=fr.on q0.size;have cC:=Y9 sc s.i0;have cR:=HQ sc s.i0;have cT:=AbM sc s.i0 Dc (fun e=>⟨iva.busy e,iva.last.2⟩) ⟨iva.wt.1,by have:=iva.wt.2;omega⟩ (fun l e=>(iva.sent l e).len);rw[ez.2,es]at cT;have Ja:=AK (AB (Ae w w) (N #[U O k,U O a,U O c] 29)) s.cell;have hlen:=iv.len
 have up:∀τ' w' x' a',Frm τ τ' (Ao w (N #[U O k,U O a,U O c] 29)).drew w' i->Fix x x'->Bx τ' w' i b x' v.W nb mb v.bits a'->∃M',Frm τ τ' w w' i/\CO τ' w' M' v (q.put a a')/\GO M M':=fun τ' w' x' a' f fx st=>by
  have f2:=(Frm.of (τ:=τ) (i:=i) q0).trans f;obtain⟨M',g1,g2⟩:=s.up τ' w' x' a' f2 fx st;exact⟨M',f2,g1,g2⟩
 have Up:=F up;have iT:=s.iT;have i0:=s.i0;have tE:=fr w (Bg _);obtain⟨AW,hR⟩:=Az (v.IZ q ⟨k,a,c⟩)
 have HR:Aj (AW=if k=7 then(if(q.at a).ph=4 then(q,13)else(q.put a (q.at a).down,0))else if k=8 then(if(q.at a).ph=4 then(q.put a {q.at a with ph:=0},0)else(q,11))else if(q.at a).ph=4 then(q,13)else({q.put a ((q.at a).tick a v.W v.bits (v.st a).tries).1 with way:=I2 (1-a) q.way ((q.at a).tick a v.W v.bits (v.st a).tries).2},0)):=F (by
  rw[<-hR];unfold Bj.IZ;rw[AU (show¬(a≠0/\a≠1)by omega)])
 rw[hR];have Hp:=F (h.on q0)
 have Ahf:=F (fun(τ':Nat->Nat) (w':V) (M':Dg) (a':Bb) (vl:An) (ls:List Lt) (pa:CO τ' w' M' v (q.put a a')) (Ej:BU τ' w') (px:GO M M') (O2:Ju τ' w' vl ls)=>(show AL AE 65 #[AI (I ⟨M.b,0,Z⟩),U O (1-a),vl] w' fun e w2=>e=AN (Be #[])/\Dh τ' w' M' v {q.put a a' with way:=I2 (1-a) q.way ls} w2 by
  have e:(q.put a a').way=q.way:=by unfold Bt.put;split <;> rfl
  have c1:=jf pa Ej (1-a) vl ls O2 (qrf e hlen);rw[px.b,e]at c1;exact c1))
 have Tn:=F (qbw w fun w' hb=>Dh.stay h fr hb)
 have Wy:Aj (∀a',(q.put a a').way=q.way/\(q.put a a').way.length<=64):=F (fun a'=>by
  have e:(q.put a a').way=q.way:=by unfold Bt.put;split <;> rfl
  exact⟨e,qrf e hlen⟩)
 clear hR s sc up iva hz ez es okz h iv;obtain⟨w1,BJ⟩:=Az (Ao w (N #[U O k,U O a,U O c] 29));have e0:E w1 ⟨w,0,Z⟩=I (U O k):=qrb BJ (Cb Q);have e1:E w1 ⟨w,1,Z⟩=I (U O a):=qrb BJ (Cb Q);obtain⟨AM,hE⟩:=Az (w.heap.size);go_in;go_upto_region 1 with fail;rw[BJ]at q0 Dc cC cR cT Ja Up Hp;rw[hE]at e0 e1 tE;have TE:Aj (τ AM≠i):=F (fun e=>i0 (e.symm.trans tE));clear tE i0;clear BJ hE;have Q0:=F q0;clear q0;obtain⟨A,hA⟩:=Az (q.at a);rw[hA]at cC cR cT HR;clear hA;by_cases k7:k=7
 ·have H1:=F (fun h4:A.ph=4=>show AW=(q,13)by rw[HR.out,Bd k7,Bd h4])
  have H2:=F (fun h4:¬A.ph=4=>show AW=(q.put a A.down,0)by rw[HR.out,Bd k7,AU h4]);subst k7;clear HR;rcases ha with rfl | rfl
  all_goals(
   first | simp only[show 37+Int.toNat 0=37 from rfl]at Ja | simp only[show 37+Int.toNat 1=38 from rfl]at Ja
   go_upto_region 3 with fail;go_region;go_wp2_with fail;refine cC.mono ?_;rintro e w' (⟨h4,rfl,rfl⟩ | ⟨h4,rfl,x',f2,st,fx⟩)
   ·have hr:=F (H1.out h4)
    clear h4;go_wp2;go_ret;rw[hr.out];exact⟨Q,Tn.out _ Q0.out⟩
   ·have hr:=F (H2.out h4)
    clear h4;go_wp2;go_ret;rw[hr.out];obtain⟨M',f3,pa,px⟩:=Up.out _ _ _ _ f2 fx st;exact⟨Q,τ,M',f3.t iT,Dc.on f2.out.size,pa,px⟩)
 by_cases k8:k=8
 ·have H1:=F (fun h4:¬A.ph=4=>show AW=(q,11)by rw[HR.out,AU k7,Bd k8,AU h4])
  have H2:=F (fun h4:A.ph=4=>show AW=(q.put a {A with ph:=0},0)by rw[HR.out,AU k7,Bd k8,Bd h4]);subst k8;clear HR;rcases ha with rfl | rfl
  all_goals(
   first | simp only[show 37+Int.toNat 0=37 from rfl]at Ja | simp only[show 37+Int.toNat 1=38 from rfl]at Ja
   go_upto_region 3 with fail;go_region;go_wp2_with fail;refine cR.mono ?_;rintro e w' (⟨h4,rfl,rfl⟩ | ⟨h4,rfl,x',f2,st,fx⟩)
   ·have hr:=F (H1.out h4)
    clear h4;go_wp2;go_ret;rw[hr.out];exact⟨Q,Tn.out _ Q0.out⟩
   ·have hr:=F (H2.out h4)
    clear h4;go_wp2;go_ret;rw[hr.out];obtain⟨M',f3,pa,px⟩:=Up.out _ _ _ _ f2 fx st;exact⟨Q,τ,M',f3.t iT,Dc.on f2.out.size,pa,px⟩)
 have g7:(k == 7)=false:=qsu k7;have g8:(k == 8)=false:=qsu k8;have H1:=F (fun h4:A.ph=4=>show AW=(q,13)by rw[HR.out,AU k7,AU k8,Bd h4]);have H2:=F (fun h4:¬A.ph=4=>show AW=({q.put a (A.tick a v.W v.bits (v.st a).tries).1 with way:=I2 (1-a) q.way (A.tick a v.W v.bits (v.st a).tries).2},0)by rw[HR.out,AU k7,AU k8,AU h4]);clear k7 k8 HR;rcases ha with rfl | rfl
 all_goals(
  first | simp only[show 37+Int.toNat 0=37 from rfl]at Ja | simp only[show 37+Int.toNat 1=38 from rfl]at Ja
  go_upto_region 3 with fail;go_region;go_wp2_with fail;refine cT.mono ?_;rintro e w' (⟨h4,rfl,rfl⟩ | ⟨h4,x',v',rfl,f2,st,O2,fx⟩)
  ·have hr:=F (H1.out h4)
   clear h4;go_wp2_with fail;refine(tu M.b _ _).mono ?_;rintro e w'⟨rfl,rfl⟩;go_wp2;go_ret;rw[hr.out];exact⟨Q,Tn.out _ Q0.out⟩
  ·have hr:=F (H2.out h4)
   clear h4;obtain⟨M',f3,pa,px⟩:=Up.out _ _ _ _ f2 fx st;have Ej:=Dc.on f2.out.size;have e2:=f2.out.cell e1 TE.out;have F3:=F (f3.t iT);have WI:=F pa;have Px:=F px;have O3:=F O2;have cF:=Ahf.out τ w' M' _ v' _ pa Ej px O2
   first | simp only[show(1:Int)-0=1 from rfl]at cF | simp only[show(1:Int)-1=0 from rfl]at cF
   clear e1 Ja f3 pa px;go_wp2_with fail;refine gqz cF fun w2 pe=>?_;have Pe:=F (Dh.of F3.out Px.out pe);clear pe;go_wp2;go_ret;have e5:=Pe.out;rw[hr.out];exact⟨Q,e5⟩)
structure Oh(v:Bj)(st:BX):Prop where
 s:Jm st v.s
 s0:Jm st v.s0
 s1:Jm st v.s1
theorem Jm.eqs{s s':BX}(h:Jm s s'):s'.o=s.o/\s'.slots=s.slots/\s'.head=s.head/\s'.need=s.need/\s'.block=s.block/\s'.sample=s.sample/\s'.width=s.width/\s'.margin=s.margin/\s'.tries=s.tries/\s'.seed=s.seed:=by
 grind [Jm]
section
variable{base c e g i sz:Nat}{w:V}{α:Type}
theorem uG{α:Type}{sz:Nat}{enc:α->List An}(hs:∀x,(enc x).length=sz):∀(l:List α) (i k:Nat) (r r':α) (u:An),l[i]?=I r->k<sz->enc r'=(enc r).set k u->(l.flatMap enc).set (i*sz+k) u=(l.set i r').flatMap enc
 | [],i,k,r,r',u,h,_,_=>by simp at h
 | x::l,0,k,r,r',u,h,hk,he=>by
  grind
 | x::l,i+1,k,r,r',u,h,hk,he=>by
  simp only[List.flatMap_cons,List.set_cons_succ];rw[List.set_append,AU (by rw[hs,Ol];omega),hs,show(i+1)*sz+k-sz=i*sz+k by rw[Ol];omega,uG hs l i k r r' u (qsu h) hk he]
theorem AiI{enc:α->List An}(hs:∀x,(enc x).length=sz){l:List α}(h:Own w base e sz enc (R (I ⟨g,0,Z⟩) (Y l) c) l){k:Nat}{r r':α}{u:An}(hi:l[i]?=I r)(hk:k<sz)(he:enc r'=(enc r).set k u):
  Own (Ai w ⟨g,i*sz+k,Z⟩ u) base e sz enc (R (I ⟨g,0,Z⟩) (Y l) c) (l.set i r'):=by
 have h':w.ownsRow base e sz (R (I ⟨g,0,Z⟩) (Y l) c) (Y l) (l.flatMap enc):=h;have h2:=(World.ownsRow.stored h' (i*sz+k) u).1
 grind [Own,uG]
theorem uI{α:Type}{sz:Nat}{enc:α->List An}(hs:∀x,(enc x).length=sz):∀(l:List α) (i:Nat) (r':α),i<Y l->(l.set i r').flatMap enc=(l.flatMap enc).take (i*sz)++ enc r'++ (l.flatMap enc).drop (i*sz+sz)
 | [],i,_,h=>by simp at h
 | x::l,0,r',_=>by
  grind
 | x::l,i+1,r',h=>by
  have e1:(i+1)*sz=sz+i*sz:=by rw[Ol];omega
  have t1:(enc x).take ((i+1)*sz)=enc x:=EG (by rw[hs,e1];omega);have t2:(enc x).drop ((i+1)*sz+sz)=[]:=WB (by rw[hs,e1];omega)
  have t3:(enc x++ l.flatMap enc).take ((i+1)*sz)=enc x++ (l.flatMap enc).take (i*sz):=by
   rw[List.take_append,t1,hs,show(i+1)*sz-sz=i*sz by omega]
  have t4:(enc x++ l.flatMap enc).drop ((i+1)*sz+sz)=(l.flatMap enc).drop (i*sz+sz):=by
   rw[List.drop_append,t2,hs,show(i+1)*sz+sz-sz=i*sz+sz by omega];rfl
  simp only[List.flatMap_cons,List.set_cons_succ];rw[t3,t4,uI hs l i r' (qsu h)];simp only[List.append_assoc]
theorem AiJ{enc:α->List An}(hs:∀x,(enc x).length=sz){l:List α}(h:Own w base e sz enc (R (I ⟨g,0,Z⟩) (Y l) c) l)(r':α)(hi:i<Y l):
  ∃old,w.heap[g]?=I (N old e (0,0))/\i*sz+sz<=old.size/\Own (w.setRow g (old.toList.take (i*sz)++ enc r'++ old.toList.drop (i*sz+sz)).toArray) base e sz enc (R (I ⟨g,0,Z⟩) (Y l) c) (l.set i r'):=by
 have h':w.ownsRow base e sz (R (I ⟨g,0,Z⟩) (Y l) c) (Y l) (l.flatMap enc):=h;rcases h'.2 with⟨hn,_⟩ | ⟨g',cap,cur,hv,hb,hg,hnc,hcm,hcs,AiK⟩
 ·cases hn
 ·cases hv
  have m1:Y l*sz<=cur.size:=by rw[hcs];exact PX _ hnc
  have m2:i*sz+sz<=Y l*sz:=by rw[<-Nat.succ_mul];exact PX _ hi
  have m3:Y cur.toList=cur.size:=Array.length_toList;refine⟨cur,hg,J,?_⟩;unfold Own;rw[LN];refine⟨by rw[Wr hs (l.set i r'),LN],.inr ⟨g,c,(cur.toList.take (i*sz)++ enc r'++ cur.toList.drop (i*sz+sz)).toArray,rfl,hb,GS w g _ _ _ (0,0) hg,hnc,hcm,?_,?_⟩⟩
  ·grind
  ·rw[uI hs l i r' hi,<-AiK,List.take_take,Oo J,List.drop_take]
   have q1:(cur.toList.take (i*sz)++ enc r').length=i*sz+sz:=by grind
   rw[List.take_append,EG J,q1]
theorem jA(n:Nat):n ^^^ 1=if n%2=0 then n+1 else n-1:=by
 have h1:(n ^^^ 1) / 2=n / 2:=by rw[Nat.xor_div_two];simp
 have h2:(n ^^^ 1)%2=(n+1)%2:=by rw[show(2:Nat)=2^1 from rfl,Nat.xor_mod_two_pow];rcases Nat.mod_two_eq_zero_or_one n with h | h <;> simp[h] <;> omega
 grind
theorem AiL{n:Nat}(h:n<2^64):bits .xor .u64 (n:Int) 1=(Ix n:Int):=by
 rw[show(1:Int)=((1:Nat):Int)from rfl,mr h AC,jA]
 grind [Ix]
theorem AiM{n:Int}(h:0<=n/\n<=65535):bits .xor .i64 n 1=IY n:=by
 obtain⟨m,rfl⟩:=DV h.1
 have o:∀x:Nat,x<1000000->(BitVec.ofInt 64 (x:Int)).toNat=x:=fun x hx=>by
  grind
 have h1:bits .xor .i64 (m:Int) ((1:Nat):Int)=((m ^^^ 1:Nat):Int):=by
  show IntKind.i64.wrap ((BitVec.ofInt 64 (m:Int) ^^^ BitVec.ofInt 64 ((1:Nat):Int)).toNat:Int)=_;rw[BitVec.toNat_xor,o m J,o 1 AC];have:m ^^^ 1<=m+1:=by grind [jA]
  exact IntWalk.i64_in _ J
 grind [IY,jA]
end
open Go.Lib
def AiN{P:Program}{w w':V}{ops:Array Oper}{rest:List Oper}{o:Oper}{a:Act}{Bn:Exit->Act->V->Prop}(hgd:o.guard=Z)(s x:Operand)(t tn:TypeId)
  (ho:o.op=.call {callee:= .builtin .append,args:=#[s,x],argTypes:=#[t,tn]}) (v u r:An) (hs:a.eval s=v) (hx:a.eval x=u) (hrun:∀ty,(Builtin.append_ #[t,tn] ty #[v,u]).run P w=.ok r w')
  (h:wpList P ops Bn rest (a.put o.dst r) w'):wpList P ops Bn (o::rest) a w:=
 wpList_plain hgd fun _ hK=>by
  unfold Oper.wp execOp;simp only[ho,resolve,invoke,builtin,Sem.run_bind,Sem.run_pure,Result.andThen_ok,List.map_toArray,List.map_cons,List.map_nil,hs,hx,hrun];exact hK _ _ h
def AiO(n:Nat)(w:V)(hn:n<=1000):AL AE 122 #[R Z 0 0,U O n] w fun e w'=>∃v,e=AN v/\Own w' w 41 6 BW.enc v []/\Ag w w w':=by
 obtain⟨i0,hi,hz0,hz1,hz2⟩:=IA Zb;have Hi:=F hi;have EJ:=F hz0;have Ep:=F hz1;have Eh:=F hz2;clear hi hz0 hz1 hz2;have g1:decide ((n:Int)<0)=false:=AO;by_cases h0:n=0
 ·subst h0
  go_in;go_wp2;go_ret;exact⟨_,Q,Own.nil,Ae _ _⟩
 ·have g2:decide (0<(n:Int))=true:=by simp;omega
  have h1:0<n:=J;clear h0;have hold:(Builtin.firstCells i0.size 0 (R Z 0 0)).run AE w.drew=.ok (([]:List An).toArray) w.drew:=run_firstCells_none w.drew i0.size 0 0 0
  have hrz:∀ty,(Builtin.append_ #[34,3] ty #[R Z 0 0,U O n]).run AE w =
   .ok (R (I ⟨w,0,Z⟩) n (grownCap w n 0 41)) (Ao w.drew (N ((([]:List An).toArray)++ Builtin.zeroCells (Value.cells (Ba #[U O 0,U O 0,U O 0,U O 0,R Z 0 0,U AA 0])) n++ Builtin.zeroCells (Value.cells (Ba #[U O 0,U O 0,U O 0,U O 0,R Z 0 0,U AA 0])) (grownCap w n 0 41-n)) 41)):=fun ty=>by
   have h:=Lib.run_append_grow_zeros w 34 3 ty 41 i0 (Ba #[U O 0,U O 0,U O 0,U O 0,R Z 0 0,U AA 0]) .i64 .i64 underlying34 underlying3 Hi EJ Z 0 0 [] hold n J (by rw[Ep.out];decide) J J (by rw[Eh.out];omega) (growslice_fits J (by rw[Eh.out];omega));rw[EE]at h;exact h
  go_in;go_wp2_with(at_builtin;refine AiN Q _ _ _ _ Q _ _ _ Q Q hrz ?_);go_ret;have h2:=grownCap_ge w n 0 41;have h3:=grownCap_le_maxLen w n 0 41 (by unfold maxLen;omega);refine⟨_,Q,⟨Q,.inr ⟨w,_,_,rfl,Bg _,CB w _,BM _,h3,?_,AO⟩⟩,(AB (Ae _ _) _).drew⟩;simp only[Array.size_append,size_zeroCells,List.size_toArray,List.length_cons,List.length_nil];omega
def AiP(X:Nat)(A C:Option AS)(cA cC:Nat)(a b:List BW)(w:V)(h0:E w ⟨X,0,Z⟩=I (R A (Y a) cA))(h1:E w ⟨X,1,Z⟩=I (R C (Y b) cC))(hA:Arr 6 BW.enc w w A a)(hC:Arr 6 BW.enc w w C b)(nA:A=Z->cA=0)(nC:C=Z->cC=0)(la:Y a<=400)(lb:Y b<=400):
  AL AE 64 #[R (I ⟨X,0,Z⟩) 2 2] w fun e w'=>∃v,e=AN v/\Own w' w 41 6 BW.enc v (a++ b)/\Ag w w w':=by
 have cG:=AiO (Y a+Y b) w J;go_in;go_wp2_with fail;go_loop [3,11] (fun sz i=>(i=U O 0/\sz=U O 0)\/(i=U O 1/\sz=U O (Y a:Nat))\/(i=U O 2/\sz=U O ((Y a+Y b:Nat):Int))) (fun _ i=>5-(intOf i).toNat);exact .inl ⟨rfl,rfl⟩
 rcases hrel with⟨rfl,rfl⟩ | ⟨rfl,rfl⟩ | ⟨rfl,rfl⟩
 ·go_wp2
  exact⟨.inr (.inl ⟨rfl,qgm⟩),by simp[intOf]⟩
 ·go_wp2
  exact⟨.inr (.inr ⟨rfl,qgm⟩),by simp[intOf]⟩
 ·go_wp2_with fail
  refine cG.mono ?_;rintro e w1⟨v1,rfl,Dy,hb1⟩;clear cG;go_wp2_with fail;go_loopw [6,27] (fun v i wr=>((i=U O 0/\Own wr w 41 6 BW.enc v [])\/(i=U O 1/\Own wr w 41 6 BW.enc v a)\/(i=U O 2/\Own wr w 41 6 BW.enc v (a++ b)))/\Ag w w wr) (fun _ i _=>5-(intOf i).toNat);exact⟨.inl ⟨rfl,Dy⟩,hb1⟩
  obtain⟨hrel,hb⟩:=hrel;obtain⟨w6,rfl⟩:=qgn wr;have k0:=AK hb h0;have k1:=AK hb h1;have arA:=hA.on hb;have arC:=hC.on hb;have sz:=hb.size;have by1:(([]:List BW).length+Y a)*64<=140737488355328:=by simp;omega
  have by2:(Y a+Y b)*64<=140737488355328:=J;clear Dy hb1;rcases hrel with⟨rfl,own⟩ | ⟨rfl,own⟩ | ⟨rfl,own⟩
  ·go_wp2_with(at_builtin;refine Wt underlying34 Zb BW.BY BW.one ([]:List BW) a own arA nA by1 sz ?_;intro v2 w2 CU hb2;rw[Uy]at CU)
   exact⟨⟨.inr (.inl ⟨rfl,CU⟩),hb.trans hb2⟩,by simp[intOf]⟩
  ·go_wp2_with(at_builtin;refine Wt underlying34 Zb BW.BY BW.one a b own arC nC by2 sz ?_;intro v2 w2 CU hb2)
   exact⟨⟨.inr (.inr ⟨rfl,CU⟩),hb.trans hb2⟩,by simp[intOf]⟩
  ·go_wp2_with fail
   go_ret;exact⟨_,Q,own,hb⟩
end Go.Proofs.YtjpidgffdkjjeaaGreat
