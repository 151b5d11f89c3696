/- Contracts and plain laws. No condition. -/
import Derived.ChangeAlike
import Derived.ChangeOld
import Derived.Deep.Fields
import Derived.Deep.QuietTactic
import Derived.Deep.Slices
import Derived.IntWalk
import Derived.Laws.CopyRow
import Derived.Lib.SlKeysI
import Derived.Lib.SmallJoins
import Derived.Maps.AppendAt
import Derived.OpenShut
import Derived.ProofKit
import Derived.RangeFuncBox
import Derived.RangeFuncCalls
import Derived.RangeFuncLeaves
import Derived.RegionTactic
import Derived.Test.YtjpidgffdkjjeaaGreatCA
import Derived.Test.YtjpidgffdkjjeaaGreatRows
import Derived.Test.YtjpidgffdkjjeaaGreatCS
import Derived.Test.YtjpidgffdkjjeaaGreatC00
set_option linter.all false
set_option maxHeartbeats 16000000
namespace Go.Proofs.YtjpidgffdkjjeaaGreat
open Go.Proofs.Tryz
open Go.Proofs.Tryz renaming prog->AE
open List renaming length->Y
open Go.World renaming cell?->E,setCell->Ai,alloc->Ao,frozen?->Bo
open Go.Value renaming int->U,slice->R,pointer->AI,agg->Ba,tuple->Be,nilFunc->Bl,bool->Av
open Go.IntKind renaming i64->O,u64->AA,u32->BF,u8->Cd
open Option renaming none->Z,some->I
open Go.Ending renaming returned->AN
open Go.Obj renaming cells->N
open Go renaming World->V,Value->An,Calls->AL,Addr->AS
open Go.RowKit renaming Below->Ag,Hid->Aj
set_option maxRecDepth 100000
open Go.ChangeShapes Go.WideShapes Go.ChangeAt Go.RowKit Go.Deep Go.Joins
def vh{w:V}{a:AS}{v:An}(h:E w a=I v):a.spot=Z:=by
 obtain⟨b,o,s⟩:=a;cases s with
 | none=>rfl
 | some x=>simp only[World.cell?]at h;split at h <;> simp at h
theorem jF{α:Type}(P:Nat->α->Prop):∀n,(∀i,i<n->∃x,P i x)->∃l:List α,Y l=n/\∀i x,l[i]?=I x->P i x
 | 0,_=>⟨[],Q,AO⟩
 | n+1,h=>by
  obtain⟨l,hl,hP⟩:=jF P n (fun i hi=>h i J);obtain⟨x,hx⟩:=h n J;refine⟨l++ [x],by simp[hl],fun i y hy=>?_⟩;by_cases hi:i<Y l
  ·exact hP i y (by rwa [Xe hi]at hy)
  ·rw[XN J]at hy
   have h0:i-Y l=0:=by
    have:=(EF.1 hy).1;simp at this;omega
   rw[h0]at hy;have:x=y:=qsu hy;subst this;have:i=n:=J;subst this;exact hx
section
variable {H:Type} {en:TypeId × An→H} {P:Program} {w:V} {base:Nat} {spare:Nat→Bool} {held:Bool}
def Ai8{α:Type}{sz:Nat}{enc:α->List An}(ok:α->Prop)(hs:∀x,(enc x).length=sz)(hsz:0<sz){t e:TypeId}(ht:P.underlying t=I (.slice e))(hC:P.cellsOf e=sz)
  (hdec:∀n cs y,DataW.trod en P w base spare held n e cs=I y->∃x:α,cs=enc x/\ok x) {fuel:Nat} {cs:List An} {x:DataW H × List MemPlace}
  (h:DataW.trod en P w base spare held fuel t cs=I x):
  ∃(A:Option AS) (cap:Nat) (l:List α),cs=[.slice A (Y l) cap]/\Y l<=cap/\cap<=maxLen/\(A=Z->cap=0)/\Arr sz enc w w A l/\∀x∈l,ok x:=by
 rcases open_slice ht h with⟨rfl,_⟩ | ⟨a,len,cap,m,n,D,Pl,rfl,hb,hl,hm,hmm,hx,hi⟩
 ·exact⟨Z,0,[],Q,Bg _,BM _,fun _=>rfl,Arr.nil,AO⟩
 ·have hle:len<=m:=by rw[hmm];split <;> omega
  obtain⟨l,hlen,hP⟩:=jF (fun i (x:α)=>(∀j u,(enc x)[j]?=I u->E w (a.add (i*sz+j))=I u)/\ok x) len (fun i hi'=>by
   obtain⟨cs',hc,ht'⟩:=hi i J;obtain⟨x,rfl,hox⟩:=hdec n cs' _ ht';obtain⟨_,DG,hat⟩:=World.cells?_some hc;rw[hC]at hat DG;refine⟨x,fun j u hu=>?_,hox⟩;have hj:j<sz:=by have:=(EF.1 hu).1;rwa [hs]at this
   rw[<-Go.Deep.add_add,hat j hj];exact hu)
  refine⟨I a,cap,l,by rw[hlen],J,hm,(fun h=>by cases h),fun hne=>?_,fun x hx=>?_⟩
  ·obtain⟨x0,hx0⟩:∃x0,l[0]?=I x0:=by
    cases l with
    | nil=>exact(hne Q).elim
    | cons y ys=>exact⟨y,Q⟩
   obtain⟨u0,hu0⟩:∃u0,(enc x0)[0]?=I u0:=⟨_,CH (qrf hs hsz)⟩
   have hc0:=(hP 0 x0 hx0).1 0 u0 hu0;have vi:a.add (0*sz+0)=a:=by simp[Addr.add]
   rw[vi]at hc0;have hsp:=vh hc0;have hlt:=Ch w a hc0;obtain⟨b,off,s⟩:=a;simp only at hsp;subst hsp;refine⟨b,off,Q,hlt,fun i x hx j u hu=>?_⟩;have:=(hP i x hx).1 j u hu
   rw[show(⟨b,off,Z⟩:AS).add (i*sz+j)=⟨b,off+i*sz+j,Z⟩from by
    unfold Addr.add;split
    ·rename_i h0;rw[show off+i*sz+j=off from by omega]
    ·simp[Nat.add_assoc]]at this
   exact this
  ·obtain⟨i,hi'⟩:=List.getElem?_of_mem hx
   exact(hP i x hi').2
end
def m64(x:Nat):Nat:=x%18446744073709551616
def Bk(s:Nat):Nat:=m64 (m64 (s*4906513781625342421)+1181783497276652981)
def nxX(s:Nat):Nat:=m64 ((s ^^^ s / 4294967296)*7809847782465536323)
def C9(s:Nat):Nat:=nxX (Bk s) ^^^ nxX (Bk s) / 536870912
def mz(x:Nat):m64 x<2^64:=IB _ AC
theorem VG(x:Nat):IntKind.u64.wrap (x:Int)=(m64 x:Int):=by
 unfold m64;simp[IntKind.wrap,IntKind.bits,IntKind.signed]
theorem mC(s:Nat):∃m1 s' h x1 x g y:Nat,IntKind.u64.wrap ((s:Int)*4906513781625342421)=(m1:Int)/\IntKind.u64.wrap (4906513781625342421*(s:Int))=(m1:Int)/\IntKind.u64.wrap ((m1:Int)+1181783497276652981)=(s':Int)/\(s':Int) / 4294967296=(h:Int)/\bits .xor .u64 (s':Int) (h:Int)=(x1:Int)/\
  IntKind.u64.wrap ((x1:Int)*7809847782465536323)=(x:Int)/\IntKind.u64.wrap (7809847782465536323*(x1:Int))=(x:Int)/\(x:Int) / 536870912=(g:Int)/\bits .xor .u64 (x:Int) (g:Int)=(y:Int)/\Aj (s'=Bk s/\y=C9 s/\y<2^64/\s'<2^64/\IntKind.u64.wrap (h:Int)=(h:Int)/\(s':Int).tdiv 4294967296=(h:Int)/\IntKind.u64.wrap (g:Int)=(g:Int)/\(x:Int).tdiv 536870912=(g:Int)):=by
 have l2:Bk s<2^64:=mz _;have l3:nxX (Bk s)<2^64:=mz _;have d2:Bk s / 4294967296<2^64:=Do (Sy _ _) l2;have d3:nxX (Bk s) / 536870912<2^64:=Do (Sy _ _) l3;refine⟨m64 (s*4906513781625342421),Bk s,Bk s / 4294967296,Bk s ^^^ Bk s / 4294967296,nxX (Bk s),nxX (Bk s) / 536870912,C9 s,?_,?_,?_,?_,?_,?_,?_,?_,?_,F ⟨rfl,rfl,VF l3 d3,l2,?_,rfl,?_,rfl⟩⟩
 ·rw[<-VG];simp
 ·grind [m64,Bk,nxX,VG]
 ·grind [m64,Bk,nxX,VG]
 ·simp
 ·exact u64_xor_nat _ _ l2 d2
 ·grind [Bk,nxX,m64,VG]
 ·grind [Bk,nxX,m64,VG]
 ·simp
 ·exact u64_xor_nat _ _ l3 d3
 all_goals grind [Bk,m64,nxX,VG]
def TJ(s:Nat)(w:V):AL AE 83 #[U AA s] w fun e w'=>e=AN (AI (I ⟨w,0,Z⟩))/\w'=Ao w (N #[U AA s,Av true] 219):=by
 go_in;go_wp2;go_ret;exact⟨Q,Q⟩
def fq(b:Nat)(w:V)(h1:E w ⟨b,1,Z⟩=I (Av true)):AL AE 134 #[AI (I ⟨b,0,Z⟩)] w fun e w'=>e=AN (Av true)/\w=w':=by
 go_in;go_wp2;go_ret;exact⟨Q,Q⟩
def ae(b s:Nat)(w:V)(h0:E w ⟨b,0,Z⟩=I (U AA s))(hf:Bo w ⟨b,0,Z⟩=false)(h1:E w ⟨b,1,Z⟩=I (Av true)):
  AL AE 84 #[AI (I ⟨b,0,Z⟩)] w fun e w'=>e=AN (U AA (C9 s))/\∃n,w'=(Ai w ⟨b,0,Z⟩ (U AA (Bk s))).drewN n:=by
 obtain⟨m1,s',h,x1,x,g,y,a1,_,a3,a4,a5,a6,_,a8,a9,hid⟩:=mC s;have cV:=fq b w h1;go_in;go_wp2_with(go_at_call 134;refine mqv (cV) ?_);have z0:E (Ai w ⟨b,0,Z⟩ (U AA s')) ⟨b,0,Z⟩=I (U AA s'):=TK _ _ _ (by rw[h0];rfl);go_quiet (fail);go_wp2;go_ret;exact⟨Cg (by rw[hid.out.2.1]),_,by rw[hid.out.1]⟩
def ft(b:Nat)(n:Int)(w:V)(h1:E w ⟨b,1,Z⟩=I (Av true))(hn:0<=n/\n<=65536):AL AE 166 #[AI (I ⟨b,0,Z⟩),U O n] w fun e w'=>e=AN (U O 0)/\w=w':=by
 have cV:=fq b w h1;obtain⟨n0,n1⟩:=hn;go_in;go_wp2_with(go_at_call 134;refine mqv (cV) ?_);go_ret;exact⟨Q,Q⟩
theorem Fj{x y z:V}{r:Option Nat}(h:x.grownBy y r)(k:y.grownBy z r):x.grownBy z r:=
 ⟨k.os.trans h.os,k.tape.trans h.tape,k.output.trans h.output,Br h.size k.size,fun i hi hr=>(k.block i (Ck hi h.size) hr).trans (h.block i hi hr)⟩
def zr{x y:V}{r:Option Nat}(h:x.grownBy y Z):x.grownBy y r:=⟨h.os,h.tape,h.output,h.size,fun i hi _=>h.block i hi AO⟩
def mD(x:V)(n:Nat)(r:Option Nat):x.grownBy (x.drewN n) r:=⟨Q,Q,Q,Bg _,fun _ _ _=>rfl⟩
theorem Dt(x:V)(b o:Nat)(v:An):x.grownBy (x.setCell ⟨b,o,Z⟩ v) (I b):=
 ⟨rfl,rfl,rfl,by show x.heap.size<=(x.heap.modify _ _).size;grind,fun k _ hk=>Fd x ⟨b,o,Z⟩ v k (fun e=>hk (by rw[e]))⟩
def Qa(s:Nat):Nat->Nat
 | 0=>s
 | k+1=>Bk (Qa s k)
def af(s k:Nat):Bool:=decide (C9 (Qa s k)%2=1)
def GW(s n:Nat):List Bool:=(List.range n).map (af s)
def Rm(s n:Nat):(GW s n).length=n:=by simp[GW]
def zs{s n k:Nat}(h:k<n):(GW s n)[k]?=I (af s k):=by simp[GW,h]
theorem zt{d:Nat}(hd:d<2^64):(bits BinOp.and IntKind.u64 (d:Int) 1 == 1)=decide (d%2=1):=by
 rw[show(1:Int)=((1:Nat):Int)from rfl,u64_and_nat d 1 hd AC,Nat.and_one_is_mod]
 grind
def mE(s:Nat):C9 s<2^64:=by
 obtain⟨m1,s',h,x1,x,g,y,_,_,_,_,_,_,_,_,_,hid⟩:=mC s;rw[<-hid.out.2.1];exact hid.out.2.2.1
def Rn:(prog.info? 4).map (fun i=>(i.zero,i.size,i.bytes))=I (I (Av false),1,1):=AG
def mF(b s n:Nat)(w:V)(h0:E w ⟨b,0,Z⟩=I (U AA s))(hf:Bo w ⟨b,0,Z⟩=false)(h1:E w ⟨b,1,Z⟩=I (Av true))(hn:n<=65536):
  AL AE 115 #[AI (I ⟨b,0,Z⟩),U O n] w fun e w'=>∃v,e=AN (Be #[v,U O 0])/\Own w' w 4 1 C4 v (GW s n)/\w.grownBy w' (I b)/\E w' ⟨b,0,Z⟩=I (U AA (Qa s n))/\Bo w' ⟨b,0,Z⟩=false/\E w' ⟨b,1,Z⟩=I (Av true):=by
 obtain⟨i0,hi,hz0,hz1,hz2⟩:=IA Rn;have Hi:=F hi;have EJ:=F hz0;have Ep:=F hz1;have Eh:=F hz2;clear hi hz0 hz1 hz2;have cS:=ft b n w h1 ⟨J,J⟩;have hbl:=Ch w _ h0;simp only at hbl;go_in
 go_wp2_with(first
  | (go_at_call 166;refine mqv (cS) ?_)
  | (at_make;refine Nb Tryz.underlying44 Rn (fun b:Bool=>Value.bool b) false n ?_;intro w1 Dy hb1))
 have z0:=AK hb1 h0;have z1:=AK hb1 h1;have zf:=(hb1.frozen (Ch _ _ h0)).trans hf;have Cw:Aj (Dm (GW s n) false 0=List.replicate n false):=F (by rw[Ug,Rm]);go_loopw [19] (fun i wr=>∃k:Nat,k<=n/\i=U O k/\Own wr w 4 1 (fun x=>[Value.bool x]) (R (I ⟨w,0,Z⟩) n n) (Dm (GW s n) false k)/\w.grownBy wr (I b)/\E wr ⟨b,0,Z⟩=I (U AA (Qa s k))/\Bo wr ⟨b,0,Z⟩=false/\E wr ⟨b,1,Z⟩=I (Av true)) (fun i _=>n-(intOf i).toNat);exact⟨0,BM _,rfl,qrf Cw.out Dy,zr (Db hb1),z0,zf,z1⟩
 clear z0 z1 zf h0 h1 hf;obtain⟨k,hk,rfl,ow,gr,z0,zf,z1⟩:=hrel;rcases D4 k n with hlt | D8
 ·have cN:=ae b (Qa s k) wr z0 zf z1
  have lb:=zt (mE (Qa s k));have hB:Aj (af s k=decide (C9 (Qa s k)%2=1)):=F Q;have hst:Aj (Qa s (k+1)=Bk (Qa s k)):=F Q;rw[<-hB.out]at lb;generalize C9 (Qa s k)=y at*;rw[<-hst.out]at cN;have f0:=ow.Eg (Sv _ _ (by rw[Rm];omega) |>.trans (Rm _ _)) (k:=k) (Ts false (qrf Rm hlt));have f1:=ow.Dc (Sv _ _ (by rw[Rm];omega) |>.trans (Rm _ _)) k
  have Cn:AL AE 84 #[AI (I ⟨b,0,Z⟩)] wr fun e w'=>e=AN (U AA y)/\(E w' ⟨w,k,Z⟩=I (Av false)/\Bo w' ⟨w,k,Z⟩=false)/\Own w' w 4 1 (fun x=>[Value.bool x]) (R (I ⟨w,0,Z⟩) n n) (Dm (GW s n) false k)/\w.grownBy w' (I b)/\E w' ⟨b,0,Z⟩=I (U AA (Qa s (k+1)))/\Bo w' ⟨b,0,Z⟩=false/\E w' ⟨b,1,Z⟩=I (Av true):=by
   refine cN.mono ?_;rintro e w'⟨rfl,nn,rfl⟩;have g1:wr.grownBy ((Ai wr ⟨b,0,Z⟩ (U AA (Qa s (k+1)))).drewN nn) (I b):=Fj (Dt wr b 0 _) (mD _ nn _);have hne:I w.heap.size≠I b:=by simp;omega
   have wlt:=Ch wr _ f0;refine⟨Q,⟨(Fx (g1.block _ wlt hne)).trans f0,(WU (g1.block _ wlt hne)).trans f1⟩,ow.keep g1 (.inr hne),Fj gr g1,?_,?_,?_⟩
   ·exact TK _ _ _ (by rw[z0];rfl)
   ·exact(GX _ _ _ _).trans zf
   ·exact(GY _ _ _ _ AO).trans z1
  clear cN z0 zf z1 f0 f1;go_wp2_with(go_at_call 84;refine Cn.mono ?_;rintro e w2 ⟨rfl,⟨f0,f1⟩,GZ,Nu,z0,zf,z1⟩);have hlen:(Dm (GW s n) false k).length=n:=(Sv _ _ (by rw[Rm];omega)).trans (Rm _ _);have Fm:=GZ.Ft hlen k (af s k);rw[Tr false (zs hlt)]at Fm;have hnb:b≠↑w:=J;refine⟨⟨k+1,J,qgm,Fm,⟨Nu.os,Nu.tape,Nu.output,Br Nu.size (Dt w2 w k _).size,fun i hi hr=>(Fd w2 ⟨w,k,Z⟩ _ i (by show i≠↑w;omega)).trans (Nu.block i hi hr)⟩,?_,?_,?_⟩,qio⟩
  ·rw[GY _ _ _ _ (by intro e;injection e with e;exact hnb e.symm)];exact z0
  ·rw[GX];exact zf
  ·rw[GY _ _ _ _ (by intro e;injection e with e;exact hnb e.symm)];exact z1
 ·obtain rfl:k=n:=J
  rw[Uh _ _ (by rw[Rm];omega)]at ow;go_wp2;go_ret2;exact⟨_,Q,ow,gr,z0,zf,z1⟩
def Ap(u v:An):Prop:=u.ownBlock=Z\/u.ownBlock≠v.ownBlock
theorem Ap.symm{u v:An}(h:Ap u v):Ap v u:=by
 grind [Ap]
def At(w:V)(x x':An):Prop:=x'.ownBlock=x.ownBlock\/∃H,x'.ownBlock=I H/\w.heap.size<=H
section
variable {α β:Type} {w w':V} {b e z:Nat} {enc:α→List An} {u x x':An} {l:List α}
theorem ai(h:Own w b e z enc u l)(ha:Ap u x)(hat:At w x x'):Ap u x':=by
 rcases hat with hat | ⟨H,hat,hH⟩
 ·grind [Ap,Own]
 ·unfold Ap
  cases hu:u.ownBlock with
  | none=>grind
  | some g=>
   have:=(Cp h g hu).2
   grind
def Ys(h:Own w b e z enc u l)(ha:Ap u x)(hg:w.grownBy w' x.ownBlock):Own w' b e z enc u l:=h.keep hg ha
theorem mQ{v:An}{f:β->List An}{l2:List β}{e2 z2:Nat}(h:Own w b e z enc u l)(h2:Own w' w e2 z2 f v l2):Ap v u:=by
 unfold Ap;cases hv:v.ownBlock with
 | none=>grind
 | some g=>
  refine .inr fun hu=>?_
  have h3:=(Cp h2 g hv).1;have h4:=(Cp h g hu.symm).2;omega
end
theorem WY{P:Program}{w0:V}{ops:Array Oper}{rest:List Oper}{o:Oper}{a:Act}{Bn:Exit->Act->V->Prop}(hgd:o.guard=Z)(s x:Operand)(t:TypeId)
  (ho:o.op=.call {callee:= .builtin .append,args:=#[s,x],argTypes:=#[t,t]})
  (base:Nat) (e:TypeId) (i:TypeInfo) (z:An) (size bytes:Nat) (ht:P.underlying t=I (.slice e)) (hi:P.info? e=I i) (hz:i.zero=I z)
  (hsize:i.size=size) (hby:i.bytes=bytes) (hzs:z.cells.size=size) (hsz:0<size)
  {α:Type} {enc:α->List An} (v:An) (l:List α) (x0:α) (cs:Array An) (T:TypeId) (hs:a.eval s=v) (hown:Own w0 base e size enc v l)
  {g:Nat} (hx:a.eval x=R (I ⟨g,0,Z⟩) 1 1) (hcs:cs.toList=enc x0) (hlen:(enc x0).length=size) (h1:∀u∈enc x0,u.oneCell'=true)
  (hbytes:(Y l+1)*bytes<=140737488355328) (I7:0<bytes) (hbase:base<=↑w0) (hg:g=↑w0)
  (h:∀v' w',Own w' base e size enc v' (l++ [x0])->w0.grownBy w' v.ownBlock->At w0 v v'->wpList P ops Bn rest (a.put o.dst v') w'):wpList P ops Bn (o::rest) a (Ao w0 (N cs T)):=by
 subst hg
 have h63:Y l+1<=maxLen:=by
  have:=Vt (Y l+1) I7;unfold maxLen;omega
 refine wpList_append_own_at _ hgd s x t ho base e i z size bytes ht hi hz hsize hby hzs hsz v (Y l) (l.flatMap enc) hs (XO hown _) ⟨w0,0,Z⟩ 1 1 (enc x0) hx (by rw[hlen,Nat.one_mul]) (fun j u hu=>?_) h1 h63 hbytes qsm (fun v' w' h2 h3 _ h5=>h v' w' (Own.snoc h2) ?_ ?_)
 ·have PH:(⟨w0,0,Z⟩:AS).add j=⟨w0,j,Z⟩:=by unfold Addr.add;split <;> simp_all
  rw[PH];exact Cb (by rw[<-hu,<-hcs];simp)
 ·exact((Db (AB (Ae _ _) (N cs T))).but _).trans h3
 ·rcases h5 with h5 | h5
  ·exact .inl h5
  ·exact .inr ⟨_,h5,AO⟩
theorem zI{P:Program}{W:V}{ops:Array Oper}{o:Oper}{a:Act}{K:Act->V->Prop}{Bn:Exit->Act->V->Prop}{AM:Prop}(hgd:o.guard=Z)(s x:Operand)(t:TypeId)
  (ho:o.op=.call {callee:= .builtin .append,args:=#[s,x],argTypes:=#[t,t]})
  (base:Nat) (e:TypeId) (i:TypeInfo) (z:An) (size bytes:Nat) (ht:P.underlying t=I (.slice e)) (hi:P.info? e=I i) (hz:i.zero=I z)
  (hsize:i.size=size) (hby:i.bytes=bytes) (hzs:z.cells.size=size) (hsz:0<size)
  {α:Type} {enc:α->List An} (v:An) (l:List α) (x0:α) (hs:a.eval s=v) (hown:Own W base e size enc v l)
  {g:Nat} (hx:a.eval x=R (I ⟨g,0,Z⟩) 1 1) (hnews:∀j u,(enc x0)[j]?=I u->E W ⟨g,j,Z⟩=I u) (hlen:(enc x0).length=size) (h1:∀u∈enc x0,u.oneCell'=true)
  (hbytes:(Y l+1)*bytes<=140737488355328) (I7:0<bytes) (hbase:base<=↑W)
  (h:∀v' w',Own w' base e size enc v' (l++ [x0])->Ag base W w'->W.grownBy w' v.ownBlock->K (a.put o.dst v') w'):if Region.wanted o (yielded ops a.tmps)=true then Oper.wp P o a W K Bn else AM:=by
 have h63:Y l+1<=maxLen:=by
  have:=Vt (Y l+1) I7;unfold maxLen;omega
 rw[Bd (by simp[Region.wanted,hgd])];refine wp_append_own W s x t ho base e i z size bytes ht hi hz hsize hby hzs hsz v (Y l) (l.flatMap enc) hs hown ⟨g,0,Z⟩ 1 1 (enc x0) hx J (fun j u hu=>?_) h1 h63 hbytes hbase (fun v' w' h2 h3 _=>h v' w' (Own.snoc h2) ?_ h3)
 ·have PH:(⟨g,0,Z⟩:AS).add j=⟨g,j,Z⟩:=by unfold Addr.add;split <;> simp_all
  rw[PH];exact hnews j u hu
 ·exact(Ae _ _).grown h3 hbase (fun k hk=>(Cp hown k hk).1)
def qsG{P:Program}{w:V}{ops:Array Oper}{o:Oper}{a:Act}{K:Act->V->Prop}{Bn:Exit->Act->V->Prop}{AM:Prop}{t e:TypeId}{z:An}{size bytes:Nat}(ht:P.underlying t=I (.slice e))(hf:(P.info? e).map (fun i=>(i.zero,i.size,i.bytes))=I (I z,size,bytes)){α:Type}{enc:α->List An}(l:List α)(x0:α){v:An}{base:Nat}(hown:Own w base e size enc v l){g:Nat}(hnews:∀j u,(enc x0)[j]?=I u->E w ⟨g,j,Z⟩=I u)(h1:∀u∈enc x0,u.oneCell'=true)
  (hbytes:(Y l+1)*bytes<=140737488355328) (hbase:base<=↑w) (h:∀v' w',Own w' base e size enc v' (l++ [x0])->Ag base w w'->w.grownBy w' v.ownBlock->K (a.put o.dst v') w') {s x:Operand}
  (hgd:o.guard=Z:=by exact rfl) (ho:o.op=.call {callee:= .builtin .append,args:=#[s,x],argTypes:=#[t,t]}:=by exact rfl) (hs:a.eval s=v:=by exact rfl) (hx:a.eval x=R (I ⟨g,0,Z⟩) 1 1:=by exact rfl) (hlen:(enc x0).length=size:=by exact rfl) (hzs:z.cells.size=size:=by exact rfl) (hsz:0<size:=by decide) (I7:0<bytes:=by decide):if Region.wanted o (yielded ops a.tmps)=true then Oper.wp P o a w K Bn else AM:=by
 obtain⟨i,hi,hz,h2,h3⟩:=IA hf;exact zI hgd s x t ho base e i z size bytes ht hi hz h2 h3 hzs hsz v l x0 hs hown hx hnews hlen h1 hbytes I7 hbase h
def ni{α:Type}(B:Nat)(Kp:V->V->Prop)(C0:List α->V->Prop)(xs:List α)(W:V):Exit->Act->V->Prop
 | .normal,_,W'=>KeepsFrom B W W'/\Kp W W'/\C0 xs W'
 | _,_,_=>False
def Aai{AY:Fence}{n:Nat}{P:Program}{α:Type}{g:Operand}{ps:Array Tmp}{assign body:Code}{Bn:Exit->Act->V->Prop}{a:Act}{w:V}
  (hro:AY.round=Z) (h1:1<=n) {gf:Nat} {lb:Array An} (hg:a.eval g=.func (.func gf) #[] lb) (hFg:AY.fn gf) (eg:∀args w,(callFunc gf args).run P w=.ok (.enter gf args) w)
  {Rq:α->Array An} {Kp St:V->V->Prop} {OK:α->Prop} {xs:List α} (C0:List α->V->Prop)
  (hseq:∀(l:Nat) (Bi:List α->V->Prop) (W:V),Ag w w W->(∀s A B,Bi s A->St A B->Bi s B)->(∀s A,Bi s A->C0 s A)->
   (∀pre x W,Bi pre W->OK x->YieldAt AY (n-1-1) P l (Rq x) W fun e W'=>e=AN (Av true)/\Bi (pre++ [x]) W'/\Kp W W')->Bi [] W->
   CallsIn AY (n-1) P gf (#[.func (.yield l) #[] #[]]++ lb) W fun e W'=>(∃v,e=AN v)/\Bi xs W')
  (hKt:∀{A B C:V},Kp A B->Kp B C->Kp A C) (hKb:∀(W:V) (l:Nat) (o o':Obj),w.heap.size<=l->W.heap[l]?=I o->o.isCells=false->Kp W (W.putObj l o'))
  (hSt:∀A B,St A B->KeepsOthers A B) (hps:∀x,(Rq x).size=ps.size)
  (hI:OwnFrom w C0) (hIs:∀s A B,C0 s A->St A B->C0 s B) (h0:C0 [] w) (a₁:α->Act)
  (fQ:∀(l:Nat) (x:α) (W:V) (K:Act->V->Prop),K (a₁ x) W->
   assign.wpIn (AY.inRound l) (n-1-1) P (Exit.then K (fun _ _ _=>False)) {tmps:=(ps.zip (Rq x)).foldl (fun t (p,v)=>t.setIfInBounds p v) a.tmps,defers:=[]} W)
  (fR:∀(l:Nat) (pre:List α) (x:α) (W:V),C0 pre W->OK x->body.wpIn (AY.inRound l) (n-1-1) P (ni w Kp C0 (pre++ [x]) W) (a₁ x) W)
  (hdone:∀(D:Nat) (W:V),w.heap.size<=D->C0 xs W->W.heap[D]?=I (.deferred (I []))->Bn .normal {a with defers:={target:= .collected D,args:=#[]}::a.defers} W):
  (Code.rangeFunc g ps assign body).wpIn AY n P Bn a w:=by
 refine wpIn_rangeFunc fun fn hfn=>?_
 rw[hro];obtain⟨rec,Mk⟩:∃rec:LoopState->Loop,rec=fun st=>{state:=st,pending:=Z,fn,tmps:=a.tmps,params:=ps,assign,body,defers:=w.heap.size}:=⟨_,Q⟩
 obtain⟨W1,hW1⟩:=Az (Ao (Ao w (.deferred (I []))) (.loop (rec .ready)));have fS:(Ao w (.deferred (I []))).heap.size=w.heap.size+1:=AO
 have fT:W1.heap[w.heap.size+1]?=I (.loop (rec .ready)):=by
  have:=World.alloc_heap_new (Ao w (.deferred (I []))) (.loop (rec .ready))
  rwa [fS,hW1]at this
 have fU:W1.heap[w.heap.size]?=I (.deferred (I [])):=by
  rw[<-hW1];exact(TM _ _ _ AO).trans (World.alloc_heap_new w _)
 have inv1:C0 [] W1:=by rw[<-hW1];exact hI.alloc _ (hI.alloc _ h0)
 have fV:Ag w w W1:=by rw[<-hW1];exact((Ae _ w).alloc (Bg _) _).alloc AO _
 refine⟨↑w+1,[{target:= .collected w,args:=#[]}],W1,{target:= .fn (.func gf) lb,args:=#[.func (.yield (w.heap.size+1)) #[] #[]]},W1,gf,
  #[.func (.yield (w.heap.size+1)) #[] #[]]++ lb,W1,?_,?_,?_,?_,fun _=>h1,?_⟩
 ·rw[<-hW1,Mk];exact run_enterLoop_outer _ _ _ _ _
 ·simp only[resolve,hg]
  simp[go_sem]
 ·intro f' hf';simp[Target.leads]at hf';subst hf';exact hFg
 ·simp[invoke,go_sem,eg]
 ·refine(hseq (w.heap.size+1) (fun pre W=>C0 pre W/\W.heap[w.heap.size+1]?=I (.loop (rec .ready))/\W.heap[w.heap.size]?=I (.deferred (I []))) W1 fV ?_ (fun _ _ h=>h.1) ?_ ⟨inv1,fT,fU⟩).mono ?_
  ·rintro s A B ⟨hi,hl,hd⟩ hs
   exact⟨hIs s A B hi hs,(hSt A B hs).same _ _ hl Q,(hSt A B hs).same _ _ hd Q⟩
  ·rintro pre x W ⟨hi,hl,hd⟩ BI
   have hlt:=(Bm.1 hl).1;have hy:=run_yield (P:=P) (args:=Rq x) hl (qrf Mk (hps x));rw[Mk]at hy;refine⟨fn,_,assign,body,hy,roundIn_of_wpIn hfn (fQ _ x W _ ⟨_,run_beginRound hl (by rw[Mk]),?_⟩)⟩;have lo2:(W.putObj (w.heap.size+1) (.loop {rec .ready with state:= .busy})).heap[w.heap.size+1]?=I (.loop {rec .ready with state:= .busy}):=World.putObj_heap_same hlt;have de2:(W.putObj (w.heap.size+1) (.loop {rec .ready with state:= .busy})).heap[w.heap.size]?=I (.deferred (I [])):=(World.putObj_heap_other J).trans hd;have kp2:Kp W (W.putObj (w.heap.size+1) (.loop {rec .ready with state:= .busy})):=hKb _ _ _ _ J hl Q;refine wpIn_mono (fR _ pre x _ (hI.putObj _ hi J hl Q) BI) ?_;intro e a3 W3 hp;cases e with
   | normal=>
    obtain⟨hk3,fW,hi3⟩:=hp;have Rs:=hk3.same _ _ J lo2 Q;have he:=run_endRound (P:=P) Z Rs;have hr:({{rec .ready with state:= .busy}with state:= .ready,pending:=Z}:Loop)=rec .ready:=by rw[Mk]
    refine⟨Av true,W3.putObj (w.heap.size+1) (.loop (rec .ready)),?_,Q,⟨hI.putObj _ hi3 J Rs Q,World.putObj_heap_same (Bm.1 Rs).1,(World.putObj_heap_other J).trans (hk3.same _ _ (Bg _) de2 Q)⟩,hKt (hKt kp2 fW) (hKb _ _ _ _ J Rs Q)⟩;rw[<-hr];exact he
   | ret=>exact hp.elim
   | exit id=>exact hp.elim
   | goto t=>exact hp.elim
   | panic ch=>exact hp.elim
   | outgrown=>exact hp.elim
  ·rintro e W2⟨⟨v,rfl⟩,hi,hl,hd⟩
   refine⟨Z,_,by have:=run_endLoop (P:=P) hl (by rw[Mk];simp);rw[Mk]at this;exact this,hdone _ _ (Bg _) (hI.putObj _ hi J hl Q) ((World.putObj_heap_other J).trans hd)⟩
theorem nY{P:Program}(w:V)(g o:Nat)(t ty:TypeId)(old cells new:Array An)(hg:w.heap[g]?=I (N old t (0,0)))(hi:(P.info? ty).map (·.size)=I cells.size)
  (ho:o+cells.size<=old.size) (h1:cells.all (·.oneCell')=true) (hn:(old.toList.take o++ cells.toList++ old.toList.drop (o+cells.size)).toArray=new):
  (storeVar ty ⟨g,o,Z⟩ (Ba cells)).run P w=.ok () (w.setRow g new):=by
 have:=run_storeCells_at (P:=P) g o t cells.toList 0 old w hg qsm (fun v hv=>(Array.all_eq_true_iff_forall_mem.1 h1) v (by grind));cases hq:P.info? ty with
 | none=>grind
 | some i=>
  have hs:cells.size=i.size:=by grind
  simp only[Nat.add_zero,Array.length_toList,hn]at this;simp[storeVar,sizeOf,typeInfo,hq,Value.cells,hs,this]
def VJ{P:Program}{ops:Array Oper}{rest:List Oper}{o:Oper}{a:Act}{w:V}{Bn:Exit->Act->V->Prop}(hgd:o.guard=Z)(ty:TypeId)(x y:Operand)(ho:o.op=.store ty x y)
  (g off:Nat) (cells:Array An) (hx:a.eval x=AI (I ⟨g,off,Z⟩)) (hy:a.eval y=Ba cells)
  (t:TypeId) (old new:Array An) (hg:w.heap[g]?=I (N old t (0,0))) (hi:(P.info? ty).map (·.size)=I cells.size)
  (hold:off+cells.size<=old.size) (h1:cells.all (·.oneCell')=true) (hn:(old.toList.take off++ cells.toList++ old.toList.drop (off+cells.size)).toArray=new)
  (h:wpList P ops Bn rest (a.put o.dst undef) (w.setRow g new)):wpList P ops Bn (o::rest) a w:=
 wpList_plain hgd fun _ hK=>by
  unfold Oper.wp execOp;simp only[ho,hx,hy,Instr.storeAt,Instr.sureAddr,Sem.run_bind,Sem.run_pure,Result.andThen_ok,nY w g off t ty old cells new hg hi hold h1 hn];exact hK _ _ h
section
variable{L:List Int}{k n s:Nat}
def swp(l:List Int)(i j:Nat):List Int:=(l.set i (l.getD j 0)).set j (l.getD i 0)
def ot(l:List Int)(i j:Nat):(swp l i j).length=Y l:=by simp[swp]
theorem AaL{l:List Int}{i j:Nat}(hi:i<Y l)(hj:j<Y l):(swp l i j).Perm l:=by
 grind [swp]
def RD:Nat->Nat->List Int->Nat × List Int
 | 0,s,l=>(s,l)
 | 1,s,l=>(s,l)
 | k+2,s,l=>RD (k+1) (Bk s) (swp l (k+1) (C9 s%(k+2)))
theorem ou:∀(k s:Nat) (l:List Int),k<=Y l->(RD k s l).2.Perm l
 | 0,_,_,_=>List.Perm.refl _
 | 1,_,_,_=>List.Perm.refl _
 | k+2,s,l,h=>by
  rw[RD];have hm:C9 s%(k+2)<k+2:=IB _ J;exact(ou (k+1) _ _ (by rw[ot];omega)).trans (AaL J J)
def FA(n:Nat):List Int:=(List.range n).map fun i:Nat=>(i:Int)
theorem Mu(n:Nat):(FA n).length=n:=by simp[FA]
theorem ox(n:Nat):FA (n+1)=FA n++ [(n:Int)]:=by simp[FA,List.range_succ]
def oz(h:k<n):(FA n)[k]?=I (k:Int):=by simp[FA,h]
def Lw(s n:Nat):List Int:=(RD n s (FA n)).2
theorem az(s n:Nat):(Lw s n).Perm (FA n):=ou n s _ (by grind [FA])
theorem gu(s n:Nat):(Lw s n).length=n:=by rw[(az s n).length_eq,Mu]
def Qq(x:Int)(l:List Int):List Int:=l.takeWhile (fun y=>decide (y<x))++ x::l.dropWhile (fun y=>decide (y<x))
def NG:List Int->List Int:=fun l=>l.foldl (fun acc x=>Qq x acc) []
theorem oC(l:List Int)(x:Int):NG (l++ [x])=Qq x (NG l):=by grind [NG,Qq]
theorem oD(x:Int)(l:List Int):(Qq x l).Perm (l++ [x]):=by
 unfold Qq;have h:(l.takeWhile (fun y=>decide (y<x))++ x::l.dropWhile (fun y=>decide (y<x))).Perm (x::(l.takeWhile (fun y=>decide (y<x))++ l.dropWhile (fun y=>decide (y<x)))):=List.perm_middle;rw[List.takeWhile_append_dropWhile]at h
 grind
theorem aA(l:List Int):(NG l).Perm l:=by
 suffices h:∀(r:List Int),(NG r.reverse).Perm r.reverse by simpa using h l.reverse
 intro r
 induction r with
 | nil=>grind [NG]
 | cons x r ih=>
  grind [NG,oC,oD]
theorem oF(x:Int):∀(l:List Int),l.Pairwise (fun a b=>a<=b)->(Qq x l).Pairwise (fun a b=>a<=b)
 | [],_=>by simp[Qq]
 | y::l,h=>by
  obtain⟨h1,h2⟩:=UG.1 h;by_cases hy:y<x
  ·have e:Qq x (y::l)=y::Qq x l:=by simp[Qq,hy]
   rw[e,UG];refine⟨fun z hz=>?_,oF x l h2⟩;rcases OV.1 ((oD x l).mem_iff.1 hz)with hz | hz
   ·exact h1 z hz
   ·have:z=x:=qsu hz
    omega
  ·have e:Qq x (y::l)=x::y::l:=by simp[Qq,hy]
   rw[e,UG];refine⟨fun z hz=>?_,h⟩;rcases List.mem_cons.1 hz with rfl | hz
   ·omega
   ·have:=h1 z hz;omega
theorem oG(l:List Int):(NG l).Pairwise (fun a b=>a<=b):=by
 suffices h:∀(r:List Int),(NG r.reverse).Pairwise (fun a b=>a<=b)by simpa using h l.reverse
 intro r
 induction r with
 | nil=>simp[NG]
 | cons x r ih=>grind [NG,oC,oF]
theorem AaM(l:List Int):l.mergeSort (fun x y=>decide (x<=y))=NG l:=by
 refine List.Perm.eq_of_pairwise (le:=fun a b:Int=>a<=b) (fun a b _ _ h1 h2=>by omega) ?_ (oG l) ((List.mergeSort_perm l _).trans (aA l).symm);have:=List.pairwise_mergeSort (le:=fun x y:Int=>decide (x<=y)) (fun a b c h1 h2=>by grind) (fun a b=>by simp;omega) l
 grind
def Jt(s n k:Nat):List Int:=NG ((Lw s n).take k)
def Mv(L:List Int)(n:Nat):List Int:=(FA n).filter fun i=>!L.contains i
def X5(h:k<=n):(Jt s n k).length=k:=by
 unfold Jt;rw[(aA _).length_eq,DC,gu];omega
theorem AaN(n:Nat):(FA n).Nodup:=by
 unfold FA;refine List.Pairwise.map _ (fun a b h=>?_) (List.nodup_range (n:=n));omega
theorem AaO(s n k:Nat):(Jt s n k).Nodup:=by
 grind [Jt,aA,az,AaN]
theorem AaP(s n k:Nat):(Jt s n k).Pairwise (fun a b=>a<b):=by
 have h1:=oG ((Lw s n).take k);have h2:=AaO s n k;have h3:=List.Pairwise.and h1 h2
 grind [Jt,NG,Lw]
theorem oH{x:Int}(h:x∈Jt s n k):0<=x/\x<n:=by
 have h1:=Ui ((aA _).mem_iff.1 h);have h2:=(az s n).mem_iff.1 h1
 grind [Jt,Lw,FA]
theorem AaQ(h:(n:Int)∈L):Mv L (n+1)=Mv L n:=by
 grind [Mv,ox]
theorem AaR(h:¬(n:Int)∈L):Mv L (n+1)=Mv L n++ [(n:Int)]:=by
 unfold Mv;grind [FA,ox]
def Fp(L:List Int)(i:Int):Nat:=(L.takeWhile fun x=>decide (x<i)).length
theorem oI:∀(L:List Int) (i:Int),L.Pairwise (fun a b=>a<b)->(i∈L/\L[Fp L i]?=I i/\Fp L (i+1)=Fp L i+1)\/(¬i∈L/\L[Fp L i]?≠I i/\Fp L (i+1)=Fp L i)
 | [],i,_=>by right;simp[Fp]
 | x::L,i,h=>by
  obtain⟨h1,h2⟩:=UG.1 h;rcases Int.lt_trichotomy x i with hx | hx | hx
  ·have e1:Fp (x::L) i=Fp L i+1:=by simp[Fp,hx]
   have e2:Fp (x::L) (i+1)=Fp L (i+1)+1:=by simp[Fp,show x<i+1 by omega]
   have e3:i∈x::L↔i∈L:=by simp;omega
   rw[e1,e2,e3,List.getElem?_cons_succ];rcases oI L i h2 with⟨a,b,c⟩ | ⟨a,b,c⟩
   ·exact .inl ⟨a,b,J⟩
   ·exact .inr ⟨a,b,J⟩
  ·subst hx
   left
   have e1:Fp (x::L) x=0:=by simp[Fp]
   have e2:Fp (x::L) (x+1)=1:=by
    have:L.takeWhile (fun y=>decide (y<x+1))=[]:=by
     cases L with
     | nil=>rfl
     | cons y L=>rw[List.takeWhile_cons,Ds (show¬y<x+1 by have:=h1 y AO;omega)];rfl
    simp[Fp,show x<x+1 by omega,this]
   grind
  ·right
   have e1:Fp (x::L) i=0:=by unfold Fp;rw[List.takeWhile_cons,Ds (show¬x<i by omega)];rfl
   have e2:Fp (x::L) (i+1)=0:=by unfold Fp;rw[List.takeWhile_cons,Ds (show¬x<i+1 by omega)];rfl
   grind
def AaS(L:List Int)(i:Int):Fp L i<=Y L:=List.Sublist.length_le (List.takeWhile_sublist _)
theorem AaT(h:∀x∈L,0<=x):Fp L 0=0:=by
 cases L with
 | nil=>rfl
 | cons x L=>simp_all [Fp]
end
section
variable{b:List Bool}{i p:Nat}
structure Ca where
 pass:Nat
 fr:Nat
 BG:Nat
deriving DecidableEq
instance:CoeOut Ca (Array An):=⟨fun z=>#[U O z.pass,U O z.fr,U O z.BG]⟩
structure Cas where
 P:Nat
 K:Nat
 sd:Nat
 n:Nat
instance:CoeOut Cas (Array An):=⟨fun z=>#[U O z.P,U O z.K,U AA z.sd]⟩
def Cas.ord(c:Cas)(p:Nat):List Int:=if p=0 then FA c.n else Lw ((c.sd+p)%18446744073709551616) c.n
def Cas.size(c:Cas)(p:Nat):Nat:=min (c.K*2^p) 512
def UH(n size:Nat):Nat:=(n+size-1) / size
def UI(p n size i:Nat):Ca:=⟨p,i*size,min (i*size+size) n⟩
def RE(p n size k:Nat):List Ca:=(List.range k).map (UI p n size)
def Cas.blk(c:Cas)(p:Nat):List Ca:=RE p c.n (c.size p) (UH c.n (c.size p))
structure Cas.Ok(c:Cas):Prop where
 P:1<=c.P/\c.P<=6
 K:1<=c.K/\c.K<=512
 n:c.n<=512
def Cas.val(c:Cas)(q:Ca):Prop:=q.pass<c.P/\q.fr<q.BG/\q.BG<=c.n
theorem Cas.YA(c:Cas)(p:Nat):(c.ord p).length=c.n:=by
 grind [Cas.ord,Mu,gu]
theorem Cas.AaU(c:Cas)(p:Nat):(c.ord p).Perm (FA c.n):=by
 grind [Cas.ord,FA,az]
theorem Cas.oJ{c:Cas}{x:Int}(h:x∈c.ord p):∃i:Nat,x=(i:Int)/\i<c.n:=by
 have:=(c.AaU p).mem_iff.1 h
 grind [Cas.ord,FA]
def Cas.size_pos{c:Cas}(h:c.Ok)(p:Nat):0<c.size p:=by
 unfold Cas.size;have:=I9 h.K.1 (Nat.two_pow_pos p);omega
def Cas.size_le(c:Cas)(p:Nat):c.size p<=512:=Nat.min_le_right _ _
def aB{n size:Nat}(hs:0<size):i<UH n size↔i*size<n:=by
 unfold UH;rw[Nat.lt_div_iff_mul_lt hs];omega
def oM(p n size k:Nat):(RE p n size k).length=k:=by simp[RE]
def AaV(p n size k:Nat):RE p n size (k+1)=RE p n size k++ [UI p n size k]:=by simp[RE,List.range_succ]
theorem Cas.aD{c:Cas}(h:i<(c.blk p).length):(c.blk p)[i]?=I (UI p c.n (c.size p) i):=by
 unfold Cas.blk at h ⊢
 grind [RE,Cas.size,UH,UI]
def Cas.oN(c:Cas)(p:Nat):(c.blk p).length=UH c.n (c.size p):=oM _ _ _ _
theorem Cas.aE{c:Cas}(h:c.Ok)(hp:p<c.P)(hi:i<(c.blk p).length):c.val (UI p c.n (c.size p) i):=by
 have hs:=c.size_pos h p;rw[c.oN,aB hs]at hi
 grind [Cas.val,UI,Cas.size]
def Cas.oO{c:Cas}(h:c.Ok)(p:Nat):(c.blk p).length<=512:=by
 rw[c.oN];have hs:=c.size_pos h p;rcases D4 512 (UH c.n (c.size p))with h1 | h1
 ·have:=(aB (n:=c.n) hs).1 h1
  have:=h.n;omega
 omega
structure BP where
 b:List Bool
 told:List (Ca × Bool)
 flips:Nat
 failed:Bool
 pass:Nat
 block:Nat
 srch:Bool
 odd:Ca
 ans:Bool
 next:Ca
 opn:Bool
instance:CoeOut BP (Array An):=⟨fun z=>#[U O z.next.pass,U O z.next.fr,U O z.next.BG]⟩
def q0:Ca:=⟨0,0,0⟩
def par(b:List Bool)(l:List Int):Bool:=l.foldl (fun o i=>o != b.getD i.toNat false) false
theorem AaW(b:List Bool)(l:List Int)(i:Int):par b (l++ [i])=(par b l != b.getD i.toNat false):=by grind [par]
def BP.look(m:BP)(q:Ca):Option Bool:=(m.told.find? fun x=>decide (x.1=q)).map (·.2)
def Cas.part(c:Cas)(q:Ca):List Int:=((c.ord q.pass).drop q.fr).take (q.BG-q.fr)
def Cas.VK(c:Cas)(b:List Bool)(q:Ca)(a:Bool):Bool:=par b (c.part q) != a
inductive Fq where
 | ask
 | search
 | Gf
 | stop
deriving DecidableEq
def KC(m:BP):List Ca->Fq × BP
 | []=>(.search,m)
 | q::r=>if(m.look q).isSome then KC {m with block:=m.block+1} r else(.stop,{m with next:=q,opn:=true})
def Gg(f:Ca->Bool):List Ca->Option Ca->Option Ca
 | [],a=>a
 | q::r,a=>if f q=false\/a.any (fun b=>decide (b.BG-b.fr<=q.BG-q.fr))=true then Gg f r a else if q.BG-q.fr=1 then I q else Gg f r (I q)
def Cas.upto(c:Cas)(p:Nat):List Ca:=(List.range p).flatMap c.blk
def Cas.YB(c:Cas)(m:BP)(q:Ca):Bool:=c.VK m.b q ((m.look q).getD false)
def Cas.NH(c:Cas)(m:BP):Fq × BP:=if m.pass=c.P then(.stop,m)else KC m ((c.blk m.pass).drop m.block)
def Cas.NI(c:Cas)(m:BP):Fq × BP:=
 match Gg (c.YB m) (c.upto (m.pass+1)) Z with
 | none=>(.ask,{m with pass:=m.pass+1,block:=0})
 | some q=>if m.flips=Y m.b then(.stop,{m with failed:=true})else(.Gf,{m with odd:=q,ans:=(m.look q).getD false,srch:=true})
def BP.bit(c:Cas)(m:BP):Nat:=((c.ord m.odd.pass).getD m.odd.fr 0).toNat
def BP.first(m:BP):Ca:=⟨m.odd.pass,m.odd.fr,m.odd.fr+(m.odd.BG-m.odd.fr) / 2⟩
def Cas.NJ(c:Cas)(m:BP):Fq × BP:=
 if m.odd.BG-m.odd.fr=1 then(.search,{m with b:=m.b.set (m.bit c) (!m.b.getD (m.bit c) false),flips:=m.flips+1,srch:=false})
 else match m.look m.first with
  | none=>(.stop,{m with next:=m.first,opn:=true})
  | some a=>if c.VK m.b m.first a then(.Gf,{m with odd:=m.first,ans:=a})else(.Gf,{m with odd:=⟨m.odd.pass,m.first.BG,m.odd.BG⟩,ans:=m.ans != a})
def Cas.step(c:Cas):Fq->BP->Fq × BP
 | .ask,m=>c.NH m
 | .search,m=>c.NI m
 | .Gf,m=>c.NJ m
 | .stop,m=>(.stop,m)
def Cas.run(c:Cas):Nat->Fq->BP->BP
 | 0,_,m=>m
 | k+1,t,m=>if t=.stop then m else c.run k (c.step t m).1 (c.step t m).2
structure BP.Ok(c:Cas)(m:BP):Prop where
 len:Y m.b=c.n
 pass:m.pass<=c.P
 blk:m.block<=(c.blk m.pass).length
 fl:m.flips<=c.n
 odd:m.srch=true->c.val m.odd/\m.flips<c.n/\m.pass<c.P
 told:∀x∈m.told,c.val x.1
 nod:(m.told.map (·.1)).Nodup
def BP.AaX(c:Cas)(m:BP):Prop:=m.opn=true->c.val m.next/\m.look m.next=Z
def Cas.at(c:Cas)(t:Fq)(m:BP):Prop:=m.Ok c/\(match t with
 | .ask=>m.srch=false/\m.opn=false
 | .search=>m.srch=false/\m.opn=false/\m.pass<c.P
 | .Gf=>m.srch=true/\m.opn=false
 | .stop=>m.AaX c)
def Cas.mu(c:Cas):Fq->BP->Nat
 | .ask,m=>(c.P-m.pass)*3+(c.n-m.flips)*(c.n+4)+2
 | .search,m=>(c.P-m.pass)*3+(c.n-m.flips)*(c.n+4)+1
 | .Gf,m=>(c.P-m.pass)*3+(c.n-m.flips-1)*(c.n+4)+2+(m.odd.BG-m.odd.fr)
 | .stop,_=>0
theorem gw{m:BP}{q:Ca}:m.look q=Z↔q∉m.told.map (·.1):=by
 unfold BP.look;rw[Option.map_eq_none_iff,List.find?_eq_none]
 grind
theorem AaY{m:BP}{q:Ca}{a:Bool}(h:m.look q=I a):(q,a)∈m.told:=by
 unfold BP.look at h;obtain⟨x,hx,rfl⟩:=Option.map_eq_some_iff.1 h
 grind
theorem oP{c:Cas}(hc:c.Ok):∀(l:List Ca) (m:BP),c.at .search m->l=(c.blk m.pass).drop m.block->c.at (KC m l).1 (KC m l).2/\c.mu (KC m l).1 (KC m l).2<c.mu .ask m
 | [],m,h,hl=>⟨h,by simp[KC,Cas.mu]⟩
 | q::r,m,h,hl=>by
  have hi:m.block<(c.blk m.pass).length:=by
   rcases D4 m.block (c.blk m.pass).length with h1 | h1
   ·exact h1
   ·rw[X6 h1]at hl;cases hl
  rw[PI hi]at hl;obtain⟨rfl,hr⟩:=List.cons.inj hl;unfold KC;by_cases hk:(m.look (c.blk m.pass)[m.block]).isSome=true
  ·rw[Bd hk]
   have h2:c.at .search {m with block:=m.block+1}:=⟨⟨h.1.len,h.1.pass,hi,h.1.fl,h.1.odd,h.1.told,h.1.nod⟩,h.2⟩
   exact oP hc r _ h2 hr
  ·rw[AU hk]
   have hq:=c.aD hi;rw[CH hi]at hq;have hv:=c.aE hc h.2.2.2 hi;refine⟨⟨⟨h.1.len,h.1.pass,h.1.blk,h.1.fl,h.1.odd,h.1.told,h.1.nod⟩,fun _=>⟨?_,?_⟩⟩,by simp[Cas.mu]⟩
   ·have:=Option.some.inj hq
    simp only[this];exact hv
   ·have:m.look (c.blk m.pass)[m.block]=Z:=by
     cases h5:m.look (c.blk m.pass)[m.block]with
     | none=>rfl
     | some a=>rw[h5]at hk;simp at hk
    exact this
theorem aF{f:Ca->Bool}:∀(l:List Ca) (a:Option Ca) (q:Ca),Gg f l a=I q->q∈l\/a=I q
 | [],a,q,h=> .inr h
 | x::l,a,q,h=>by
  unfold Gg at h;split at h
  ·rcases aF l a q h with h | h
   ·exact .inl (List.mem_cons_of_mem _ h)
   ·exact .inr h
  ·split at h
   ·grind
   ·rcases aF l _ q h with h | h
    all_goals grind
def Cas.oT{c:Cas}(hc:c.Ok)(hp:p<=c.P){q:Ca}(h:q∈c.upto p):c.val q:=by
 unfold Cas.upto at h;obtain⟨x,hx,hq⟩:=List.mem_flatMap.1 h;obtain⟨i,hi⟩:=List.getElem?_of_mem hq;have hl:=(EF.1 hi).1;rw[c.aD hl]at hi;obtain rfl:=Option.some.inj hi;exact c.aE hc (Ck (List.mem_range.1 hx) hp) hl
theorem Cas.aH{c:Cas}(hc:c.Ok):∀(t:Fq) (m:BP),t≠ .stop->c.at t m->c.at (c.step t m).1 (c.step t m).2/\c.mu (c.step t m).1 (c.step t m).2<c.mu t m
 | .stop,m,ht,_=>absurd Q ht
 | .ask,m,_,h=>by
  simp only[Cas.step,Cas.NH];by_cases hp:m.pass=c.P
  ·rw[Bd hp]
   exact⟨⟨h.1,fun ho=>by rw[h.2.2]at ho;cases ho⟩,by simp[Cas.mu]⟩
  ·rw[AU hp]
   exact oP hc _ m ⟨h.1,h.2.1,h.2.2,Nat.lt_of_le_of_ne h.1.pass hp⟩ Q
 | .search,m,_,h=>by
  simp only[Cas.step,Cas.NI];cases hb:Gg (c.YB m) (c.upto (m.pass+1)) Z with
  | none=>
   have hp:=h.2.2.2;refine⟨⟨⟨h.1.len,hp,BM _,h.1.fl,fun hs=>?_,h.1.told,h.1.nod⟩,h.2.1,h.2.2.1⟩,?_⟩
   ·rw[show m.srch=false from h.2.1]at hs;cases hs
   ·simp only[Cas.mu]
    omega
  | some q=>
   have hv:c.val q:=by
    rcases aF _ _ _ hb with h1 | h1
    ·exact c.oT hc (by have:=h.2.2.2;omega) h1
    grind
   by_cases hf:m.flips=Y m.b
   ·simp only[if_pos hf]
    exact⟨⟨⟨h.1.len,h.1.pass,h.1.blk,h.1.fl,h.1.odd,h.1.told,h.1.nod⟩,fun ho=>by rw[show m.opn=false from h.2.2.1]at ho;cases ho⟩,by simp[Cas.mu]⟩
   ·simp only[if_neg hf]
    have Cw:m.flips<c.n:=by have:=h.1.len;have:=h.1.fl;omega
    refine⟨⟨⟨h.1.len,h.1.pass,h.1.blk,h.1.fl,fun _=>⟨hv,Cw,h.2.2.2⟩,h.1.told,h.1.nod⟩,Q,h.2.2.1⟩,?_⟩;simp only[Cas.mu]
    have e:(c.n-m.flips)*(c.n+4)=(c.n-m.flips-1)*(c.n+4)+(c.n+4):=by
     rw[show c.n-m.flips=(c.n-m.flips-1)+1 by omega,Ol];simp
    have:=hv.2.2;omega
 | .Gf,m,_,h=>by
  obtain⟨hv,hf,hp⟩:=h.1.odd h.2.1;simp only[Cas.step,Cas.NJ];by_cases h1:m.odd.BG-m.odd.fr=1
  ·simp only[if_pos h1]
   refine⟨⟨⟨by simp[h.1.len],h.1.pass,h.1.blk,hf,fun hs=>(by cases hs),h.1.told,h.1.nod⟩,rfl,h.2.2,hp⟩,?_⟩
   grind [Cas.mu,BP.bit,Cas.at,Cas.val]
  ·simp only[if_neg h1]
   have hl:=hv.2.1;have hlt:=hv.2.2;have hd:0<(m.odd.BG-m.odd.fr) / 2/\(m.odd.BG-m.odd.fr) / 2<m.odd.BG-m.odd.fr:=J;have hvf:c.val m.first:=⟨hv.1,by simp only[BP.first];omega,by simp only[BP.first];omega⟩
   cases hk:m.look m.first with
   | none=>exact⟨⟨⟨h.1.len,h.1.pass,h.1.blk,h.1.fl,h.1.odd,h.1.told,h.1.nod⟩,fun _=>⟨hvf,hk⟩⟩,by simp only[Cas.mu];omega⟩
   | some a=>
    simp only;split
    ·refine⟨⟨⟨h.1.len,h.1.pass,h.1.blk,h.1.fl,fun _=>⟨hvf,hf,hp⟩,h.1.told,h.1.nod⟩,h.2⟩,?_⟩
     simp only[Cas.mu,BP.first];omega
    ·refine⟨⟨⟨h.1.len,h.1.pass,h.1.blk,h.1.fl,fun _=>⟨⟨hv.1,by simp only[BP.first];omega,hv.2.2⟩,hf,hp⟩,h.1.told,h.1.nod⟩,h.2⟩,?_⟩
     simp only[Cas.mu,BP.first];omega
def Cas.adv(c:Cas)(m:BP):BP:=
 let m0:={m with next:=q0,opn:=false}
 let t:=if m.srch then Fq.Gf else Fq.ask
 c.run (c.mu t m0) t m0
def X7(b:List Bool):BP:=⟨b,[],0,false,0,0,false,q0,false,q0,false⟩
def Cas.new(c:Cas)(b:List Bool):BP:=c.adv (X7 b)
def Cas.tell(c:Cas)(m:BP)(a:Bool):BP:=c.adv {m with told:=m.told++ [(m.next,a)]}
theorem oU:∀(l:List Ca) (m:BP),(KC m l).2.told=m.told
 | [],m=>rfl
 | q::r,m=>by
  unfold KC;split
  ·exact oU r _
  ·rfl
theorem Cas.AaZ(c:Cas)(t:Fq)(m:BP):(c.step t m).2.told=m.told:=by
 cases t with
 | stop=>rfl
 | ask=>
  simp only[Cas.step,Cas.NH];split
  ·rfl
  ·exact oU _ _
 | search=>
  simp only[Cas.step,Cas.NI]
  grind
 | Gf=>
  simp only[Cas.step,Cas.NJ]
  grind
theorem Cas.oV{c:Cas}(hc:c.Ok):∀(k:Nat) (t:Fq) (m:BP),c.mu t m<=k->c.at t m->c.at .stop (c.run k t m)/\(c.run k t m).told=m.told
 | 0,t,m,hk,h=>by
  cases t with
  | stop=>exact⟨h,Q⟩
  | ask=>simp[Cas.mu]at hk
  | search=>simp[Cas.mu]at hk
  | Gf=>simp[Cas.mu]at hk
 | k+1,t,m,hk,h=>by
  unfold Cas.run;by_cases ht:t=.stop
  ·grind
  ·rw[AU ht]
   obtain⟨h1,h2⟩:=c.aH hc t m ht h;obtain⟨h3,h4⟩:=Cas.oV hc k _ _ J h1;exact⟨h3,h4.trans (c.AaZ t m)⟩
theorem Cas.at_adv{c:Cas}{m:BP}(h:m.Ok c):c.at (if m.srch then Fq.Gf else Fq.ask) {m with next:=q0,opn:=false}:=by
 have ho:BP.Ok c {m with next:=q0,opn:=false}:=⟨h.len,h.pass,h.blk,h.fl,h.odd,h.told,h.nod⟩
 grind [Cas.at,q0]
theorem Cas.oW{c:Cas}(hc:c.Ok){m:BP}(h:m.Ok c):c.at .stop (c.adv m)/\(c.adv m).told=m.told:=by
 grind [Cas.at,Cas.adv,Cas.oV,Cas.at_adv]
def oX{c:Cas}(hb:Y b=c.n):(X7 b).Ok c:=
 ⟨hb,BM _,BM _,BM _,fun h=>(by cases h),fun x hx=>(by cases hx),List.nodup_nil⟩
theorem BP.Ok.more{c:Cas}{m:BP}(h:c.at .stop m)(ho:m.opn=true)(a:Bool):BP.Ok c {m with told:=m.told++ [(m.next,a)]}:=by
 obtain⟨hv,hk⟩:=h.2 ho;refine⟨h.1.len,h.1.pass,h.1.blk,h.1.fl,h.1.odd,fun x hx=>?_,?_⟩
 ·rcases OV.1 hx with hx | hx
  ·exact h.1.told x hx
  grind
 ·rw[SQ,List.nodup_append]
  refine⟨h.1.nod,AO,fun x hx y hy=>?_⟩
  grind [Cas.at,Cas.val,BP.look,gw]
def Cas.gx{c:Cas}(hc:c.Ok){m:BP}(h:c.at .stop m)(ho:m.opn=true)(a:Bool):c.at .stop (c.tell m a)/\(c.tell m a).told=m.told++ [(m.next,a)]:=
 Cas.oW hc (BP.Ok.more h ho a)
def Cas.oY{c:Cas}(hc:c.Ok)(hb:Y b=c.n):c.at .stop (c.new b)/\(c.new b).told=[]:=Cas.oW hc (oX hb)
def Cas.all(c:Cas):List Ca:=(List.range c.P).flatMap fun p=>(List.range (c.n+1)).flatMap fun i=>(List.range (c.n+1)).map fun j=>⟨p,i,j⟩
def Cas.Aa0{c:Cas}{q:Ca}(h:c.val q):q∈c.all:=by
 obtain⟨p,i,j⟩:=q;obtain⟨h1,h2,h3⟩:=h;unfold Cas.all;simp only at h1 h2 h3;exact List.mem_flatMap.2 ⟨p,List.mem_range.2 h1,List.mem_flatMap.2 ⟨i,List.mem_range.2 J,Ld.2 ⟨j,List.mem_range.2 J,rfl⟩⟩⟩
theorem oZ{α:Type}[DecidableEq α]:∀(l m:List α),l.Nodup->(∀x∈l,x∈m)->Y l<=Y m
 | [],m,_,_=>BM _
 | x::l,m,hn,hs=>by
  have hx:=hs x AO;have EU:=List.nodup_cons.1 hn;have:=oZ l (m.erase x) EU.2 (fun y hy=>(List.mem_erase_of_ne (fun e=>EU.1 (by grind))).2 (hs y (List.mem_cons_of_mem _ hy)))
  grind
def Cas.Aa1(c:Cas):Y c.all=c.P*((c.n+1)*(c.n+1)):=by
 have h1:∀p:Nat,((List.range (c.n+1)).flatMap fun i=>(List.range (c.n+1)).map fun j=>(⟨p,i,j⟩:Ca)).length=(c.n+1)*(c.n+1):=fun p=>by
  rw[List.length_flatMap];simp only[List.length_map,List.length_range];rw[List.map_const',List.sum_replicate_nat,List.length_range]
 unfold Cas.all;rw[List.length_flatMap];simp only[h1];rw[List.map_const',List.sum_replicate_nat,List.length_range]
def BP.Ok.few{c:Cas}{m:BP}(h:m.Ok c):Y m.told<=c.P*((c.n+1)*(c.n+1)):=by
 rw[<-c.Aa1,<-Dz (·.1)];refine oZ _ _ h.nod (fun q hq=>?_);obtain⟨x,hx,rfl⟩:=Ld.1 hq;exact Cas.Aa0 (h.told x hx)
end
section
variable{base i:Nat}{l:List Int}{v:An}{w:V}
def Aa5{s:Nat}(h:0<i):RD (i+1) s l=RD i (Bk s) (swp l i (C9 s%(i+1))):=by
 obtain⟨q,rfl⟩:∃q,i=q+1:=⟨i-1,J⟩
 rfl
theorem Aa6{j:Nat}{x y:Int}(hi:l[i]?=I x)(hj:l[j]?=I y):swp l i j=(l.set i y).set j x:=by
 grind [swp]
def Aa7(g c b s n:Nat)(L:List Int)(w:V)(base B:Nat)(hn:Y L=n)(UD:0<n)(hm:n<=65536)(own:Own w base 3 1 BD (R (I ⟨g,0,Z⟩) n c) L)
  (h0:E w ⟨b,0,Z⟩=I (U AA s)) (hf:Bo w ⟨b,0,Z⟩=false) (h1:E w ⟨b,1,Z⟩=I (Av true)) (hbg:b≠g) (hBb:B<=b) (hBg:B<=g):
  AL AE 217 #[R (I ⟨g,0,Z⟩) n c,.func (.func 84) #[AI (I ⟨b,0,Z⟩)] #[]] w fun e w'=>e=AN (Be #[])/\Own w' base 3 1 BD (R (I ⟨g,0,Z⟩) n c) (RD n s L).2/\Ag B w w':=by
 obtain⟨m,Na⟩:∃m,n=m+1:=⟨n-1,J⟩
 have Aa8:(n:Int)-1=(m:Int):=J;have Hn:=F hn;have Hnm:=F Na;clear hn Na;go_in;go_wp2_with fail;go_loopw [4] (fun iv wr=>∃(i s':Nat) (L':List Int),i+1<=n/\iv=U O i/\Aj (Y L'=n)/\Aj (RD (i+1) s' L'=RD n s L)/\Own wr base 3 1 BD (R (I ⟨g,0,Z⟩) n c) L'/\E wr ⟨b,0,Z⟩=I (U AA s')/\Bo wr ⟨b,0,Z⟩=false/\E wr ⟨b,1,Z⟩=I (Av true)/\Ag B w wr) (fun iv _=>(intOf iv).toNat);exact⟨m,s,L,by have:=Hnm.out;omega,Q,Hn,F (by rw[<-Hnm.out]),own,h0,hf,h1,Ae _ _⟩
 obtain⟨i,s',L',hi,rfl,hl,hinv,ow,z0,zf,z1,hb⟩:=hrel;obtain⟨w6,rfl⟩:=qgn wr;clear Aa8 own h0 hf h1;by_cases hi0:i=0
 ·subst hi0
  go_wp2;go_end0;exact⟨Q,qrb hinv.out ow,hb⟩
 ·have hi1:0<i:=J
  have g0:decide ((0:Int)<(i:Int))=true:=by simp;omega
  obtain⟨q,hq⟩:∃q,i=q+1:=⟨i-1,J⟩
  have OX:(i:Int)-1=(q:Int):=J;have cN:=ae b s' w6 z0 zf z1;have hstep:=hinv.out;rw[Aa5 hi1]at hstep;obtain⟨y,hy⟩:=Az (C9 s');have y64:y<2^64:=qrb hy (mE s');obtain⟨j,hj⟩:=Az (y%(i+1));have GD:j<i+1:=by rw[<-hj];exact IB _ J
  have jm:(y:Int)%((i:Int)+1)=(j:Int):=by rw[<-hj];simp
  have jt:(y:Int).tmod ((i:Int)+1)=(j:Int):=by rw[<-jm];exact aJ J
  rw[hy,hj]at hstep;rw[hy]at cN;obtain⟨xi,hxi⟩:∃x,L'[i]?=I x:=⟨_,CH (by rw[hl.out];omega)⟩
  obtain⟨xj,hxj⟩:∃x,L'[j]?=I x:=⟨_,CH (by rw[hl.out];omega)⟩
  have jn:(j:Int)<(n:Int):=J;have in_:(i:Int)<(n:Int):=J;have Aa9:=F hstep;have Hxi:=F hxi;have Hxj:=F hxj;have Hq:=F hq;clear hstep hy hj hxi hxj y64 hq;go_wp2_with fail;refine cN.mono ?_;rintro e w7⟨rfl,nd,Ig⟩;have bd:Ag (Ai w6 ⟨b,0,Z⟩ (U AA (Bk s'))) (Ai w6 ⟨b,0,Z⟩ (U AA (Bk s'))) w7:=by rw[Ig];exact⟨Q,Q,Q,Bg _,fun _ _=>rfl⟩
  have OY:=(ow.keep (Dt _ _ _ _) (.inr (fun e=>hbg (by simpa[Value.ownBlock]using e.symm)))).below bd;have y0:E w7 ⟨b,0,Z⟩=I (U AA (Bk s')):=by rw[Ig];exact World.cell?_setCell_same _ _ _ z0
  have yf:Bo w7 ⟨b,0,Z⟩=false:=by rw[Ig];exact(GX _ _ _ _).trans zf
  have y1:E w7 ⟨b,1,Z⟩=I (Av true):=by rw[Ig];exact(GY _ _ _ _ AO).trans z1
  have b7:=(hb.setCell (p:=⟨b,0,Z⟩) hBb _).trans (bd.mono (by have:=hb.size;have:=Ch _ _ z0;simp at this ⊢;omega));have ci:=Own.Eg (f:=Value.int .i64) OY hl Hxi;have cj:=Own.Eg (f:=Value.int .i64) OY hl Hxj;have fi:=Own.Dc (f:=Value.int .i64) OY hl i;have fj:=Own.Dc (f:=Value.int .i64) OY hl j
  have kill:∀(o:Nat) (x:Int),E (Ai w7 ⟨g,o,Z⟩ (U O x)) ⟨b,0,Z⟩=I (U AA (Bk s'))/\Bo (Ai w7 ⟨g,o,Z⟩ (U O x)) ⟨b,0,Z⟩=false/\E (Ai w7 ⟨g,o,Z⟩ (U O x)) ⟨b,1,Z⟩=I (Av true):=fun o x=>
   ⟨(GY _ _ _ _ (fun e=>hbg (by injection e with e;exact e.symm))).trans y0,(GX _ _ _ _).trans yf,(GY _ _ _ _ (fun e=>hbg (by injection e with e;exact e.symm))).trans y1⟩
  have VM:=Own.Ft (f:=Value.int .i64) (Own.Ft (f:=Value.int .i64) OY hl i xj) (by rw[LN];exact hl.out) j xi;rw[<-Aa6 Hxi Hxj]at VM;have hl8:(swp L' i j).length=n:=qrf ot hl;have r0:=(GY (Ai w7 ⟨g,i,Z⟩ (U O xj)) ⟨g,j,Z⟩ ⟨b,0,Z⟩ (U O xi) (fun e=>hbg (by injection e with e;exact e.symm))).trans (kill i xj).1;have r1:=(GY (Ai w7 ⟨g,i,Z⟩ (U O xj)) ⟨g,j,Z⟩ ⟨b,1,Z⟩ (U O xi) (fun e=>hbg (by injection e with e;exact e.symm))).trans (kill i xj).2.2;have rf:=(GX (Ai w7 ⟨g,i,Z⟩ (U O xj)) ⟨g,j,Z⟩ ⟨b,0,Z⟩ (U O xi)).trans (kill i xj).2.1;have b8:Ag B w (Ai (Ai w7 ⟨g,i,Z⟩ (U O xj)) ⟨g,j,Z⟩ (U O xi)):=(b7.setCell (p:=⟨g,i,Z⟩) hBg _).setCell (p:=⟨g,j,Z⟩) hBg _
  have fin:Aj (∃(i_1 s2:Nat) (L2:List Int),i_1+1<=n/\Value.int IntKind.i64 ↑q=Value.int IntKind.i64 ↑i_1/\Aj (Y L2=n)/\Aj (RD (i_1+1) s2 L2=RD n s L)/\
   Own (Ai (Ai w7 ⟨g,i,Z⟩ (U O xj)) ⟨g,j,Z⟩ (U O xi)) base 3 1 BD (R (I ⟨g,0,Z⟩) n c) L2/\
   E (Ai (Ai w7 ⟨g,i,Z⟩ (U O xj)) ⟨g,j,Z⟩ (U O xi)) ⟨b,0,Z⟩=I (U AA s2)/\Bo (Ai (Ai w7 ⟨g,i,Z⟩ (U O xj)) ⟨g,j,Z⟩ (U O xi)) ⟨b,0,Z⟩=false/\
   E (Ai (Ai w7 ⟨g,i,Z⟩ (U O xj)) ⟨g,j,Z⟩ (U O xi)) ⟨b,1,Z⟩=I (Av true)/\Ag B w (Ai (Ai w7 ⟨g,i,Z⟩ (U O xj)) ⟨g,j,Z⟩ (U O xi))):=
   F ⟨q,Bk s',swp L' i j,J,rfl,F hl8,F (qrb Hq.out Aa9),VM,r0,rf,r1,b8⟩
  clear VM hl8 r0 r1 rf b8 Ig bd z0 zf z1 cN hb ow y0 yf y1 kill;by_cases UK:j=i
  focus
   subst UK
   obtain rfl:xi=xj:=Option.some.inj (Hxi.out.symm.trans Hxj);have cs:E (Ai w7 ⟨g,j,Z⟩ (U O xi)) ⟨g,j,Z⟩=I (U O xi):=World.cell?_setCell_same _ _ _ ci
  rotate_left
  focus
   have Ajn:(j:Int)≠(i:Int):=J
  rotate_left
  all_goals
   go_wp2_with fail;go_region
   all_goals(
    go_wp2_with fail;obtain⟨i_1,s2,L2,f1,f2,f3,f4,f5,f6,f7,f8,f9⟩:=fin.out;exact⟨⟨i_1,s2,L2,f1,f2,f3,f4,f5,f6,f7,f8,f9.drew⟩,qio⟩)
def Aba(g c:Nat)(f:An)(w:V):AL AE 217 #[R (I ⟨g,0,Z⟩) 0 c,f] w fun e w'=>e=AN (Be #[])/\w=w':=by
 go_in;go_wp2_with fail;go_loopw [4] (fun iv wr=>iv=U O (-1)/\wr=w) (fun _ _=>0);exact⟨rfl,rfl⟩
 obtain⟨rfl,rfl⟩:=hrel;go_wp2;go_end0;exact⟨Q,Q⟩
def gy:(prog.info? 3).map (fun i=>(i.zero,i.size,i.bytes))=I (I (U O 0),1,8):=AG
def pi(b s n B:Nat)(w:V)(hn:n<=65536)(h0:E w ⟨b,0,Z⟩=I (U AA s))(hf:Bo w ⟨b,0,Z⟩=false)(h1:E w ⟨b,1,Z⟩=I (Av true))(hBb:B<=b):
  AL AE 178 #[AI (I ⟨b,0,Z⟩),U O n] w fun e w'=>∃g,e=AN (Be #[R (I ⟨g,0,Z⟩) n n,U O 0])/\Own w' w 3 1 BD (R (I ⟨g,0,Z⟩) n n) (Lw s n)/\Ag B w w':=by
 have cS:=ft b n w h1 ⟨J,J⟩;have hbl:=Ch w _ h0;simp only at hbl;go_in
 go_wp2_with(first
  | (go_at_call 166;refine mqv (cS) ?_)
  | (at_make;refine Nb underlying37 gy (fun n:Int=>Value.int .i64 n) 0 n ?_;intro w1 Dy hb1))
 have z0:=AK hb1 h0;have z1:=AK hb1 h1;have zf:=(hb1.frozen (Ch _ _ h0)).trans hf;have Cw:Aj (Dm (FA n) 0 0=List.replicate n 0):=F (by rw[Ug,Mu]);have Qd:B<=↑w:=J;go_loopw [19] (fun i wr=>∃k:Nat,k<=n/\i=U O k/\Own wr w 3 1 (fun x=>[Value.int .i64 x]) (R (I ⟨w,0,Z⟩) n n) (Dm (FA n) 0 k)/\Ag w w wr) (fun i _=>n-(intOf i).toNat);exact⟨0,BM _,rfl,qrf Cw.out Dy,hb1⟩
 clear z0 z1 zf Dy hb1;obtain⟨k,hk,rfl,ow,hb⟩:=hrel;rcases D4 k n with hlt | D8
 ·have hlen:(Dm (FA n) 0 k).length=n:=(Sv _ _ (by rw[Mu];omega)).trans (Mu _)
  have f0:=ow.Eg hlen (k:=k) (Ts 0 (qrf Mu hlt));have f1:=ow.Dc hlen k;have Fm:=ow.Ft hlen k (k:Int);rw[Tr 0 (oz hlt)]at Fm;clear hlen;go_wp2_with fail;exact⟨⟨k+1,J,qgm,Fm,hb.setCell (Bg _) _⟩,qio⟩
 ·obtain rfl:k=n:=J
  rw[Uh _ _ (by rw[Mu];omega)]at ow;have z0:=AK hb h0;have z1:=AK hb h1;have zf:=(hb.frozen (Ch _ _ h0)).trans hf;by_cases RG:k=0
  ·subst RG
   go_wp2_with(go_at_call 217;refine(Aba _ _ _ _).mono ?_;rintro e w7 ⟨rfl,rfl⟩);go_ret2;exact⟨_,Q,ow,hb.mono Qd⟩
  ·have cH:=Aa7 w k b s k (FA k) wr w B (Mu k) J hn ow z0 zf z1 J hBb Qd
   go_wp2_with(go_at_call 217;refine cH.mono ?_;rintro e w7 ⟨rfl,Mm,Cl⟩);go_ret2;exact⟨_,Q,Mm,(hb.mono Qd).trans Cl⟩
theorem Abb(h:Own w base 3 1 BD v l)(hv:v≠ R Z 0 0):∃g cap cur,v=R (I ⟨g,0,Z⟩) (Y l) cap/\base<=g/\w.heap[g]?=I (N cur 3 (0,0))/\Y l<=cap/\cap<=maxLen/\cur.size=cap*1/\cur.toList.take (Y l)=l.map encZ:=by
 have hm:l.flatMap BD=l.map encZ:=N9 (Value.int .i64) l;rcases h.2 with⟨h0,_⟩ | ⟨g,cap,cur,rfl,hb,hg,h1,h2,h3,h4⟩
 ·grind
 ·exact⟨g,cap,cur,Q,hb,hg,h1,h2,h3,by grind⟩
theorem RH{α:Type}{base' e z:Nat}{enc:α->List An}{l:List α}(h:Own w base e z enc v l)(hb:base'<=base):Own w base' e z enc v l:=by
 refine⟨h.1,?_⟩;rcases h.2 with hn | ⟨g,cap,cur,hv,hbg,rest⟩
 ·grind
 ·exact .inr ⟨g,cap,cur,hv,Br hb hbg,rest⟩
def pj{n:Nat}(hn:Y l=n)(h:w.ownsRow base 3 1 v n (l.map encZ)):Own w base 3 1 BD v l:=by
 subst hn;unfold Own;rw[show l.flatMap BD=l.map encZ from N9 (Value.int .i64) l];exact h
def Abc(b s n k B:Nat)(w:V)(hn:n<=65536)(hk:k<=n)(h0:E w ⟨b,0,Z⟩=I (U AA s))(hf:Bo w ⟨b,0,Z⟩=false)(h1:E w ⟨b,1,Z⟩=I (Av true))(hBb:B<=b):
  AL AE 133 #[AI (I ⟨b,0,Z⟩),U O n,U O k] w fun e w'=>∃v,e=AN (Be #[v,U O 0])/\Own w' w 3 1 BD v (Jt s n k)/\Ag B w w':=by
 have cS:=ft b n w h1 ⟨J,J⟩;have cP:=pi b s n B w hn h0 hf h1 hBb;have hbl:=Ch w _ h0;simp only at hbl;have PK:(k:Int)<=(n:Int):=J;have pl:=gu s n;go_in
 go_wp2_with(first
  | (go_at_call 166;refine mqv (cS) ?_)
  | (go_at_call 178;refine cP.mono ?_;rintro e w1 ⟨g,rfl,Dy,hb1⟩))
 have cC:=slices_Clone_int g 0 k n (Lw s n) w1 J J (fun j hj=>by
  rw[EE];have:=Own.Eg (f:=Value.int .i64) Dy pl (k:=j) (x:=(Lw s n).getD j 0) (by simp[List.getD,List.getElem?_eq_getElem hj]);exact this)
 have Abd:w.heap.size<=w1.heap.size:=by have:=(Cp Dy g Q);omega
 refine cC.mono ?_;rintro e w2⟨v2,rfl,JS,nn2,hb2⟩;have CU:=pj (l:=(Lw s n).take k) (by rw[DC];omega) JS;have tl:((Lw s n).take k).length=k:=by rw[DC];omega
 obtain⟨g2,cap,cur,rfl,hg2,hh,r1,r2,r3,r4⟩:=Abb CU nn2;have hH:Sort.Holds (Value.int .i64) w2 g2 0 ((Lw s n).take k).toArray:=holds_of_block_i hh r4;have cT:=Tryz.slices_Sort_int g2 0 cap ((Lw s n).take k) w2 hH (Bm.1 hh).1 J;have EW:=fun nn os=>ownsRow_sorted_i (n:=nn) (os:=os) (e:=3) (ss:=(Lw s n).take k) (ts:=Jt s n k) (by rw[X5 hk,tl]) hg2 hh r1 r2 r3
 rw[AaM]at cT;change AL AE 179 _ _ (fun e w'=>e=AN (Be #[])/\∃n_1 os,w'=Sort.grow (Sort.putRow (Value.int .i64) (Sort.ahead w2 n_1) g2 0 (Jt s n k).toArray) os)at cT;rw[tl]at cT EW ⊢;have YF:=hb2.size;clear cC JS nn2 hH r4 CU cS cP Dy;go_wp2_with(go_at_call 179;refine cT.mono ?_;rintro e w3 ⟨rfl,nn,os,rfl⟩);go_ret2;exact⟨_,Q,RH (pj (X5 hk) (EW nn os)) Abd,(hb1.trans (hb2.mono J)).grown (grownBy_sorted_i _) J (fun j hj=>by cases hj;omega)⟩
end
theorem Abe{P:Program}{W:V}{ops:Array Oper}{o:Oper}{a:Act}{K:Act->V->Prop}{Bn:Exit->Act->V->Prop}{AM:Prop}(hgd:o.guard=Z)(s x:Operand)(t:TypeId)
  (ho:o.op=.call {callee:= .builtin .append,args:=#[s,x],argTypes:=#[t,t]})
  (base:Nat) (e:TypeId) (i:TypeInfo) (z:An) (size bytes:Nat) (ht:P.underlying t=I (.slice e)) (hi:P.info? e=I i) (hz:i.zero=I z)
  (hsize:i.size=size) (hby:i.bytes=bytes) (hzs:z.cells.size=size) (hsz:0<size)
  {α:Type} {enc:α->List An} (v:An) (l:List α) (x0:α) (hs:a.eval s=v) (hown:Own W base e size enc v l)
  {g:Nat} (hx:a.eval x=R (I ⟨g,0,Z⟩) 1 1) (hnews:∀j u,(enc x0)[j]?=I u->E W ⟨g,j,Z⟩=I u) (hlen:(enc x0).length=size) (h1:∀u∈enc x0,u.oneCell'=true)
  (hbytes:(Y l+1)*bytes<=140737488355328) (I7:0<bytes) (hbase:base<=↑W)
  (h:∀v' w',Own w' base e size enc v' (l++ [x0])->W.grownBy w' v.ownBlock->At W v v'->K (a.put o.dst v') w'):if Region.wanted o (yielded ops a.tmps)=true then Oper.wp P o a W K Bn else AM:=by
 have h63:Y l+1<=maxLen:=by
  have:=Vt (Y l+1) I7;unfold maxLen;omega
 rw[Bd (by simp[Region.wanted,hgd])]
 obtain⟨v',w',hr,h2,h3,h4,h5⟩:=run_append_own_at (P:=P) W base t o.type e i z size bytes ht hi hz hsize hby hzs hsz v (Y l) (l.flatMap enc) hown ⟨g,0,Z⟩ 1 1 (enc x0) J (fun j u hu=>by
  have PH:(⟨g,0,Z⟩:AS).add j=⟨g,j,Z⟩:=by unfold Addr.add;grind
  grind) h1 h63 hbytes hbase
 unfold Oper.wp execOp;simp only[ho,resolve,invoke,builtin,Sem.run_bind,Sem.run_pure,Result.andThen_ok,List.map_toArray,List.map_cons,List.map_nil,hs,hx,hr];refine h v' w' (Own.snoc h2) h3 ?_
 grind [At,Own]
def UL{P:Program}{w:V}{ops:Array Oper}{o:Oper}{a:Act}{K:Act->V->Prop}{Bn:Exit->Act->V->Prop}{AM:Prop}{t e:TypeId}{z:An}{size bytes:Nat}(ht:P.underlying t=I (.slice e))(hf:(P.info? e).map (fun i=>(i.zero,i.size,i.bytes))=I (I z,size,bytes)){α:Type}{enc:α->List An}(l:List α)(x0:α){v:An}{base:Nat}(hown:Own w base e size enc v l){g:Nat}(hnews:∀j u,(enc x0)[j]?=I u->E w ⟨g,j,Z⟩=I u)(h1:∀u∈enc x0,u.oneCell'=true)
  (hbytes:(Y l+1)*bytes<=140737488355328) (hbase:base<=↑w) (h:∀v' w',Own w' base e size enc v' (l++ [x0])->w.grownBy w' v.ownBlock->At w v v'->K (a.put o.dst v') w') {s x:Operand}
  (hgd:o.guard=Z:=by exact rfl) (ho:o.op=.call {callee:= .builtin .append,args:=#[s,x],argTypes:=#[t,t]}:=by exact rfl) (hs:a.eval s=v:=by exact rfl) (hx:a.eval x=R (I ⟨g,0,Z⟩) 1 1:=by exact rfl) (hlen:(enc x0).length=size:=by exact rfl) (hzs:z.cells.size=size:=by exact rfl) (hsz:0<size:=by decide) (I7:0<bytes:=by decide):if Region.wanted o (yielded ops a.tmps)=true then Oper.wp P o a w K Bn else AM:=by
 obtain⟨i,hi,hz,h2,h3⟩:=IA hf;exact Abe hgd s x t ho base e i z size bytes ht hi hz h2 h3 hzs hsz v l x0 hs hown hx hnews hlen h1 hbytes I7 hbase h
theorem pJ{α:Type}{w:V}{B e z:Nat}{enc:α->List An}{v:An}{l:List α}(h:Own w B e z enc v l)(hl:0<Y l):∃g c,v=R (I ⟨g,0,Z⟩) (Y l) c/\B<=g/\g<↑w:=by
 rcases h.2 with⟨_,h0⟩ | ⟨g,cap,cur,rfl,hb,hg,_⟩
 all_goals grind
def RR(a b:List Bool):List Bool:=List.zipWith (fun x y=>x != y) a b
section
variable{c:List Bf}{f qb qk s t:Int}{k:Nat}
def iv{α:Type}(g:Int->List α)(a:Int):Nat->List α
 | 0=>[]
 | n+1=>iv g a n++ g (a+n)
def Xn(c:List Bf)(s:Int)(i:Int):List CK:=
 if 0<=i+s then(match c[(i+s).toNat]? with | some q=>if GR q.kind=true then[⟨i,q.basis⟩]else[] | none=>[])else[]
def Wc(c:List Bf)(s f t:Int)(k:Nat):List CK:=if f<=(k:Int)-s/\(k:Int)-s<t then Xn c s (k-s)else[]
def Ir(c:List Bf)(s f t:Int):Nat->List CK
 | 0=>[]
 | k+1=>Ir c s f t k++ Wc c s f t k
theorem AdI(c:List Bf)(s f t:Int):∀n,Ir c s f t n=iv (fun i=>if f<=i/\i<t then Xn c s i else[]) (-s) n
 | 0=>rfl
 | n+1=>by rw[Ir,iv,AdI c s f t n,Wc,show(-s+(n:Int))=n-s from by omega]
theorem AdJ(hq:c[k]?=I ⟨qb,qk⟩)(h1:GR qk=true)(h2:f<=(k:Int)-s)(h3:(k:Int)-s<t):
  Ir c s f t (k+1)=Ir c s f t k++ [⟨k-s,qb⟩]:=by
 rw[Ir,Wc,Bd ⟨h2,h3⟩,Xn,Bd J,show((k:Int)-s+s).toNat=k from by omega,hq]
 grind
theorem iu(hq:c[k]?=I ⟨qb,qk⟩)(h:GR qk=false\/(k:Int)-s<f\/t<=(k:Int)-s):
  Ir c s f t (k+1)=Ir c s f t k:=by
 rw[Ir,Wc]
 grind [Ir,Xn,GR]
theorem iw(c:List Bf)(s f t:Int):∀n,(Ir c s f t n).length<=n
 | 0=>Bg _
 | n+1=>by
  have:=iw c s f t n
  have h1:(Wc c s f t n).length<=1:=by
   unfold Wc Xn;split
   ·split
    ·split
     ·split <;> simp
     ·simp
    ·simp
   ·simp
  rw[Ir,KZ];omega
def V3(s f t:Int):Bool:=AR s (-16) 16&&AR t 0 4096&&AR f 0 t
def MK(c:List Bf)(s f t:Int):List CK:=if Bz Bf.ok c≠0\/V3 s f t=false then[]else Ir c s f t (Y c)
def We(c:List Bf)(s f t:Int):Int:=if Bz Bf.ok c≠0 then Bz Bf.ok c else if V3 s f t=false then 3 else 0
end
def AdZ(p:List AQ)(s:Int):Int:=(p[s.toNat]?.map AQ.basis).getD 0
def Ad0(p:List AQ)(x:CA):Bool:=decide (x.how=2\/x.basis=AdZ p x.slot)
def kn1(p:List AQ)(b:List Bool)(x:CA):List Bool:=if Ad0 p x=true then b.set x.slot.toNat true else b
def Af3{AY:Fence}{n:Nat}{P:Program}{α:Type}{g:Operand}{ps:Array Tmp}{assign body:Code}{Bn:Exit->Act->V->Prop}{a:Act}{w:V}
  (hro:AY.round=Z) (h1:1<=n) {gf:Nat} {lb:Array An} (hg:a.eval g=.func (.func gf) #[] lb) (hFg:AY.fn gf) (eg:∀args w,(callFunc gf args).run P w=.ok (.enter gf args) w)
  {Rq:α->Array An} {Kp St:V->V->Prop} {OK:List α->α->Prop} {xs:List α} (C0:List α->V->Prop)
  (hseq:∀(l:Nat) (Bi:List α->V->Prop) (W:V),Ag w w W->(∀s A B,Bi s A->St A B->Bi s B)->(∀s A,Bi s A->C0 s A)->
   (∀pre x W,Bi pre W->OK pre x->YieldAt AY (n-1-1) P l (Rq x) W fun e W'=>e=AN (Av true)/\Bi (pre++ [x]) W'/\Kp W W')->Bi [] W->
   CallsIn AY (n-1) P gf (#[.func (.yield l) #[] #[]]++ lb) W fun e W'=>(∃v,e=AN v)/\Bi xs W')
  (hKt:∀{A B C:V},Kp A B->Kp B C->Kp A C) (hKb:∀(W:V) (l:Nat) (o o':Obj),w.heap.size<=l->W.heap[l]?=I o->o.isCells=false->Kp W (W.putObj l o'))
  (hSt:∀A B,St A B->KeepsOthers A B) (hps:∀x,(Rq x).size=ps.size)
  (hI:OwnFrom w C0) (hIs:∀s A B,C0 s A->St A B->C0 s B) (h0:C0 [] w) (a₁:α->V->Act) (ga:α->V->V) (hga:∀x W,KeepsOthers W (ga x W)/\Kp W (ga x W)) (hgI:∀pre x W,C0 pre W->C0 pre (ga x W))
  (fQ:∀(l:Nat) (x:α) (W:V) (K:Act->V->Prop),K (a₁ x W) (ga x W)->
   assign.wpIn (AY.inRound l) (n-1-1) P (Exit.then K (fun _ _ _=>False)) {tmps:=(ps.zip (Rq x)).foldl (fun t (p,v)=>t.setIfInBounds p v) a.tmps,defers:=[]} W)
  (fR:∀(l:Nat) (pre:List α) (x:α) (W W':V),C0 pre W->OK pre x->(↑W'=(ga x W).heap.size/\(∀(k:Nat) (cs:Array An) (T:TypeId) (fr:Nat × Nat),(ga x W).heap[k]?=I (Obj.cells cs T fr)->W'.heap[k]?=I (Obj.cells cs T fr))/\C0 pre W')->body.wpIn (AY.inRound l) (n-1-1) P (ni w Kp C0 (pre++ [x]) W') (a₁ x W) W')
  (hdone:∀(D:Nat) (W:V),w.heap.size<=D->C0 xs W->W.heap[D]?=I (.deferred (I []))->Bn .normal {a with defers:={target:= .collected D,args:=#[]}::a.defers} W):
  (Code.rangeFunc g ps assign body).wpIn AY n P Bn a w:=by
 refine wpIn_rangeFunc fun fn hfn=>?_
 rw[hro];obtain⟨rec,Mk⟩:∃rec:LoopState->Loop,rec=fun st=>{state:=st,pending:=Z,fn,tmps:=a.tmps,params:=ps,assign,body,defers:=w.heap.size}:=⟨_,Q⟩
 obtain⟨W1,hW1⟩:=Az (Ao (Ao w (.deferred (I []))) (.loop (rec .ready)));have fS:(Ao w (.deferred (I []))).heap.size=w.heap.size+1:=AO
 have fT:W1.heap[w.heap.size+1]?=I (.loop (rec .ready)):=by
  have:=World.alloc_heap_new (Ao w (.deferred (I []))) (.loop (rec .ready))
  rwa [fS,hW1]at this
 have fU:W1.heap[w.heap.size]?=I (.deferred (I [])):=by
  rw[<-hW1];exact(TM _ _ _ AO).trans (World.alloc_heap_new w _)
 have inv1:C0 [] W1:=by rw[<-hW1];exact hI.alloc _ (hI.alloc _ h0)
 have fV:Ag w w W1:=by rw[<-hW1];exact((Ae _ w).alloc (Bg _) _).alloc AO _
 refine⟨↑w+1,[{target:= .collected w,args:=#[]}],W1,{target:= .fn (.func gf) lb,args:=#[.func (.yield (w.heap.size+1)) #[] #[]]},W1,gf,
  #[.func (.yield (w.heap.size+1)) #[] #[]]++ lb,W1,?_,?_,?_,?_,fun _=>h1,?_⟩
 ·rw[<-hW1,Mk];exact run_enterLoop_outer _ _ _ _ _
 ·simp only[resolve,hg]
  simp[go_sem]
 ·intro f' hf';simp[Target.leads]at hf';subst hf';exact hFg
 ·simp[invoke,go_sem,eg]
 ·refine(hseq (w.heap.size+1) (fun pre W=>C0 pre W/\W.heap[w.heap.size+1]?=I (.loop (rec .ready))/\W.heap[w.heap.size]?=I (.deferred (I []))) W1 fV ?_ (fun _ _ h=>h.1) ?_ ⟨inv1,fT,fU⟩).mono ?_
  ·rintro s A B ⟨hi,hl,hd⟩ hs
   exact⟨hIs s A B hi hs,(hSt A B hs).same _ _ hl Q,(hSt A B hs).same _ _ hd Q⟩
  ·rintro pre x W ⟨hi,hl,hd⟩ BI
   have hy:=run_yield (P:=P) (args:=Rq x) hl (qrf Mk (hps x));rw[Mk]at hy;have hl0:=hl;have kp0:=(hga x W).2;have hi0:=hi
   replace hl:=(hga x W).1.same _ _ hl Q
   replace hd:=(hga x W).1.same _ _ hd Q
   replace hi:=hgI pre x W hi
   have hlt:↑w+1<(ga x W).heap.size:=(Bm.1 hl).1;refine⟨fn,_,assign,body,hy,roundIn_of_wpIn hfn (fQ _ x W _ ⟨_,run_beginRound hl (by rw[Mk]),?_⟩)⟩;have lo2:((ga x W).putObj (w.heap.size+1) (.loop {rec .ready with state:= .busy})).heap[w.heap.size+1]?=I (.loop {rec .ready with state:= .busy}):=World.putObj_heap_same hlt;have de2:((ga x W).putObj (w.heap.size+1) (.loop {rec .ready with state:= .busy})).heap[w.heap.size]?=I (.deferred (I [])):=(World.putObj_heap_other J).trans hd;have kp2:Kp W ((ga x W).putObj (w.heap.size+1) (.loop {rec .ready with state:= .busy})):=hKt kp0 (hKb _ _ _ _ J hl Q);refine wpIn_mono (fR _ pre x W _ hi0 BI ⟨AO,fun k cs T fr hk=>(World.putObj_heap_other (show k≠↑w+1 from fun e=>by subst e;rw[hl]at hk;cases hk)).trans hk,hI.putObj _ hi J hl rfl⟩) ?_;intro e a3 W3 hp;cases e with
   | normal=>
    obtain⟨hk3,fW,hi3⟩:=hp;have Rs:=hk3.same _ _ J lo2 Q;have he:=run_endRound (P:=P) Z Rs;have hr:({{rec .ready with state:= .busy}with state:= .ready,pending:=Z}:Loop)=rec .ready:=by rw[Mk]
    refine⟨Av true,W3.putObj (w.heap.size+1) (.loop (rec .ready)),?_,Q,⟨hI.putObj _ hi3 J Rs Q,World.putObj_heap_same (Bm.1 Rs).1,(World.putObj_heap_other J).trans (hk3.same _ _ (Bg _) de2 Q)⟩,hKt (hKt kp2 fW) (hKb _ _ _ _ J Rs Q)⟩;rw[<-hr];exact he
   | ret=>exact hp.elim
   | exit id=>exact hp.elim
   | goto t=>exact hp.elim
   | panic ch=>exact hp.elim
   | outgrown=>exact hp.elim
  ·rintro e W2⟨⟨v,rfl⟩,hi,hl,hd⟩
   refine⟨Z,_,by have:=run_endLoop (P:=P) hl (by rw[Mk];simp);rw[Mk]at this;exact this,hdone _ _ (Bg _) (hI.putObj _ hi J hl Q) ((World.putObj_heap_other J).trans hd)⟩
end Go.Proofs.YtjpidgffdkjjeaaGreat
