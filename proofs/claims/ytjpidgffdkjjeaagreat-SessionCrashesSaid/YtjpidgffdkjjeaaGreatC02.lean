/- Contracts and plain laws. No condition. -/
import Derived.Laws.OwnMore
import Derived.Laws.ResultCell
import Derived.LoopIn
import Derived.LoopNIn
import Derived.OwnWalkIn
import Derived.RangeFuncBox
import Derived.RangeFuncCalls
import Derived.RangeFuncLeaves
import Derived.Shelf.Abstract
import Derived.TacticsInMore
import Derived.Test.YtjpidgffdkjjeaaGreatCA
import Derived.Test.YtjpidgffdkjjeaaGreatC00
set_option linter.all false
set_option maxHeartbeats 16000000
namespace Go.Proofs.YtjpidgffdkjjeaaGreat
open Go.Proofs.Tryz
open Go.Proofs.Tryz renaming prog->AE
open List renaming length->Y
open Go.World renaming cell?->E,setCell->Ai,alloc->Ao,frozen?->Bo
open Go.Value renaming int->U,slice->R,pointer->AI,agg->Ba,tuple->Be,nilFunc->Bl,bool->Av
open Go.IntKind renaming i64->O,u64->AA,u32->BF,u8->Cd
open Option renaming none->Z,some->I
open Go.Ending renaming returned->AN
open Go.Obj renaming cells->N
open Go renaming World->V,Value->An,Calls->AL,Addr->AS
open Go.RowKit renaming Below->Ag,Hid->Aj
set_option maxRecDepth 100000
open Go.RowKit
def DJ(n a b:Int)(w:V):
  AL AE 89 #[U O n,U O a,U O b] w fun e w'=>e=AN (Av (AR n a b))/\w=w':=by
 go_in;go_wp2
 all_goals(go_ret;exact⟨JJ (by simp[AR];try omega),Q⟩)
def VB(n:Int)(w:V):
  AL AE 267 #[U O n] w fun e w'=>e=AN (Av (AR n (-16) 16))/\w=w':=by
 go_in;go_wp2_with(go_at_call 89;refine(DJ _ _ _ _).mono ?_;rintro e w' ⟨rfl,rfl⟩);go_ret;exact⟨Q,Q⟩
def TA(bs k:Int)(w:V):
  AL AE 141 #[Ba #[U O bs,U O k]] w fun e w'=>e=AN (Av (GR k))/\Ag w w w':=by
 go_in;go_wp2
 all_goals(go_ret;exact⟨JJ (by rw[PO];simp[GR, *]),(Ae _ _).alloc (Bg _) _⟩)
def xC(qb qk:Int)(w:V):
  AL AE 184 #[Ba #[U O qb,U O qk]] w fun e w'=>e=AN (Av (Bf.ok ⟨qb,qk⟩))/\Ag w w w':=by
 go_in;go_wp2_with(go_at_call 89;refine(DJ _ _ _ _).mono ?_;rintro e w' ⟨rfl,rfl⟩)
 all_goals(go_ret;exact⟨JJ (by simp[Bf.ok, *]),(Ae _ _).alloc (Bg _) _⟩)
def xD(pb:Int)(BK:Bool)(pc Cf:Int)(ps:Bool)(w:V):
  AL AE 182 #[Ba #[U O pb,Av BK,U O pc,U O Cf,Av ps]] w fun e w'=>e=AN (Av (AQ.ok ⟨pb,BK,pc,Cf,ps⟩))/\Ag w w w':=by
 go_in;go_wp2_with(go_at_call 89;refine(DJ _ _ _ _).mono ?_;rintro e w' ⟨rfl,rfl⟩)
 all_goals(go_ret;exact⟨JJ (by simp[AQ.ok, *]),(Ae _ _).alloc (Bg _) _⟩)
def xE(A:Option AS)(c:Nat)(l:List Bf)(w:V)(h:Arr 2 Bf.enc w w A l)(hl:Y l<=4611686018427387904):
  AL AE 183 #[R A (Y l) c,.func (.func 184) #[] #[]] w fun e w'=>e=AN (U O (Bz Bf.ok l))/\Ag w w w':=by
 by_cases h4:4096<Y l
 ·go_in
  go_wp2;go_ret;exact⟨Cg (XQ h4).symm,Ae _ _⟩
 ·have h4':decide (4096<(Y l:Int))=false:=by simp;omega
  go_in;go_wp2;go_loopw [12] (fun i wr=>∃k:Nat,k<=Y l/\i=U O k/\(l.take k).all Bf.ok=true/\Ag w w wr) (fun i _=>Y l-(intOf i).toNat);exact⟨0,BM _,rfl,AO,Ae _ _⟩
  obtain⟨k,hk,rfl,hall,hb⟩:=hrel;have Ea:=F hall;clear hall;by_cases hlt:k<Y l
  ·obtain⟨b,off,qb,qk,rfl,BN,hq,c0,c1⟩:=h.clk hlt hb
   go_wp2_with(go_at_call 184;refine gqz (xC qb qk _) fun w2 hb2=>?_)
   ·go_ret
    rename_i hx;exact⟨Cg (XR h4 hq (qsu hx)).symm,(hb.alloc hb.size _).trans (hb2.mono (by have:=hb.size;simp;omega))⟩
   ·rename_i hx
    go_roundw;exact⟨k+1,J,qgm,Vu hq Ea (qsu hx),(hb.alloc hb.size _).trans (hb2.mono (by have:=hb.size;simp;omega))⟩;simp[intOf];omega
  ·go_wp2
   go_ret;exact⟨Cg (XS h4 (k:=k) J Ea).symm,hb⟩
def xF(A:Option AS)(c:Nat)(l:List AQ)(w:V)(h:Arr 5 AQ.enc w w A l)(hl:Y l<=4611686018427387904):
  AL AE 181 #[R A (Y l) c,.func (.func 182) #[] #[]] w fun e w'=>e=AN (U O (Bz AQ.ok l))/\Ag w w w':=by
 by_cases h4:4096<Y l
 ·go_in
  go_wp2;go_ret;exact⟨Cg (XQ h4).symm,Ae _ _⟩
 ·have h4':decide (4096<(Y l:Int))=false:=by simp;omega
  go_in;go_wp2;go_loopw [12] (fun i wr=>∃k:Nat,k<=Y l/\i=U O k/\(l.take k).all AQ.ok=true/\Ag w w wr) (fun i _=>Y l-(intOf i).toNat);exact⟨0,BM _,rfl,AO,Ae _ _⟩
  obtain⟨k,hk,rfl,hall,hb⟩:=hrel;have Ea:=F hall;clear hall;by_cases hlt:k<Y l
  ·obtain⟨b,off,pb,BK,pc,Cf,ps,rfl,BN,hq,c0,c1,c2,c3,c4⟩:=h.pls hlt hb
   go_wp2_with(go_at_call 182;refine gqz (xD pb BK pc Cf ps _) fun w2 hb2=>?_)
   ·go_ret
    rename_i hx;exact⟨Cg (XR h4 hq (qsu hx)).symm,(hb.alloc hb.size _).trans (hb2.mono (by have:=hb.size;simp;omega))⟩
   ·rename_i hx
    go_roundw;exact⟨k+1,J,qgm,Vu hq Ea (qsu hx),(hb.alloc hb.size _).trans (hb2.mono (by have:=hb.size;simp;omega))⟩;simp[intOf];omega
  ·go_wp2
   go_ret;exact⟨Cg (XS h4 (k:=k) J Ea).symm,hb⟩
def SD(A:Option AS)(c:Nat)(l:List Bf)(w:V)(h:Arr 2 Bf.enc w w A l)(hl:Y l<=4611686018427387904):
  AL AE 140 #[R A (Y l) c] w fun e w'=>e=AN (U O (Bz Bf.ok l))/\Ag w w w':=by
 go_in;go_wp2_with(go_at_call 183;refine gqz (xE A c l _ h hl) fun w2 hb2=>?_);go_ret;exact⟨Q,hb2⟩
def IF(A:Option AS)(c:Nat)(l:List AQ)(w:V)(h:Arr 5 AQ.enc w w A l)(hl:Y l<=4611686018427387904):
  AL AE 139 #[R A (Y l) c] w fun e w'=>e=AN (U O (Bz AQ.ok l))/\Ag w w w':=by
 go_in;go_wp2_with(go_at_call 181;refine gqz (xF A c l _ h hl) fun w2 hb2=>?_);go_ret;exact⟨Q,hb2⟩
section
variable{A:Option AS}{b base m sz:Nat}{v:An}{w w' x y z:V}{α:Type}
structure DF(w w':V)(b m:Nat):Prop where
 os:w'.os=w.os
 tape:w'.tape=w.tape
 output:w'.output=w.output
 size:w.heap.size<=w'.heap.size
 block:∀k,k<↑w->k≠b->k≠m->w'.heap[k]?=w.heap[k]?
def DF.of(b m:Nat)(h:Ag w w w'):DF w w' b m:=⟨h.os,h.tape,h.output,h.size,fun k hk _ _=>h.block k hk⟩
def DF.grown{g:Nat}(h:w.grownBy w' (I g))(hg:g=b\/g=m\/w.heap.size<=g):DF w w' b m:=⟨h.os,h.tape,h.output,h.size,fun k hk h1 h2=>h.block k hk qsm⟩
def DF.trans(h:DF x y b m)(k:DF y z b m):DF x z b m:=⟨k.os.trans h.os,k.tape.trans h.tape,k.output.trans h.output,Br h.size k.size,fun i hi h1 h2=>(k.block i (Ck hi h.size) h1 h2).trans (h.block i hi h1 h2)⟩
def DF.below(h:DF w w' b m)(hs:base<=↑w)(h1:base<=b)(h2:base<=m):Ag base w w':=
 ⟨h.os,h.tape,h.output,h.size,fun k hk=>h.block k J J J⟩
def fG{enc:α->List An}{l:List α}(h:Arr sz enc w w A l)(ho:DF w w' b m)(hA:∀a,A=I a->a.block≠b/\a.block≠m):Arr sz enc w' w' A l:=fun hl=>by
 obtain⟨g,off,rfl,hg,hc⟩:=h hl;obtain⟨n1,n2⟩:=hA _ Q;exact⟨g,off,Q,Ck hg ho.size,fun i x hx j u hu=>(Fx (a:=⟨g,off+i*sz+j,Z⟩) (ho.block g hg n1 n2)).trans (hc i x hx j u hu)⟩
structure AT(S:Nat->Prop)(w w':V):Prop where
 os:w'.os=w.os
 tape:w'.tape=w.tape
 output:w'.output=w.output
 size:w.heap.size<=w'.heap.size
 block:∀k,k<↑w->¬S k->w'.heap[k]?=w.heap[k]?
section
variable {S:Nat→Prop} {w w':V}
def AT.refl(S:Nat->Prop)(w:V):AT S w w:=⟨Q,Q,Q,Bg _,fun _ _ _=>rfl⟩
def AT.of(h:Ag w w w'):AT S w w':=⟨h.os,h.tape,h.output,h.size,fun k hk _=>h.block k hk⟩
theorem AT.grown{row:Option Nat}(h:w.grownBy w' row)(hg:∀g,row=I g->S g\/w.heap.size<=g):AT S w w':=
 ⟨h.os,h.tape,h.output,h.size,fun k hk h1=>h.block k hk (fun e=>by
  grind)⟩
def AT.trans(h:AT S x y)(k:AT S y z):AT S x z:=⟨k.os.trans h.os,k.tape.trans h.tape,k.output.trans h.output,Br h.size k.size,fun i hi h1=>(k.block i (Ck hi h.size) h1).trans (h.block i hi h1)⟩
def AT.mono{T:Nat->Prop}(h:AT S w w')(hs:∀k,k<↑w->S k->T k):AT T w w':=⟨h.os,h.tape,h.output,h.size,fun k hk h1=>h.block k hk (fun e=>h1 (hs k hk e))⟩
theorem AT.below(h:AT S w w')(hb:base<=↑w)(hs:∀k,S k->base<=k):Ag base w w':=
 ⟨h.os,h.tape,h.output,h.size,fun k hk=>h.block k J (fun e=>by grind)⟩
theorem AT.set{o:Nat}(hb:S b):AT S w (Ai w ⟨b,o,Z⟩ v):=
 AT.grown (row:=I b) ⟨(Ae 0 w |>.setCell (BM _) v).os,(Ae 0 w |>.setCell (BM _) v).tape,(Ae 0 w |>.setCell (BM _) v).output,(Ae 0 w |>.setCell (BM _) v).size,fun j _ hn=>Fd w _ _ j (by grind)⟩ (fun g hg=>by grind)
def AT.cell(h:AT S w w'){a:AS}(hc:E w a=I v)(hs:¬S a.block):E w' a=I v:=
 (Fx (h.block a.block (Ch w a hc) hs)).trans hc
def AT.row(h:AT S w w'){o:Obj}(hc:w.heap[b]?=I o)(hs:¬S b):w'.heap[b]?=I o:=
 (h.block b (Bm.1 hc).1 hs).trans hc
def AT.arr{enc:α->List An}{l:List α}(ho:AT S w w')(h:Arr sz enc w w A l)(hA:∀a,A=I a->¬S a.block):Arr sz enc w' w' A l:=fun hl=>by
 obtain⟨g,off,rfl,hg,hc⟩:=h hl;exact⟨g,off,Q,Ck hg ho.size,fun i x hx j u hu=>ho.cell (hc i x hx j u hu) (show¬S g from hA ⟨g,off,Z⟩ Q)⟩
theorem AT.own{e:Nat}{enc:α->List An}{l:List α}(ho:AT S w w')(h:Own w base e sz enc v l)(hA:∀k,v.ownBlock=I k->¬S k):Own w' base e sz enc v l:=by
 refine⟨h.1,?_⟩;rcases h.2 with hn | ⟨g,cap,cur,hv,hb,hg,rest⟩
 ·grind
 ·exact .inr ⟨g,cap,cur,hv,hb,ho.row hg (hA g (by rw[hv];rfl)),rest⟩
end
def Rw(sz:Nat)(enc:α->List An)(w:V)(lo hi:Nat)(A:Option AS)(l:List α):Prop:=
 l≠[]->∃b off,A=I ⟨b,off,Z⟩/\lo<=b/\b<hi/\∀i x,l[i]?=I x->∀j u,(enc x)[j]?=I u->E w ⟨b,off+i*sz+j,Z⟩=I u
section
variable {α:Type} {sz:Nat} {enc:α→List An} {w w':V} {lo hi:Nat} {A:Option AS} {l:List α}
def Rw.keep(h:Rw sz enc w lo hi A l)(hk:∀k,lo<=k->k<hi->w'.heap[k]?=w.heap[k]?):Rw sz enc w' lo hi A l:=fun hl=>by
 obtain⟨b,off,e,h1,h2,hc⟩:=h hl;exact⟨b,off,e,h1,h2,fun i x hx j u hu=>(Fx (a:=⟨b,off+i*sz+j,Z⟩) (hk b h1 h2)).trans (hc i x hx j u hu)⟩
theorem Rw.arr(h:Rw sz enc w lo hi A l)(hh:hi<=↑w):Arr sz enc w w A l:=fun hl=>by
 grind [Rw]
end
end
def gW(A:Option AS)(n:Nat)(p:List AQ)(C:Option AS)(m:Nat)(c:List Bf)(w:V)(hA:Arr 5 AQ.enc w w A p)(hC:Arr 2 Bf.enc w w C c)
  (hl:Y p<=4611686018427387904) (hm:Y c<=4611686018427387904):
  AL AE 92 #[R A (Y p) n,R C (Y c) m] w fun e w'=>e=AN (U O (Tq p c))/\Ag w w w':=by
 by_cases hp:Bz AQ.ok p=0
 ·have Hp:=F hp
  go_in;go_wp2_with(first | (go_at_call 139;refine gqz (IF A n p _ hA hl) fun w2 hb2=>?_;rw[Hp.out]) | (go_at_call 140;refine gqz (SD C m c _ (hC.on hb2) hm) fun w3 hb3=>?_));go_ret;exact⟨Cg (by simp[Tq,Hp.out]),AH hb2 hb3⟩
 ·have Hp:=F hp
  have hp':(Bz AQ.ok p != 0)=true:=qsu hp;go_in;go_wp2_with(go_at_call 139;refine gqz (IF A n p _ hA hl) fun w2 hb2=>?_);go_ret;exact⟨Cg (by simp[Tq,Hp.out]),hb2⟩
section
variable{BK:Bool}{Cf pb pc qk s:Int}{c:List Bf}{h:List AQ}{k:Nat}{p:AQ}{q:Bf}
def RU(p:AQ)(q:Bf):Int:=if p.seen=false\/GR q.kind=false\/p.basis≠q.basis then 0 else if p.bit=decide (q.kind=2)then 1 else -1
def pt(h:List AQ)(c:List Bf)(s:Int)(k:Nat):Int:=if 0<=(k:Int)+s then(match h[k]?,c[((k:Int)+s).toNat]? with | some p,I q=>RU p q | _,_=>0)else 0
def KI(h:List AQ)(c:List Bf)(s:Int):Nat->Int
 | 0=>0
 | k+1=>KI h c s k+pt h c s k
theorem Aju(p:AQ)(q:Bf): -1<=RU p q/\RU p q<=1:=by grind [RU]
theorem Ac7(h:List AQ)(c:List Bf)(s:Int)(k:Nat): -1<=pt h c s k/\pt h c s k<=1:=by
 unfold pt;split
 ·split
  all_goals grind [RU]
 ·omega
theorem qD(h:List AQ)(c:List Bf)(s:Int):∀k:Nat,-(k:Int)<=KI h c s k/\KI h c s k<=k
 | 0=>by simp[KI]
 | k+1=>by have:=qD h c s k;have:=Ac7 h c s k;grind [KI,pt]
theorem Qb(hj:(k:Int)+s<0\/(Y c:Int)<=(k:Int)+s):KI h c s (k+1)=KI h c s k:=by
 simp only[KI,pt]
 grind
theorem Ac8{j:Nat}(hk:h[k]?=I p)(hj:c[j]?=I q)(e:(k:Int)+s=j):KI h c s (k+1)=KI h c s k+RU p q:=by
 simp only[KI,pt]
 grind
def i8(h:p.seen=false\/GR q.kind=false\/p.basis≠q.basis):RU p q=0:=Bd h
theorem Ac9(h:GR qk=true)(e:BK=(qk == 2)):RU ⟨pb,BK,pc,Cf,true⟩ ⟨pb,qk⟩=1:=by
 grind [RU,GR]
theorem Ada(h:GR qk=true)(e:¬BK=(qk == 2)):RU ⟨pb,BK,pc,Cf,true⟩ ⟨pb,qk⟩=-1:=by
 grind [RU,GR]
def qE(A:Option AS)(n:Nat)(h:List AQ)(C:Option AS)(m:Nat)(c:List Bf)(s:Int)(w:V)(hA:Arr 5 AQ.enc w w A h)(hC:Arr 2 Bf.enc w w C c)
  (hl:Y h<=4096) (hm:Y c<=4096) (hs1: -16<=s) (hs2:s<=16):
  AL AE 93 #[R A (Y h) n,R C (Y c) m,U O s] w fun e w'=>e=AN (U O (KI h c s (Y h)))/\Ag w w w':=by
 go_in;go_wp2;go_loopw [6,12] (fun t i wr=>∃k:Nat,k<=Y h/\i=U O k/\t=U O (KI h c s k)/\Ag w w wr) (fun _ i _=>Y h-(intOf i).toNat);exact⟨0,BM _,rfl,rfl,Ae _ _⟩
 obtain⟨k,hk,rfl,rfl,hb⟩:=hrel;have hbd:=qD h c s k;by_cases hlt:k<Y h
 ·obtain⟨b,off,pb,BK,pc,Cf,ps,rfl,BN,hp,c0,c1,c2,c3,c4⟩:=hA.pls hlt hb
  by_cases hj0:(k:Int)+s<0
  ·have i9:decide ((k:Int)+s<0)=true:=qsu hj0
   go_wp2;refine Jf AG AG ?_
   repeat(go_big_quiet_step (fail))
   refine GP ?_;rintro w1⟨⟨_,hb1⟩,rfl⟩;go_wp2;go_roundw
   case rel=>exact⟨k+1,J,qgm,by rw[Qb (.inl hj0)],AH (AB hb _) hb1⟩
   case measure=>simp[intOf];omega
  ·by_cases hj1:(Y c:Int)<=(k:Int)+s
   ·have i9:decide ((k:Int)+s<0)=false:=qsu hj0
    go_wp2;refine Jf AG AG ?_
    repeat(go_big_quiet_step (fail))
    refine GP ?_;rintro w1⟨⟨_,hb1⟩,rfl⟩;go_wp2;go_roundw
    case rel=>exact⟨k+1,J,qgm,by rw[Qb (.inr hj1)],AH (AB hb _) hb1⟩
    case measure=>simp[intOf];omega
   ·obtain⟨j,hj⟩:∃j:Nat,(k:Int)+s=j:=⟨((k:Int)+s).toNat,J⟩
    have hjc:j<Y c:=J;obtain⟨b2,TQ,qb,qk,rfl,VY,hq,q0,q1⟩:=hC.clk hjc hb;have Hsc:=F (Ac8 hp.out hq.out hj);have Hj:=F hj;clear hj hj0 hj1;have g0:decide ((j:Int)<0)=false:=AO;have g1:decide (Y c<=j)=false:=by simp;omega
    obtain⟨n0,n1,n2,n3,n4⟩:=jE wr pb BK pc Cf ps 154;have r0:=Vq q0 (N #[U O pb,Av BK,U O pc,U O Cf,Av ps] 154);have r1:=Vq q1 (N #[U O pb,Av BK,U O pc,U O Cf,Av ps] 154);cases ps
    ·go_wp2
     rw[Hj.out];refine Jf AG AG ?_
     repeat(go_big_quiet_step (fail))
     refine GP ?_;rintro w1⟨⟨_,hb1⟩,rfl⟩;go_wp2;go_roundw
     case rel=>exact⟨k+1,J,qgm,by rw[Hsc.out,i8 (.inl rfl)];simp,AH (AB hb _) hb1⟩
     case measure=>simp[intOf];omega
    ·cases MD:GR qk
     ·have Hs:=F MD
      go_wp2;rw[Hj.out];refine Jf AG AG ?_
      repeat(go_big_quiet_step ((go_at_call 141;exact Ss (MD▸TA _ _ _))))
      refine GP ?_;rintro w1⟨⟨_,hb1⟩,rfl⟩;go_wp2;go_roundw;exact⟨k+1,J,qgm,by rw[Hsc.out,i8 (.inr (.inl Hs.out))];simp,AH (AB hb _) hb1⟩;simp[intOf];omega
     ·have Hs:=F MD
      by_cases FR:pb=qb
      ·subst FR
       go_wp2;rw[Hj.out];refine Jf AG AG ?_
       repeat(go_big_quiet_step ((go_at_call 141;exact Ss (MD▸TA _ _ _))))
       refine GP ?_;rintro w1⟨⟨_,hb1⟩,rfl⟩;have e1:=Di (w:=w1) (n1 ⟨w1,hb1⟩);have e2:=Di (w:=w1) (r1 ⟨w1,hb1⟩);clear n0 n1 n2 n3 n4 r0 r1;go_wp2;refine Jf AG AG ?_
       repeat(go_big_quiet_step (fail))
       refine GP ?_;rintro w2⟨⟨_,hb2⟩,rfl⟩;go_wp2
       ·rename_i hx
        go_roundw;exact⟨k+1,J,qgm,by rw[Hsc.out,Ac9 Hs.out (qsu hx)],AH (AH (AB hb _) hb1) hb2⟩;simp[intOf];omega
       ·rename_i hx
        go_roundw;exact⟨k+1,J,qgm,by rw[Hsc.out,Ada Hs.out (qsu hx)];rfl,AH (AH (AB hb _) hb1) hb2⟩;simp[intOf];omega
      ·have Ajv:(pb != qb)=true:=qsu FR
       go_wp2;rw[Hj.out];refine Jf AG AG ?_
       repeat(go_big_quiet_step ((go_at_call 141;exact Ss (MD▸TA _ _ _))))
       refine GP ?_;rintro w1⟨⟨_,hb1⟩,rfl⟩;go_wp2;go_roundw;exact⟨k+1,J,qgm,by rw[Hsc.out,i8 (.inr (.inr FR))];simp,AH (AB hb _) hb1⟩;simp[intOf];omega
 ·go_wp2
  go_ret;obtain rfl:k=Y h:=J;exact⟨Q,hb⟩
end
open Go.Shelf
section
attribute [local go_sem] Oper.semAt_some
def Sft:Type:={x:Int // -16<=x/\x<=16}
def mkS(x:Int):Sft:=if h: -16<=x/\x<=16 then⟨x,h⟩else⟨0,J⟩
def ia{x:Int}(h: -16<=x/\x<=16):(mkS x).1=x:=by simp[mkS,h]
def MF:Nat->List Sft
 | 0=>[mkS 0]
 | n+1=>MF n++ [mkS (-((n:Int)+1)),mkS ((n:Int)+1)]
theorem ib:∀n,(MF n).length=2*n+1
 | 0=>rfl
 | n+1=>by simp[MF,ib n];omega
def shifts1_in(l:Nat)(Bi Jx:List Sft->V->Prop)(W:V)
  (hY:∀pre x W,Bi pre W->Y pre<33->YieldAt Fence.wide 8 AE l #[U O x.1] W fun e W'=>
   (e=AN (Av true)/\Bi (pre++ [x]) W'/\True)\/(e=AN (Av false)/\Jx (pre++ [x]) W')) (h0:Bi [] W):
  CallsIn Fence.wide 9 AE 142 #[.func (.yield l) #[] #[]] W fun e W'=>(∃v,e=AN v)/\
   ((∃ys,ys=MF 16/\Bi ys W')\/(∃pre,True/\Jx pre W')):=by
 refine callsIn_of_wp func142 Q trivial ?_ Q;simp only[Tryz.ntmps142,List.size_toArray,List.length_cons,List.length_nil,Nat.reduceAdd,Nat.reduceSub,Array.replicate_succ,Array.replicate_zero,List.push_toArray,List.append_toArray,List.nil_append,List.cons_append];obtain⟨fn,tmps,assign,body,hy,hR⟩:=hY [] (mkS 0) W h0 AO;rw[ia J]at hy
 gi_wp2
 refine hR.mono ?_;rintro e W1 (⟨rfl,hJ1,_⟩ | ⟨rfl,hx1⟩)
 ·clear hR hy
  have HY:=F hY;clear hY
  gi_wp2
  gi_loopw [2] (fun i wr=>∃k:Nat,k<=16/\i=U O ((k:Int)+1)/\Bi (MF k) wr) (fun i _=>17-(intOf i).toNat)
  case atStart=>exact⟨0,J,rfl,hJ1⟩
  case round=>
   obtain⟨k,hk,rfl,hJ⟩:=hrel;by_cases hlt:k<16
   ·obtain⟨fn2,fI,fJ,fK,hy2,FV⟩:=HY.out (MF k) (mkS (-((k:Int)+1))) wr hJ (by rw[ib];omega)
    rw[ia J]at hy2
    gi_wp2
    refine FV.mono ?_;rintro e W2 (⟨rfl,hJ2,_⟩ | ⟨rfl,hx2⟩)
    ·clear FV hy2
     obtain⟨fn3,Ajw,Ajx,Ajy,hy3,hR3⟩:=HY.out _ (mkS ((k:Int)+1)) W2 hJ2 (by simp[ib];omega);rw[ia J]at hy3
     gi_wp2
     refine hR3.mono ?_;rintro e W3 (⟨rfl,hJ3,_⟩ | ⟨rfl,hx3⟩)
     ·gi_wp2
      go_roundw
      case rel=>exact⟨k+1,J,qgm,by simpa[MF]using hJ3⟩
      case measure=>simp[intOf];omega
     ·gi_wp2
      refine De (results_none Q _ _ _) Q ?_;exact⟨⟨_,Q⟩,.inr ⟨_,trivial,hx3⟩⟩
    ·gi_wp2
     refine⟨fun _ h=>(by cases h),?_⟩
     gi_wp2
     refine De (results_none Q _ _ _) Q ?_;exact⟨⟨_,Q⟩,.inr ⟨_,trivial,hx2⟩⟩
   ·obtain rfl:k=16:=J
    gi_wp2
    go_end0;exact⟨⟨_,Q⟩,.inl ⟨_,rfl,hJ⟩⟩
 ·gi_wp2
  refine De (results_none Q _ _ _) Q ?_;exact⟨⟨_,Q⟩,.inr ⟨_,trivial,hx1⟩⟩
def IP(h:List AQ)(c:List Bf)(s:Int):Int:=KI h c s (Y h)
def IQ(h:List AQ)(c:List Bf)(l:List Sft):Int:=l.foldl (fun b x=>if IP h c b<IP h c x.1 then x.1 else b) 0
theorem bA(h:List AQ)(c:List Bf)(l:List Sft)(x:Sft):IQ h c (l++ [x])=if IP h c (IQ h c l)<IP h c x.1 then x.1 else IQ h c l:=by grind [IQ,Sft,IP]
def Adb(w:V):AL AE 94 #[] w fun e w'=>e=AN (.func (.func 142) #[] #[])/\w=w':=by
 go_in;go_wp2;go_ret;exact⟨Q,Q⟩
def Adc(w:V):SeqStopsK Fence.wide 9 AE 142 #[] (fun x:Sft=>#[Value.int .i64 x.1]) (fun _ _=>True) (fun ys=>ys=MF 16) (fun _=>True) 33 w:=fun l Bi Jx W _ _ _ hY h0=>
 shifts1_in l Bi Jx W hY h0
def Add(A:Option AS)(n:Nat)(h:List AQ)(C:Option AS)(m:Nat)(c:List Bf)(need:Int)(w:V)(hA:Arr 5 AQ.enc w w A h)(hC:Arr 2 Bf.enc w w C c)
  (hl:Y h<=4096) (hm:Y c<=4096) (hbo:Tq h c=0) (hn:AR need 0 4096=true):
  CallsIn Fence.wide 10 AE 32 #[R A (Y h) n,R C (Y c) m,U O need] w fun e w'=>
   e=AN (Be #[U O (if IP h c (IQ h c (MF 16))<need then 0 else IQ h c (MF 16)),U O (if IP h c (IQ h c (MF 16))<need then 17 else 0)])/\Ag w w w':=by
 have Hbo:=F hbo;have Hn:=F hn;clear hbo hn;have hF:∀f,Fence.wide.fn f:=fun _=>trivial
 refine callsIn_of_wp_marks func32 Q trivial ?_ Q;simp only[Tryz.ntmps32,List.size_toArray,List.length_cons,List.length_nil,Nat.reduceAdd,Nat.reduceSub,Array.replicate_succ,Array.replicate_zero,List.push_toArray,List.append_toArray,List.nil_append,List.cons_append]
 gi_wp2_with (first
  | (gi_at_call 92;refine(JU.2 (gW A n h C m c _ (hA.on (AB (AB (Ae _ _) _) _)) (hC.on (AB (AB (Ae _ _) _) _)) J J)).mono ?_;rintro e w2⟨rfl,hb2⟩;rw[Hbo.out];have hb0:=AH (AB (AB (Ae _ _) _) _) hb2;have d3:E w2 ⟨w,0,Z⟩=I (R A (Y h) n):=AK hb2 (by simp[go_sem]);have d4:E w2 ⟨↑w+1,0,Z⟩=I (R C (Y c) m):=AK hb2 (by simp[go_sem]))
  | (gi_at_call 89;refine(JU.2 (DJ _ _ _ _)).mono ?_;rintro e w'⟨rfl,rfl⟩;rw[Hn.out])
  | (gi_at_call 93;refine(JU.2 (qE A n h C m c _ _ (hA.on hb0) (hC.on hb0) hl hm J J)).mono ?_;rintro e w3 ⟨rfl,hb3⟩))
 gi_wp2_with (gi_at_call 94;refine(JU.2 (Adb _)).mono ?_;rintro e w' ⟨rfl,rfl⟩)
 have hb4:Ag w w (Ao (Ao w3 (N #[U O 0] 3)) (N #[U O (KI h c 0 (Y h))] 3)):=AB (AB (AH hb0 hb3) _) _
 refine wpIn_rangeFunc_ownG (α:=Sft) Q J (gf:=142) (lb:=#[]) Q trivial (enters_of func142 AG Q) (Adc _) (fun _ _=>trivial) (fun _ _ _ _ _ _ _ _=>trivial) (Ae _ _) (fun _=>rfl)
  (fun pre W=>(E W ⟨w3,0,Z⟩=I (U O (IQ h c pre))/\Bo W ⟨w3,0,Z⟩=false/\E W ⟨↑w3+1,0,Z⟩=I (U O (IP h c (IQ h c pre)))/\Bo W ⟨↑w3+1,0,Z⟩=false/\
   E W ⟨w,0,Z⟩=I (R A (Y h) n)/\E W ⟨↑w+1,0,Z⟩=I (R C (Y c) m))/\Ag w w W)
  (fun _ _ _=>False)
  (OwnFrom.and (Own.from (fun s X Bp row hs hg hr=>⟨cell_kept hs.1 hg hr,(frozen_kept hs.1 hg hr).trans hs.2.1,cell_kept hs.2.2.1 hg hr,(frozen_kept hs.2.2.1 hg hr).trans hs.2.2.2.1,cell_kept hs.2.2.2.2.1 hg hr,cell_kept hs.2.2.2.2.2 hg hr⟩) _) (ownFrom_below (Bg _) hb4.size))
  (fun _ _ _ _ _ hs _ _=>hs)
  ⟨⟨?_,?_,?_,?_,?_,?_⟩,hb4⟩
  (fun x=>{tmps:=#[R A (Y h) n,R C (Y c) m,U O need,AI (I ⟨w,0,Z⟩),AI (I ⟨↑w+1,0,Z⟩),undef,U O 0,U O 0,U O 0,AI (I ⟨w3,0,Z⟩),AI (I ⟨↑w3+1,0,Z⟩),U O x.1,undef,R A (Y h) n,R C (Y c) m,U O 0,U O 0,Av false,undef,U O need,Av true,Av false,R A (Y h) n,R C (Y c) m,U O (KI h c 0 (Y h)),.func (.func 142) #[] #[],U O x.1,undef,undef,undef,undef,undef,undef,undef,undef,undef,undef,undef,undef,undef],defers:=[]}) ?assign ?body ?done ?stop
 case assign=>
  intro l x W K hK
  gi_wp2
  exact hK
 case body=>
  rintro l pre x W ⟨⟨e1,e2,e3,e4,e5,e6⟩,Bh⟩ _;have hx:=x.2;have hs3:=hb3.size;have hne:w.heap.size+1<w2.heap.size:=by have:=hb2.size;simp at this;omega
  gi_wp2
  have hag:=(JU (n:=7)).2 (qE A n h C m c x.1 W (hA.on Bh) (hC.on Bh) hl hm hx.1 hx.2);refine(CallsIn.inRound l hag).mono ?_;rintro e w6⟨rfl,BV⟩;have f1:=AK BV e1;have f3:=AK BV e3;have f2:=(BV.frozen (Ch _ _ e1)).trans e2;have f4:=(BV.frozen (Ch _ _ e3)).trans e4;clear hag
  gi_wp2
  ·rename_i hgt
   have Hgt:IP h c (IQ h c pre)<IP h c x.1:=hgt;have GC:(⟨w3,0,Z⟩:AS)≠⟨↑w3+1,0,Z⟩:=AO;have EU:(⟨w3,0,Z⟩:AS)≠⟨w,0,Z⟩:=by intro e;injection e with e;omega
   have hn3:(⟨w3,0,Z⟩:AS)≠⟨↑w+1,0,Z⟩:=by intro e;injection e with e;omega
   have hn4:(⟨↑w3+1,0,Z⟩:AS)≠⟨w,0,Z⟩:=by intro e;injection e with e;omega
   have hn5:(⟨↑w3+1,0,Z⟩:AS)≠⟨↑w+1,0,Z⟩:=by intro e;injection e with e;omega
   refine⟨((KeepsFrom.of_grownBy (Db BV) (fun _ e=>by cases e)).trans ((KeepsOthers.setCell _ _ _).from _)).trans ((KeepsOthers.setCell _ _ _).from _),trivial,⟨?_,?_,?_,?_,?_,?_⟩,?_⟩
   ·rw[bA,Bd Hgt,GY _ _ _ _ GC.symm];exact TK _ _ _ (by rw[f1];rfl)
   ·rw[GX,GX];exact f2
   ·rw[bA,Bd Hgt];exact TK _ _ _ (by rw[GY _ _ _ _ GC,f3];rfl)
   ·rw[GX,GX];exact f4
   ·rw[GY _ _ _ _ hn4,GY _ _ _ _ EU];exact AK BV e5
   ·rw[GY _ _ _ _ hn5,GY _ _ _ _ hn3];exact AK BV e6
   ·exact((AH Bh BV).setCell (by show w.heap.size<=w3.heap.size;omega) _).setCell (by show w.heap.size<=w3.heap.size+1;omega) _
  ·rename_i hgt
   have Hgt:¬IP h c (IQ h c pre)<IP h c x.1:=by show¬IP h c (IQ h c pre)<KI h c x.1 (Y h);omega
   refine⟨KeepsFrom.of_grownBy (Db BV) (fun _ e=>by cases e),trivial,⟨?_,f2,?_,f4,AK BV e5,AK BV e6⟩,AH Bh BV⟩
   ·rw[bA,AU Hgt];exact f1
   ·rw[bA,AU Hgt];exact f3
 case done=>
  rintro D ys W hD rfl ⟨⟨e1,e2,e3,e4,e5,e6⟩,Bh⟩ hK;have hD':↑w<=D:=by have:=hb4.size;omega
  gi_wp2
  rotate_left
  rotate_left
  all_goals
   refine⟨AO,.inl ⟨_,_,rfl,run_takeDeferred hK,?_⟩⟩
   exact⟨_,results_tmp2 Q _ _ _,Q,Bh.trans (belowK_b (w:=w) (Bg _) W D _ _ hD' hK Q Q)⟩
 case stop=>
  rintro D c0 pre W _ _ Ha _;exact Ha.elim
 ·simp[go_sem,IQ]
 ·simp[go_sem]
 ·simp[go_sem,IQ,IP]
 ·simp[go_sem]
 ·exact AK (AB (AB hb3 _) _) d3
 ·exact AK (AB (AB hb3 _) _) d4
def KK(h:List AQ)(c:List Bf)(need:Int):Int × Int:=
 if Tq h c≠0 then(0,Tq h c)else if AR need 0 4096=false then(0,3)else if IP h c (IQ h c (MF 16))<need then(0,17)else(IQ h c (MF 16),0)
def Ade(A:Option AS)(n:Nat)(h:List AQ)(C:Option AS)(m:Nat)(c:List Bf)(need:Int)(w:V)(hA:Arr 5 AQ.enc w w A h)(hC:Arr 2 Bf.enc w w C c)
  (hl:Y h<=4096) (hm:Y c<=4096):
  AL AE 32 #[R A (Y h) n,R C (Y c) m,U O need] w fun e w'=>e=AN (Be #[U O (KK h c need).1,U O (KK h c need).2])/\Ag w w w':=by
 by_cases hb:Tq h c=0
 ·by_cases hn:AR need 0 4096=true
  ·refine(JU.1 (Add A n h C m c need w hA hC hl hm hb hn)).mono ?_
   rintro e w'⟨rfl,hb'⟩;refine⟨?_,hb'⟩;have hv:KK h c need=(if IP h c (IQ h c (MF 16))<need then(0,17)else(IQ h c (MF 16),0)):=by simp[KK,hb,hn]
   rw[hv];split <;> rfl
  ·have Hv:Aj (KK h c need=(0,3)):=F (by unfold KK;rw[AU (qsu hb),Bd (qsu hn)])
   have Hb:=F hb;have Hn:=F (qsu hn);clear hb hn;go_enter func32,Tryz.ntmps32
   go_wp2_with(first
    | (go_at_call 92;refine(gW A n h C m c _ (hA.on (AB (AB (Ae _ _) _) _)) (hC.on (AB (AB (Ae _ _) _) _)) J J).mono ?_;rintro e w2⟨rfl,hb2⟩;rw[Hb.out])
    | (go_at_call 89;refine(DJ _ _ _ _).mono ?_;rintro e w'⟨rfl,rfl⟩;rw[Hn.out]))
   go_ret2;exact⟨by rw[Hv.out];rfl,AH (AB (AB (Ae _ _) _) _) hb2⟩
 ·have Hv:Aj (KK h c need=(0,Tq h c)):=F (by unfold KK;rw[Bd hb])
  have hb':(Tq h c != 0)=true:=qsu hb;go_enter func32,Tryz.ntmps32;go_wp2_with(go_at_call 92;refine(gW A n h C m c _ (hA.on (AB (AB (Ae _ _) _) _)) (hC.on (AB (AB (Ae _ _) _) _)) J J).mono ?_;rintro e w2 ⟨rfl,hb2⟩);go_ret2;exact⟨by rw[Hv.out];rfl,AH (AB (AB (Ae _ _) _) _) hb2⟩
end
section
variable {α:Type} (slot fault:α→Int) (a b:Int) (l:List α)
def Hu(k:Nat):Int:=match l[k]? with
 | none=>0
 | some x=>if AR (slot x) a b=false then 3 else if fault x≠0 then fault x else if k=0 then 0 else match l[k-1]? with
  | none=>0
  | some y=>if slot x<=slot y then 6 else 0
def HU:Nat->Int
 | 0=>0
 | k+1=>if HU k≠0 then HU k else Hu slot fault a b l k
def NT:Int:=HU slot fault a b l (Y l)
end
section
variable {α:Type} {slot fault:α→Int} {a b:Int} {l:List α} {k:Nat} {x y:α}
theorem ic(h:HU slot fault a b l k≠0):∀j,k<=j->HU slot fault a b l j=HU slot fault a b l k:=by
 intro j hj
 induction j with
 | zero=>grind
 | succ j ih=>
  grind [HU]
theorem YS{e:Int}(h0:HU slot fault a b l k=0)(hk:k<Y l)(he:Hu slot fault a b l k=e)(hne:e≠0):NT slot fault a b l=e:=by
 have h1:HU slot fault a b l (k+1)=e:=by grind [HU,Hu]
 unfold NT;rw[ic (k:=k+1) J _ J,h1]
theorem YT(h0:HU slot fault a b l k=0)(he:Hu slot fault a b l k=0):HU slot fault a b l (k+1)=0:=by
 grind [HU,Hu]
def at_range(hx:l[k]?=I x)(h:AR (slot x) a b=false):Hu slot fault a b l k=3:=by simp[Hu,hx,h]
def at_fault(hx:l[k]?=I x)(h:AR (slot x) a b=true)(hf:fault x≠0):Hu slot fault a b l k=fault x:=by simp[Hu,hx,h,hf]
def at_first(hx:l[0]?=I x)(h:AR (slot x) a b=true)(hf:fault x=0):Hu slot fault a b l 0=0:=by simp[Hu,hx,h,hf]
theorem at_form(hx:l[k+1]?=I x)(hy:l[k]?=I y)(h:AR (slot x) a b=true)(hf:fault x=0)(hs:slot x<=slot y):Hu slot fault a b l (k+1)=6:=by grind [Hu,AR]
theorem at_ok(hx:l[k+1]?=I x)(hy:l[k]?=I y)(h:AR (slot x) a b=true)(hf:fault x=0)(hs:¬slot x<=slot y):Hu slot fault a b l (k+1)=0:=by grind [Hu,AR]
theorem qF(h0:HU slot fault a b l k=0)(hk:Y l<=k):NT slot fault a b l=0:=by
 grind [NT,HU,ic]
theorem qG:∀{k j:Nat},HU slot fault a b l k=0->j<=k->HU slot fault a b l j=0:=by
 grind [HU,ic]
theorem ig(h:NT slot fault a b l=0)(hk:k<Y l):Hu slot fault a b l k=0:=by
 have h1:=qG (j:=k) h J;have h2:=qG (j:=k+1) h J
 grind [Hu,NT,HU]
theorem UZ(h:NT slot fault a b l=0)(hx:l[k]?=I x):a<=slot x/\slot x<=b:=by
 have hk:=(EF.1 hx).1;have h1:=ig h hk;unfold Hu at h1;rw[hx]at h1;simp only at h1;by_cases hb:AR (slot x) a b=false
 ·grind
 ·simp[AR]at hb;exact hb
theorem qH(h:NT slot fault a b l=0)(hx:l[k+1]?=I x)(hy:l[k]?=I y):slot y<slot x:=by
 have hk:=(EF.1 hx).1;have h1:=ig h hk
 grind [NT,Hu]
end
def VZ(h:CK):Int:=if AR h.basis 0 1=true then 0 else 2
def bC(_:Int):Int:=0
def Ip(x:Int):Int:=x
def NU(l:List CK)(a b:Int):Int:=NT CK.slot VZ a b l
def Cz(l:List Int)(a b:Int):Int:=NT Ip bC a b l
def qI{qs qb:Int}(h:AR qb 0 1=true):VZ ⟨qs,qb⟩=0:=by simp[VZ,h]
def qJ{qs qb:Int}(h:AR qb 0 1=false):VZ ⟨qs,qb⟩=2:=by simp[VZ,h]
def YU(qs qb:Int)(w:V):
  AL AE 295 #[Ba #[U O qs,U O qb]] w fun e w'=>e=AN (U O qs)/\Ag w w w':=by
 go_in;go_wp2;go_ret;exact⟨Q,(Ae _ _).alloc (Bg _) _⟩
def ii(qs qb:Int)(w:V):
  AL AE 296 #[Ba #[U O qs,U O qb]] w fun e w'=>e=AN (U O (VZ ⟨qs,qb⟩))/\Ag w w w':=by
 cases h:AR qb 0 1
 focus
  rw[qJ h]
 rotate_left
 focus
  rw[qI h]
 rotate_left
 all_goals
  have H:=F h;clear h;go_enter Tryz.func296,Tryz.ntmps296;go_wp2_with(go_at_call 89;refine(DJ _ _ _ _).mono ?_;rintro e w'⟨rfl,rfl⟩;rw[H.out]);go_ret;exact⟨Q,(Ae _ _).alloc (Bg _) _⟩
def Adf(A:Option AS)(n:Nat)(l:List CK)(a b:Int)(w:V)(hA:Arr 2 CK.enc w w A l)(hl:Y l<=4611686018427387904):
  AL AE 294 #[R A (Y l) n,.func (.func 295) #[] #[],U O a,U O b,.func (.func 296) #[] #[]] w fun e w'=>e=AN (U O (NU l a b))/\Ag w w w':=by
 go_in;go_wp2;go_loopw [16] (fun i wr=>∃k:Nat,k<=Y l/\i=U O k/\HU CK.slot VZ a b l k=0/\Ag w w wr) (fun i _=>Y l-(intOf i).toNat);exact⟨0,BM _,rfl,rfl,Ae _ _⟩
 obtain⟨k,hk,rfl,hall,hb⟩:=hrel;have Ea:=F hall;clear hall;by_cases hlt:k<Y l
 ·obtain⟨bk,off,qs,qb,rfl,BN,hq,c0,c1⟩:=hA.hrd hlt hb
  cases h1:AR qs a b
  ·have H1:=F h1;clear h1
   go_wp2_with(first
    | (go_at_call 295;refine gqz (YU _ _ _) fun w2 hb2=>?_)
    | (go_at_call 89;refine(DJ _ _ _ _).mono ?_;rintro e w'⟨rfl,rfl⟩;rw[H1.out]))
   go_ret;exact⟨Cg (YS Ea hlt (at_range hq H1) AC).symm,AH (AB hb _) hb2⟩
  ·have H1:=F h1;clear h1
   cases h2:AR qb 0 1
   ·have H2:=F (qJ (qs:=qs) h2)
    clear h2
    go_wp2_with(first
     | (go_at_call 295;refine gqz (YU _ _ _) fun w2 hb2=>?_;have d0:E w2 ⟨wr,0,Z⟩=I (U O qs):=AK hb2 (Cb Q);have d1:E w2 ⟨wr,1,Z⟩=I (U O qb):=AK hb2 (Cb Q))
     | (go_at_call 89;refine(DJ _ _ _ _).mono ?_;rintro e w'⟨rfl,rfl⟩;rw[H1.out])
     | (go_at_call 296;refine gqz (ii _ _ _) fun w3 hb3=>?_;rw[H2.out]))
    go_ret;exact⟨Cg (by rw[NU,YS Ea hlt (at_fault hq H1 (by rw[H2.out];decide)) (by rw[H2.out];decide),H2.out]),AH (AH (AB hb _) hb2) hb3⟩
   ·have H2:=F (qI (qs:=qs) h2)
    clear h2;by_cases RG:k=0
    ·have Hk0:=F RG
     have g0:decide (0<k)=false:=by simp;omega
     clear RG
     go_wp2_with(first
      | (go_at_call 295;refine gqz (YU _ _ _) fun w2 hb2=>?_;have d0:E w2 ⟨wr,0,Z⟩=I (U O qs):=AK hb2 (Cb Q);have d1:E w2 ⟨wr,1,Z⟩=I (U O qb):=AK hb2 (Cb Q))
      | (go_at_call 89;refine(DJ _ _ _ _).mono ?_;rintro e w'⟨rfl,rfl⟩;rw[H1.out])
      | (go_at_call 296;refine gqz (ii _ _ _) fun w3 hb3=>?_;rw[H2.out]))
     refine Jf AG AG ?_
     repeat(go_big_quiet_step (fail))
     refine GP ?_;rintro w4⟨⟨_,hb4⟩,rfl⟩;go_wp2;go_roundw;exact⟨k+1,J,qgm,YT Ea (by have e:=Hk0.out;subst e;exact at_first hq H1 H2),AH (AH (AH (AB hb _) hb2) hb3) hb4⟩;simp[intOf];omega
    ·have g0:decide (0<k)=true:=by simp;omega
     obtain⟨j,hj⟩:∃j:Nat,(k:Int)-1=j:=⟨k-1,J⟩
     have Hj:Aj (k=j+1):=F J;have GD:j<Y l:=J;obtain⟨bk',ZT,qs',qb',e',il,OX,JW,c1'⟩:=hA.hrd GD hb;simp only[Option.some.injEq,Addr.mk.injEq,and_true]at e';obtain⟨rfl,rfl⟩:=e';clear RG;cases g1:decide (qs<=qs')
     all_goals
      go_wp2_with(first
       | (go_at_call 295;refine gqz (YU _ _ _) fun w2 hb2=>?_;have d0:E w2 ⟨wr,0,Z⟩=I (U O qs):=AK hb2 (Cb Q);have d1:E w2 ⟨wr,1,Z⟩=I (U O qb):=AK hb2 (Cb Q))
       | (go_at_call 89;refine(DJ _ _ _ _).mono ?_;rintro e w'⟨rfl,rfl⟩;rw[H1.out])
       | (go_at_call 296;refine gqz (ii _ _ _) fun w3 hb3=>?_;rw[H2.out]))
      have f0:=Di (AK hb3 d0);have f1:=Di (AK hb3 d1);have qK:=AH (AH (AB (Ae _ wr) _) hb2) hb3;have p0:=Di (AK qK JW);have p1:=Di (AK qK c1');refine Jf AG AG ?_
      repeat(go_big_quiet_step ((go_at_call 295;exact Ss (YU _ _ _))))
      refine GP ?_;rintro w4⟨⟨_,hb4⟩,rfl⟩;go_wp2
     ·go_roundw;exact⟨k+1,J,qgm,YT Ea (by have e:=Hj.out;subst e;exact at_ok hq OX H1 H2 (qsu g1)),AH (AH (AH (AB hb _) hb2) hb3) hb4⟩;simp[intOf];omega
     ·go_ret
      exact⟨Cg (YS Ea hlt (by have e:=Hj.out;subst e;exact at_form hq OX H1 H2 (qsu g1)) AC).symm,AH (AH (AH (AB hb _) hb2) hb3) hb4⟩
 ·go_wp2
  go_ret;exact⟨Cg (qF Ea J).symm,hb⟩
def ip(x:Int)(w:V):AL AE 298 #[U O x] w fun e w'=>e=AN (U O x)/\w=w':=by
 go_in;go_wp2;go_ret;exact⟨Q,Q⟩
def qL(x:Int)(w:V):AL AE 299 #[U O x] w fun e w'=>e=AN (U O 0)/\w=w':=by
 go_in;go_wp2;go_ret;exact⟨Q,Q⟩
def Adg(A:Option AS)(n:Nat)(l:List Int)(a b:Int)(w:V)(hA:Arr 1 BD w w A l)(hl:Y l<=4611686018427387904):
  AL AE 297 #[R A (Y l) n,.func (.func 298) #[] #[],U O a,U O b,.func (.func 299) #[] #[]] w fun e w'=>e=AN (U O (Cz l a b))/\w=w':=by
 go_in;go_wp2;go_loop [16] (fun i=>∃k:Nat,k<=Y l/\i=U O k/\HU Ip bC a b l k=0) (fun i=>Y l-(intOf i).toNat);exact⟨0,BM _,rfl,rfl⟩
 obtain⟨k,hk,rfl,hall⟩:=hrel;have Ea:=F hall;clear hall;by_cases hlt:k<Y l
 ·obtain⟨bk,off,x,rfl,BN,hq,c0⟩:=hA.int hlt (Ae _ _)
  cases h1:AR x a b
  ·have H1:=F h1;clear h1
   go_wp2_with(first
    | (go_at_call 298;refine(ip _ _).mono ?_;rintro e w' ⟨rfl,rfl⟩)
    | (go_at_call 89;refine(DJ _ _ _ _).mono ?_;rintro e w'⟨rfl,rfl⟩;rw[H1.out]))
   go_ret;exact⟨Cg (YS Ea hlt (at_range hq H1) AC).symm,Q⟩
  ·have H1:=F h1;clear h1
   by_cases RG:k=0
   ·have Hk0:=F RG
    have g0:decide (0<k)=false:=by simp;omega
    clear RG
    go_wp2_with(first
     | (go_at_call 298;refine(ip _ _).mono ?_;rintro e w' ⟨rfl,rfl⟩)
     | (go_at_call 299;refine(qL _ _).mono ?_;rintro e w' ⟨rfl,rfl⟩)
     | (go_at_call 89;refine(DJ _ _ _ _).mono ?_;rintro e w'⟨rfl,rfl⟩;rw[H1.out]))
    go_round;exact⟨k+1,J,qgm,YT Ea (by have e:=Hk0.out;subst e;exact at_first hq H1 Q)⟩;simp[intOf];omega
   ·have g0:decide (0<k)=true:=by simp;omega
    obtain⟨j,hj⟩:∃j:Nat,(k:Int)-1=j:=⟨k-1,J⟩
    have Hj:Aj (k=j+1):=F J;have GD:j<Y l:=J;obtain⟨bk',ZT,y,e',il,OX,JW⟩:=hA.int GD (Ae _ _);simp only[Option.some.injEq,Addr.mk.injEq,and_true]at e';obtain⟨rfl,rfl⟩:=e';clear RG;cases g1:decide (x<=y)
    all_goals
     go_wp2_with(first
      | (go_at_call 298;refine(ip _ _).mono ?_;rintro e w' ⟨rfl,rfl⟩)
      | (go_at_call 299;refine(qL _ _).mono ?_;rintro e w' ⟨rfl,rfl⟩)
      | (go_at_call 89;refine(DJ _ _ _ _).mono ?_;rintro e w'⟨rfl,rfl⟩;rw[H1.out]))
    ·go_round;exact⟨k+1,J,qgm,YT Ea (by have e:=Hj.out;subst e;exact at_ok hq OX H1 Q (by simpa[Ip]using g1))⟩;simp[intOf];omega
    ·go_ret
     exact⟨Cg (YS Ea hlt (by have e:=Hj.out;subst e;exact at_form hq OX H1 Q (by simpa[Ip]using g1)) AC).symm,rfl⟩
 ·go_wp2
  go_ret;exact⟨Cg (qF Ea J).symm,Q⟩
def qM(A:Option AS)(n:Nat)(l:List CK)(a b:Int)(w:V)(hA:Arr 2 CK.enc w w A l)(hl:Y l<=4611686018427387904):
  AL AE 268 #[R A (Y l) n,U O a,U O b] w fun e w'=>e=AN (U O (NU l a b))/\Ag w w w':=by
 go_in;go_wp2_with(go_at_call 294;refine gqz (Adf A n l a b _ hA hl) fun w2 hb2=>?_);go_ret;exact⟨Q,hb2⟩
def RV(A:Option AS)(n:Nat)(l:List Int)(a b:Int)(w:V)(hA:Arr 1 BD w w A l)(hl:Y l<=4611686018427387904):
  AL AE 269 #[R A (Y l) n,U O a,U O b] w fun e w'=>e=AN (U O (Cz l a b))/\w=w':=by
 go_in;go_wp2_with(go_at_call 297;refine(Adg A n l a b _ hA hl).mono ?_;rintro e w' ⟨rfl,rfl⟩);go_ret;exact⟨Q,Q⟩
section
variable{BK:Bool}{Cf b f pc:Int}{j k:Nat}{l:List CK}{p:List AQ}
def Xm(p:List AQ)(l:List CK)(k:Nat):List Int:=match l[k]? with
 | none=>[]
 | some h=>match p[h.slot.toNat]? with
  | none=>[]
  | some x=>if x.seen=true/\x.basis=h.basis then[h.slot]else[]
def KM(p:List AQ)(l:List CK):Nat->List Int
 | 0=>[]
 | k+1=>KM p l k++ Xm p l k
theorem iq(p:List AQ)(l:List CK):∀n,(KM p l n).length<=n
 | 0=>Bg _
 | n+1=>by
  have:=iq p l n
  have h1:(Xm p l n).length<=1:=by
   unfold Xm;split
   ·simp
   ·split
    ·simp
    ·split <;> simp
  rw[KM,KZ];omega
def Adh(hq:l[k]?=I ⟨(j:Int),b⟩)(hp:p[j]?=I ⟨b,BK,pc,Cf,true⟩):KM p l (k+1)=KM p l k++ [(j:Int)]:=by
 simp[KM,Xm,hq,hp]
theorem qN{pb:Int}{ps:Bool}(hq:l[k]?=I ⟨(j:Int),b⟩)(hp:p[j]?=I ⟨pb,BK,pc,Cf,ps⟩)(h:ps=false\/pb≠b):KM p l (k+1)=KM p l k:=by
 have:¬(ps=true/\pb=b):=by grind
 simp[KM,Xm,hq,hp,this]
def KO(p:List AQ)(l:List CK)(f:Int):Int:=if Bz AQ.ok p≠0 then Bz AQ.ok p else if AR f 0 4096=false then 3 else NU l f (Y p-1)
def KP(p:List AQ)(l:List CK)(f:Int):List Int:=if Bz AQ.ok p=0/\AR f 0 4096=true/\NU l f (Y p-1)=0 then KM p l (Y l)else[]
theorem qO(p:List AQ)(l:List CK)(f:Int):(KP p l f).length<=Y l:=by
 grind [KP,iq]
theorem Gr:(prog.info? 3).map (fun i=>(i.zero,i.size,i.bytes))=I (I (U O 0),1,8):=AG
def Adi(A:Option AS)(n:Nat)(p:List AQ)(C:Option AS)(m:Nat)(l:List CK)(f:Int)(w:V)(hA:Arr 5 AQ.enc w w A p)(hC:Arr 2 CK.enc w w C l)(hl:Y l<=4096)
  (h0:Bz AQ.ok p=0) (h1:AR f 0 4096=true) (h2:NU l f (Y p-1)=0):
  AL AE 222 #[R A (Y p) n,R C (Y l) m,U O f] w fun e w'=>∃v,e=AN (Be #[v,U O 0])/\Own w' w 3 1 BD v (KM p l (Y l))/\Ag w w w':=by
 have hlen:=(Lb.1 h0).1;have H0:=F h0;have H1:=F h1;have H2:=F h2;simp only[AR,decide_eq_true_eq]at h1;obtain⟨f1,f2⟩:=h1;clear h0 h2;go_in
 go_wp2_with(first
  | (go_at_call 139;refine gqz (IF A n p _ hA J) fun w2 hb2=>?_;rw[H0.out])
  | (go_at_call 89;refine mqv (DJ _ _ _ _) ?_;rw[H1.out])
  | (go_at_call 268;refine gqz (qM C m l f _ _ (hC.on hb2) J) fun w3 hb3=>?_;rw[H2.out]))
 go_loopw [10,33] (fun v i wr=>∃k:Nat,k<=Y l/\i=U O k/\Own wr w 3 1 BD v (KM p l k)/\Ag w w wr) (fun _ i _=>Y l-(intOf i).toNat);exact⟨0,BM _,rfl,Own.nil,AH hb2 hb3⟩
 obtain⟨k,hk,rfl,hown,hb⟩:=hrel;have hle:=iq p l k;by_cases hlt:k<Y l
 ·obtain⟨bk,off,qs,qb,rfl,BN,hq,c0,c1⟩:=hC.hrd hlt hb
  have hr:=UZ H2 hq;obtain⟨j,rfl⟩:∃j:Nat,qs=(j:Int):=⟨qs.toNat,by simp at hr;omega⟩
  have GD:j<Y p:=by simp at hr;omega
  clear hr;obtain⟨bk2,TQ,pb,BK,pc,Cf,ps,rfl,VY,hp,p0,p1,p2,p3,p4⟩:=hA.pls GD hb;have hs:=hb.size;have Qp:bk2<↑wr:=J;cases ps
  ·go_wp2
   go_roundw
   case rel=>exact⟨k+1,J,qgm,by rw[qN hq hp (.inl rfl)];exact(hown.alloc _).alloc _,AB (AB hb _) _⟩
   case measure=>simp[intOf];omega
  ·by_cases FR:pb=qb
   ·subst FR
    go_wp2_with(at_builtin;refine Ef underlying37 Gr (KM p l k) (j:Int) ((hown.alloc _).alloc _) (On _) J qsm ?_;intro v' w5 QQ Bh);go_roundw;exact⟨k+1,J,qgm,by rw[Adh hq hp];exact QQ,(AB (AB hb _) _).trans Bh⟩;simp[intOf];omega
   ·have g:(pb == qb)=false:=qsu FR
    go_wp2;go_roundw
    case rel=>exact⟨k+1,J,qgm,by rw[qN hq hp (.inr FR)];exact(hown.alloc _).alloc _,AB (AB hb _) _⟩
    case measure=>simp[intOf];omega
 ·go_wp2
  go_ret2;obtain rfl:k=Y l:=J;exact⟨_,Q,hown,hb⟩
def Adj(h:Bz AQ.ok p≠0):KO p l f=Bz AQ.ok p/\KP p l f=[]:=by simp[KO,KP,h]
def Adk(h:Bz AQ.ok p=0)(h1:AR f 0 4096=false):KO p l f=3/\KP p l f=[]:=by simp[KO,KP,h,h1]
def Adl(h:Bz AQ.ok p=0)(h1:AR f 0 4096=true)(h2:NU l f (Y p-1)≠0):KO p l f=NU l f (Y p-1)/\KP p l f=[]:=by simp[KO,KP,h,h1,h2]
def Adm(h:Bz AQ.ok p=0)(h1:AR f 0 4096=true)(h2:NU l f (Y p-1)=0):KO p l f=0/\KP p l f=KM p l (Y l):=by simp[KO,KP,h,h1,h2]
def Adn(A:Option AS)(n:Nat)(p:List AQ)(C:Option AS)(m:Nat)(l:List CK)(f:Int)(w:V)(hA:Arr 5 AQ.enc w w A p)(hC:Arr 2 CK.enc w w C l)(hp:Y p<=4611686018427387904)(hl:Y l<=4096):
  AL AE 222 #[R A (Y p) n,R C (Y l) m,U O f] w fun e w'=>∃v,e=AN (Be #[v,U O (KO p l f)])/\Own w' w 3 1 BD v (KP p l f)/\Ag w w w':=by
 by_cases h0:Bz AQ.ok p=0
 ·cases h1:AR f 0 4096
  ·obtain⟨e1,e2⟩:=Adk (l:=l) h0 h1
   rw[e1,e2];have H0:=F h0;have H1:=F h1;clear h0 h1 e1 e2;go_in
   go_wp2_with(first
    | (go_at_call 139;refine gqz (IF A n p _ hA hp) fun w2 hb2=>?_;rw[H0.out])
    | (go_at_call 89;refine mqv (DJ _ _ _ _) ?_;rw[H1.out]))
   go_ret2;exact⟨_,Q,Own.nil,hb2⟩
  ·by_cases h2:NU l f (Y p-1)=0
   ·obtain⟨e1,e2⟩:=Adm h0 h1 h2
    rw[e1,e2];exact Adi A n p C m l f w hA hC hl h0 h1 h2
   ·obtain⟨e1,e2⟩:=Adl h0 h1 h2
    rw[e1,e2];have H0:=F h0;have H1:=F h1;have W5:(NU l f (Y p-1) != 0)=true:=qsu h2;clear h0 h1 h2 e1 e2;go_in
    go_wp2_with(first
     | (go_at_call 139;refine gqz (IF A n p _ hA hp) fun w2 hb2=>?_;rw[H0.out])
     | (go_at_call 89;refine mqv (DJ _ _ _ _) ?_;rw[H1.out])
     | (go_at_call 268;refine gqz (qM C m l f _ _ (hC.on hb2) J) fun w3 hb3=>?_))
    go_ret2;exact⟨_,Q,Own.nil,AH hb2 hb3⟩
 ·obtain⟨e1,e2⟩:=Adj (l:=l) (f:=f) h0
  rw[e1,e2];have h0':(Bz AQ.ok p != 0)=true:=qsu h0;clear e1 e2;go_in;go_wp2_with(go_at_call 139;refine gqz (IF A n p _ hA hp) fun w2 hb2=>?_);go_ret2;exact⟨_,Q,Own.nil,hb2⟩
theorem Ints_same(A B:Option AS)(n m:Nat)(l:List Int)(w:V)(hA:Arr 1 BD w w A l)(hB:Arr 1 BD w w B l)(hl:Y l<=4611686018427387904):
  AL AE 47 #[R A (Y l) n,R B (Y l) m] w fun e w'=>e=AN (Av true)/\Ag w w w':=by
 go_in;go_wp2;go_loopw [5] (fun i wr=>∃k:Nat,k<=Y l/\i=U O k/\Ag w w wr) (fun i _=>Y l-(intOf i).toNat);exact⟨0,BM _,rfl,Ae _ _⟩
 obtain⟨k,hk,rfl,hb⟩:=hrel;by_cases hlt:k<Y l
 ·obtain⟨b,off,x,rfl,BN,hq,c0⟩:=hA.int hlt hb
  obtain⟨b',ZT,x',rfl,il,OX,JW⟩:=hB.int hlt hb;obtain rfl:x=x':=by have:=hq.out.symm.trans OX;simpa using this
  have d0:=Di c0;have d0':=Di JW;go_wp2;refine qrl ?_;rintro w1⟨⟨_,hb1⟩,rfl⟩;go_wp2;go_roundw;exact⟨k+1,J,qgm,AH hb hb1⟩;simp[intOf];omega
 ·go_wp2
  go_ret;exact⟨Q,hb⟩
end
section
variable{BK ps:Bool}{Cf c f pb pc x:Int}{j k:Nat}{l:List Int}{p:List AQ}
theorem Yn:(prog.info? 4).map (fun i=>(i.zero,i.size,i.bytes))=I (I (Av false),1,1):=AG
def Jw(p:List AQ)(s:Int):Int:=(p[s.toNat]?.map AQ.cls).getD 0
def V0(p:List AQ)(s:Int):Bool:=(p[s.toNat]?.map AQ.bit).getD false
def MH(p:List AQ)(l:List Int)(c:Int)(k:Nat):List Int:=(l.take k).filter fun s=>decide (Jw p s=c)
def MI(p:List AQ)(l:List Int)(c:Int):Int:=if Bz AQ.ok p≠0 then Bz AQ.ok p else if AR c 0 2=false then 2 else Cz l 0 (Y p-1)
def LC(p:List AQ)(l:List Int)(c:Int):List Int:=if MI p l c=0 then MH p l c (Y l)else[]
def RW(p:List AQ)(l:List Int):Int:=if Bz AQ.ok p≠0 then Bz AQ.ok p else Cz l 0 (Y p-1)
def KQ(p:List AQ)(l:List Int):List Bool:=if RW p l=0 then l.map (V0 p)else[]
theorem Ado(hx:l[k]?=I x)(h:Jw p x=c):MH p l c (k+1)=MH p l c k++ [x]:=by
 grind [MH,Jw,N8]
def Adp(hx:l[k]?=I x)(h:¬Jw p x=c):MH p l c (k+1)=MH p l c k:=by
 simp[MH,N8 hx,List.filter_append,h]
theorem Adq(p:List AQ)(l:List Int)(c:Int)(k:Nat):(MH p l c k).length<=k:=by
 grind [MH]
def qP(h:p[j]?=I ⟨pb,BK,pc,Cf,ps⟩):Jw p (j:Int)=pc:=by simp[Jw,h]
def Adr(h:p[j]?=I ⟨pb,BK,pc,Cf,ps⟩):V0 p (j:Int)=BK:=by simp[V0,h]
def Ads(A:Option AS)(n:Nat)(p:List AQ)(C:Option AS)(m:Nat)(l:List Int)(f:Int)(w:V)(hA:Arr 5 AQ.enc w w A p)(hC:Arr 1 BD w w C l)(hl:Y l<=4096)
  (h0:Bz AQ.ok p=0) (h1:AR f 0 2=true) (h2:Cz l 0 (Y p-1)=0):
  AL AE 223 #[R A (Y p) n,R C (Y l) m,U O f] w fun e w'=>∃v,e=AN (Be #[v,U O 0])/\Own w' w 3 1 BD v (MH p l f (Y l))/\Ag w w w':=by
 have hlen:=(Lb.1 h0).1;have H0:=F h0;have H1:=F h1;have H2:=F h2;clear h0 h1 h2;go_in
 go_wp2_with(first
  | (go_at_call 139;refine gqz (IF A n p _ hA J) fun w2 hb2=>?_;rw[H0.out])
  | (go_at_call 89;refine mqv (DJ _ _ _ _) ?_;rw[H1.out])
  | (go_at_call 269;refine mqv (RV C m l 0 _ _ (hC.on hb2) J) ?_;rw[H2.out]))
 go_loopw [10,31] (fun v i wr=>∃k:Nat,k<=Y l/\i=U O k/\Own wr w 3 1 BD v (MH p l f k)/\Ag w w wr) (fun _ i _=>Y l-(intOf i).toNat);exact⟨0,BM _,rfl,Own.nil,hb2⟩
 obtain⟨k,hk,rfl,hown,hb⟩:=hrel;have hle:=Adq p l f k;by_cases hlt:k<Y l
 ·obtain⟨bk,off,x,rfl,BN,hq,c0⟩:=hC.int hlt hb
  have hr:=UZ H2 hq;obtain⟨j,rfl⟩:∃j:Nat,x=(j:Int):=⟨x.toNat,by simp[Ip]at hr;omega⟩
  have GD:j<Y p:=by simp[Ip]at hr;omega
  clear hr;obtain⟨bk2,TQ,pb,BK,pc,Cf,ps,rfl,VY,hp,p0,p1,p2,p3,p4⟩:=hA.pls GD hb;by_cases DG:pc=f
  ·have g:(pc == f)=true:=qsu DG
   have Hc:=F ((qP hp).trans DG);clear DG;go_wp2_with(at_builtin;refine Ef underlying37 Gr (MH p l f k) (j:Int) hown (On _) J hb.size ?_;intro v' w5 QQ Bh);go_roundw
   case rel=>exact⟨k+1,J,qgm,by rw[Ado hq Hc];exact QQ,hb.trans Bh⟩
   case measure=>simp[intOf];omega
  ·have g:(pc == f)=false:=qsu DG
   have Hc:Aj (¬Jw p (j:Int)=f):=F (by rw[qP hp];exact DG);clear DG;go_wp2;go_roundw
   case rel=>exact⟨k+1,J,qgm,by rw[Adp hq Hc];exact hown,hb⟩
   case measure=>simp[intOf];omega
 ·go_wp2
  go_ret2;obtain rfl:k=Y l:=J;exact⟨_,Q,hown,hb⟩
def Adt(h:Bz AQ.ok p≠0):MI p l f=Bz AQ.ok p/\LC p l f=[]:=by simp[LC,MI,h]
def Adu(h:Bz AQ.ok p=0)(h1:AR f 0 2=false):MI p l f=2/\LC p l f=[]:=by simp[LC,MI,h,h1]
def Adv(h:Bz AQ.ok p=0)(h1:AR f 0 2=true)(h2:Cz l 0 (Y p-1)≠0):MI p l f=Cz l 0 (Y p-1)/\LC p l f=[]:=by simp[LC,MI,h,h1,h2]
def Adw(h:Bz AQ.ok p=0)(h1:AR f 0 2=true)(h2:Cz l 0 (Y p-1)=0):MI p l f=0/\LC p l f=MH p l f (Y l):=by simp[LC,MI,h,h1,h2]
def Adx(A:Option AS)(n:Nat)(p:List AQ)(C:Option AS)(m:Nat)(l:List Int)(f:Int)(w:V)(hA:Arr 5 AQ.enc w w A p)(hC:Arr 1 BD w w C l)(hp:Y p<=4611686018427387904)(hl:Y l<=4096):
  AL AE 223 #[R A (Y p) n,R C (Y l) m,U O f] w fun e w'=>∃v,e=AN (Be #[v,U O (MI p l f)])/\Own w' w 3 1 BD v (LC p l f)/\Ag w w w':=by
 by_cases h0:Bz AQ.ok p=0
 ·cases h1:AR f 0 2
  ·obtain⟨e1,e2⟩:=Adu (l:=l) h0 h1
   rw[e1,e2];have H0:=F h0;have H1:=F h1;clear h0 h1 e1 e2;go_in
   go_wp2_with(first
    | (go_at_call 139;refine gqz (IF A n p _ hA hp) fun w2 hb2=>?_;rw[H0.out])
    | (go_at_call 89;refine mqv (DJ _ _ _ _) ?_;rw[H1.out]))
   go_ret2;exact⟨_,Q,Own.nil,hb2⟩
  ·by_cases h2:Cz l 0 (Y p-1)=0
   ·obtain⟨e1,e2⟩:=Adw h0 h1 h2
    rw[e1,e2];exact Ads A n p C m l f w hA hC hl h0 h1 h2
   ·obtain⟨e1,e2⟩:=Adv h0 h1 h2
    rw[e1,e2];have H0:=F h0;have H1:=F h1;have W5:(Cz l 0 (Y p-1) != 0)=true:=qsu h2;clear h0 h1 h2 e1 e2;go_in
    go_wp2_with(first
     | (go_at_call 139;refine gqz (IF A n p _ hA hp) fun w2 hb2=>?_;rw[H0.out])
     | (go_at_call 89;refine mqv (DJ _ _ _ _) ?_;rw[H1.out])
     | (go_at_call 269;refine mqv (RV C m l 0 _ _ (hC.on hb2) J) ?_))
    go_ret2;exact⟨_,Q,Own.nil,hb2⟩
 ·obtain⟨e1,e2⟩:=Adt (l:=l) (f:=f) h0
  rw[e1,e2];have h0':(Bz AQ.ok p != 0)=true:=qsu h0;clear e1 e2;go_in;go_wp2_with(go_at_call 139;refine gqz (IF A n p _ hA hp) fun w2 hb2=>?_);go_ret2;exact⟨_,Q,Own.nil,hb2⟩
end
section
variable{l:List Int}{p:List AQ}
def Ady(h:Bz AQ.ok p≠0):RW p l=Bz AQ.ok p/\KQ p l=[]:=by simp[KQ,RW,h]
def Adz(h:Bz AQ.ok p=0)(h2:Cz l 0 (Y p-1)≠0):RW p l=Cz l 0 (Y p-1)/\KQ p l=[]:=by simp[KQ,RW,h,h2]
def AdA(h:Bz AQ.ok p=0)(h2:Cz l 0 (Y p-1)=0):RW p l=0/\KQ p l=l.map (V0 p):=by simp[KQ,RW,h,h2]
def qQ{α β:Type}{l:List α}{k:Nat}{x:α}(f:α->β)(h:l[k]?=I x):(l.map f)[k]?=I (f x):=by simp[h]
def AdB(A:Option AS)(n:Nat)(p:List AQ)(C:Option AS)(m:Nat)(l:List Int)(w:V)(hA:Arr 5 AQ.enc w w A p)(hC:Arr 1 BD w w C l)(hl:Y l<=4096)
  (h0:Bz AQ.ok p=0) (h2:Cz l 0 (Y p-1)=0):
  AL AE 229 #[R A (Y p) n,R C (Y l) m] w fun e w'=>∃v,e=AN (Be #[v,U O 0])/\Own w' w 4 1 C4 v (l.map (V0 p))/\Ag w w w':=by
 have hlen:=(Lb.1 h0).1;have H0:=F h0;have H2:=F h2;clear h0 h2;obtain⟨L,hL⟩:=Az (l.map (V0 p));have IR:Aj (Y L=Y l):=F (by rw[<-hL];simp);have HL:=F hL;rw[hL];clear hL;go_in
 go_wp2_with(first
  | (go_at_call 139;refine gqz (IF A n p _ hA J) fun w2 hb2=>?_;rw[H0.out])
  | (go_at_call 269;refine mqv (RV C m l 0 _ _ (hC.on hb2) J) ?_;rw[H2.out])
  | (at_make;refine Nb Tryz.underlying44 Yn Value.bool false (Y l) ?_;intro w3 Km hb3))
 have YV:=hb2.size;go_loopw [29] (fun i wr=>∃k:Nat,k<=Y l/\i=U O k/\Own wr w 4 1 C4 (R (I ⟨w2,0,Z⟩) (Y l) (Y l)) (Dm L false k)/\Ag w w wr) (fun i _=>Y l-(intOf i).toNat);exact⟨0,BM _,rfl,by rw[Ug,IR.out];exact Km.down YV,AH hb2 hb3⟩
 obtain⟨k,hk,rfl,hown,hb⟩:=hrel;have Cw:Aj ((Dm L false k).length=Y l):=F (by rw[Sv _ _ (qrf IR.out hk),IR.out]);by_cases hlt:k<Y l
 ·obtain⟨bk,off,x,rfl,BN,hq,c0⟩:=hC.int hlt hb
  have hr:=UZ H2 hq;obtain⟨j,rfl⟩:∃j:Nat,x=(j:Int):=⟨x.toNat,by simp[Ip]at hr;omega⟩
  have GD:j<Y p:=by simp[Ip]at hr;omega
  clear hr;obtain⟨bk2,TQ,pb,BK,pc,Cf,ps,rfl,VY,hp,p0,p1,p2,p3,p4⟩:=hA.pls GD hb;have d0:=Own.Eg (f:=Value.bool) hown Cw (Ts false (qrf IR.out hlt));have d1:=Own.Dc (f:=Value.bool) hown Cw k
  have Hs:Aj (Own (Ai wr ⟨w2,k,Z⟩ (Av BK)) w 4 1 C4 (R (I ⟨w2,0,Z⟩) (Y l) (Y l)) (Dm L false (k+1))):=F (by
   have hx:L[k]?=I BK:=by rw[<-HL.out,qQ _ hq,Adr hp]
   rw[<-Tr false hx];exact Own.Ft (f:=Value.bool) hown Cw k BK)
  go_wp2;go_roundw;exact⟨k+1,J,qgm,Hs.out,hb.setCell YV _⟩;simp[intOf];omega
 ·go_wp2
  go_ret2;exact⟨_,Q,by rw[Uh L false (by rw[IR.out];omega)]at hown;exact hown,hb⟩
def qR(A:Option AS)(n:Nat)(p:List AQ)(C:Option AS)(m:Nat)(l:List Int)(w:V)(hA:Arr 5 AQ.enc w w A p)(hC:Arr 1 BD w w C l)(hp:Y p<=4611686018427387904)(hl:Y l<=4096):
  AL AE 229 #[R A (Y p) n,R C (Y l) m] w fun e w'=>∃v,e=AN (Be #[v,U O (RW p l)])/\Own w' w 4 1 C4 v (KQ p l)/\Ag w w w':=by
 by_cases h0:Bz AQ.ok p=0
 ·by_cases h2:Cz l 0 (Y p-1)=0
  ·obtain⟨e1,e2⟩:=AdA h0 h2
   rw[e1,e2];exact AdB A n p C m l w hA hC hl h0 h2
  ·obtain⟨e1,e2⟩:=Adz h0 h2
   rw[e1,e2];have H0:=F h0;have W5:(Cz l 0 (Y p-1) != 0)=true:=qsu h2;clear h0 h2 e1 e2;go_in
   go_wp2_with(first
    | (go_at_call 139;refine gqz (IF A n p _ hA hp) fun w2 hb2=>?_;rw[H0.out])
    | (go_at_call 269;refine mqv (RV C m l 0 _ _ (hC.on hb2) J) ?_))
   go_ret2;exact⟨_,Q,Own.nil,hb2⟩
 ·obtain⟨e1,e2⟩:=Ady (l:=l) h0
  rw[e1,e2];have h0':(Bz AQ.ok p != 0)=true:=qsu h0;clear e1 e2;go_in;go_wp2_with(go_at_call 139;refine gqz (IF A n p _ hA hp) fun w2 hb2=>?_);go_ret2;exact⟨_,Q,Own.nil,hb2⟩
end
section
variable{c:List Bf}{k:Nat}{l:List Int}{s x:Int}
def YW(c:List Bf)(j:Int):Int:=(c[j.toNat]?.map Bf.kind).getD 0
def W7(c:List Bf)(s:Int)(i:Int):Bool:=decide (YW c (i+s)=2)
def RX(c:List Bf)(s:Int)(i:Int):Bool:=GR (YW c (i+s))
def MJ(c:List Bf)(s:Int)(l:List Int):Int:=if Bz Bf.ok c≠0 then Bz Bf.ok c else if AR s (-16) 16=false then 3 else if Cz l (max 0 (-s)) (Y c-1-s)≠0 then Cz l (max 0 (-s)) (Y c-1-s)else if l.all (RX c s)=true then 0 else 9
def Iq(c:List Bf)(s:Int)(l:List Int):List Bool:=if MJ c s l=0 then l.map (W7 c s)else[]
theorem ir(c:List Bf)(s:Int)(l:List Int):(Iq c s l).length<=Y l:=by grind [Iq]
theorem AdC{j:Nat}{qb qk:Int}(h:c[j]?=I ⟨qb,qk⟩)(e:x=(j:Int)):YW c x=qk:=by grind [YW]
def W9(c:List Bf)(s:Int)(l:List Int):Int:=if l.all (RX c s)=true then 0 else 9
def Wa(c:List Bf)(s:Int)(l:List Int):List Bool:=if l.all (RX c s)=true then l.map (W7 c s)else[]
theorem qS(hx:l[k]?=I x)(h:RX c s x=false):W9 c s l=9/\Wa c s l=[]:=by
 grind [W9,Wa,RX]
def qT(hk:Y l<=k)(h:(l.take k).all (RX c s)=true):W9 c s l=0/\Wa c s l=l.map (W7 c s):=by
 rw[EG hk]at h;simp only[W9,Wa,h];simp
def AdD(h:Bz Bf.ok c≠0):MJ c s l=Bz Bf.ok c/\Iq c s l=[]:=by simp[Iq,MJ,h]
def AdE(h:Bz Bf.ok c=0)(h1:AR s (-16) 16=false):MJ c s l=3/\Iq c s l=[]:=by simp[Iq,MJ,h,h1]
def AdF(h:Bz Bf.ok c=0)(h1:AR s (-16) 16=true)(h2:Cz l (max 0 (-s)) (Y c-1-s)≠0):MJ c s l=Cz l (max 0 (-s)) (Y c-1-s)/\Iq c s l=[]:=by simp[Iq,MJ,h,h1,h2]
theorem AdG(h:Bz Bf.ok c=0)(h1:AR s (-16) 16=true)(h2:Cz l (max 0 (-s)) (Y c-1-s)=0):MJ c s l=W9 c s l/\Iq c s l=Wa c s l:=by
 grind [MJ,W9,Iq,Wa,Bz,Bf.ok,AR,Cz]
def qU(s:Int):(0<=s/\max 0 (-s)=0)\/(s<0/\max 0 (-s)=-s):=J
def AdH(A:Option AS)(n:Nat)(c:List Bf)(s:Int)(C:Option AS)(m:Nat)(l:List Int)(w:V)(hA:Arr 2 Bf.enc w w A c)(hC:Arr 1 BD w w C l)(hl:Y l<=4096)
  (h0:Bz Bf.ok c=0) (h1:AR s (-16) 16=true) (h2:Cz l (max 0 (-s)) (Y c-1-s)=0):
  AL AE 225 #[R A (Y c) n,U O s,R C (Y l) m] w fun e w'=>∃v,e=AN (Be #[v,U O (W9 c s l)])/\Own w' w 4 1 C4 v (Wa c s l)/\Ag w w w':=by
 have hlen:=(Lb.1 h0).1;have H0:=F h0;have H1:=F h1;have H3:=F h2;simp only[AR,decide_eq_true_eq]at h1;obtain⟨s1,s2⟩:=h1;obtain⟨L,hL⟩:=Az (l.map (W7 c s));have IR:Aj (Y L=Y l):=F (by rw[<-hL];simp);have HL:=F hL;clear h0 hL;rcases qU s with⟨hs,e⟩ | ⟨hs,e⟩
 all_goals
  rw[e]at h2;have H2:=F h2;clear h2 e;go_enter Tryz.func225,Tryz.ntmps225
  go_wp2_with(first
   | (go_at_call 140;refine gqz (SD A n c _ hA J) fun w2 hb2=>?_;rw[H0.out])
   | (go_at_call 267;refine mqv (VB _ _) ?_;rw[H1.out])
   | (go_at_call 269;refine mqv (RV C m l _ _ _ (hC.on hb2) J) ?_;rw[H2.out])
   | (at_make;refine Nb Tryz.underlying44 Yn Value.bool false (Y l) ?_;intro w3 Km hb3))
  have YV:=hb2.size;go_loopw [39] (fun i wr=>∃k:Nat,k<=Y l/\i=U O k/\(l.take k).all (RX c s)=true/\Own wr w 4 1 C4 (R (I ⟨w2,0,Z⟩) (Y l) (Y l)) (Dm L false k)/\Ag w w wr) (fun i _=>Y l-(intOf i).toNat);exact⟨0,BM _,rfl,AO,by rw[Ug,IR.out];exact Km.down YV,AH hb2 hb3⟩
  obtain⟨k,hk,rfl,hall,hown,hb⟩:=hrel;have Ea:=F hall;clear hall;have Cw:Aj ((Dm L false k).length=Y l):=F (by rw[Sv _ _ (qrf IR.out hk),IR.out]);by_cases hlt:k<Y l
  ·obtain⟨bk,off,x,rfl,BN,hq,c0⟩:=hC.int hlt hb
   have hr:=UZ H3 hq;obtain⟨j,hj⟩:∃j:Nat,x+s=(j:Int):=⟨(x+s).toNat,by simp[Ip]at hr;omega⟩
   have GD:j<Y c:=by simp[Ip]at hr;omega
   clear hr;obtain⟨bk2,TQ,qb,qk,rfl,VY,hp,p0,p1⟩:=hA.clk GD hb;have Hk:=F (AdC hp hj);cases MD:GR qk
   ·have Hs:=F MD;clear MD
    have Hn:Aj (RX c s x=false):=F (by unfold RX;rw[Hk.out];exact Hs.out);go_wp2_with(go_at_call 141;refine gqz (TA _ _ _) fun w4 hb4=>?_;rw[Hs.out]);go_ret2;exact⟨_,by rw[(qS hq Hn).1];rfl,by rw[(qS hq Hn).2];exact Own.nil,AH hb hb4⟩
   ·have Hs:=F MD;clear MD
    have Hn:Aj (RX c s x=true):=F (by unfold RX;rw[Hk.out];exact Hs.out);go_wp2_with(go_at_call 141;refine gqz (TA _ _ _) fun w4 hb4=>?_;rw[Hs.out];have p1':=AK hb4 p1;have d0:=Own.Eg (f:=Value.bool) (hown.below hb4) Cw (Ts false (qrf IR.out hlt));have d1:=Own.Dc (f:=Value.bool) (hown.below hb4) Cw k);have hx:L[k]?=I (decide (qk=2)):=by rw[<-HL.out,qQ _ hq];unfold W7;rw[Hk.out]
    have Hf:=F (Own.Ft (f:=Value.bool) (hown.below hb4) Cw k (decide (qk=2)));go_roundw
    case rel=>exact⟨k+1,J,qgm,Vu hq Ea Hn,by rw[<-Tr false hx];exact Hf.out,(AH hb hb4).setCell YV _⟩
    case measure=>simp[intOf];omega
  ·go_wp2
   go_ret2;exact⟨_,by rw[(qT J Ea).1];rfl,by rw[(qT J Ea).2,HL.out];rw[Uh L false (by rw[IR.out];omega)]at hown;exact hown,hb⟩
def qV(A:Option AS)(n:Nat)(c:List Bf)(s:Int)(C:Option AS)(m:Nat)(l:List Int)(w:V)(hA:Arr 2 Bf.enc w w A c)(hC:Arr 1 BD w w C l)(DG:Y c<=4611686018427387904)(hl:Y l<=4096):
  AL AE 225 #[R A (Y c) n,U O s,R C (Y l) m] w fun e w'=>∃v,e=AN (Be #[v,U O (MJ c s l)])/\Own w' w 4 1 C4 v (Iq c s l)/\Ag w w w':=by
 by_cases h0:Bz Bf.ok c=0
 ·cases h1:AR s (-16) 16
  ·obtain⟨e1,e2⟩:=AdE (l:=l) h0 h1
   rw[e1,e2];have H0:=F h0;have H1:=F h1;clear h0 h1 e1 e2;go_enter Tryz.func225,Tryz.ntmps225
   go_wp2_with(first
    | (go_at_call 140;refine gqz (SD A n c _ hA DG) fun w2 hb2=>?_;rw[H0.out])
    | (go_at_call 267;refine mqv (VB _ _) ?_;rw[H1.out]))
   go_ret2;exact⟨_,Q,Own.nil,hb2⟩
  ·by_cases h2:Cz l (max 0 (-s)) (Y c-1-s)=0
   ·obtain⟨e1,e2⟩:=AdG h0 h1 h2
    rw[e1,e2];exact AdH A n c s C m l w hA hC hl h0 h1 h2
   ·obtain⟨e1,e2⟩:=AdF h0 h1 h2
    rw[e1,e2];have hlen:=(Lb.1 h0).1;have H0:=F h0;have H1:=F h1;simp only[AR,decide_eq_true_eq]at h1;obtain⟨s1,s2⟩:=h1;clear h0 e1 e2;rcases qU s with⟨hs,e⟩ | ⟨hs,e⟩
    focus
     rw[e]at h2 ⊢
     have W5:(Cz l 0 (Y c-1-s) != 0)=true:=qsu h2
    rotate_left
    focus
     rw[e]at h2 ⊢
     have W5:(Cz l (-s) (Y c-1-s) != 0)=true:=qsu h2
    rotate_left
    all_goals
     clear h2 e;go_enter Tryz.func225,Tryz.ntmps225
     go_wp2_with(first
      | (go_at_call 140;refine gqz (SD A n c _ hA J) fun w2 hb2=>?_;rw[H0.out])
      | (go_at_call 267;refine mqv (VB _ _) ?_;rw[H1.out])
      | (go_at_call 269;refine mqv (RV C m l _ _ _ (hC.on hb2) J) ?_))
     go_ret2;exact⟨_,Q,Own.nil,hb2⟩
 ·obtain⟨e1,e2⟩:=AdD (s:=s) (l:=l) h0
  rw[e1,e2];have h0':(Bz Bf.ok c != 0)=true:=qsu h0;clear e1 e2;go_enter Tryz.func225,Tryz.ntmps225;go_wp2_with(go_at_call 140;refine gqz (SD A n c _ hA DG) fun w2 hb2=>?_);go_ret2;exact⟨_,Q,Own.nil,hb2⟩
end
section
variable{G:List Int}{i:Int}{k n:Nat}{x:AQ}{y:Bool}
def ML:List Int:=[0,0,0,0,0,0,0,0,0]
def Df(x:Int):An:= U O x
def Jy(G:List Int)(i:Nat):List Int:=G.set i (G[i]?.getD 0+1)
def Xo{i:Nat}{x:Int}(h:G[i]?=I x):Jy G i=G.set i (x+1):=by simp[Jy,h]
theorem qW(G:List Int)(i:Nat):(Jy G i).length=Y G:=by simp[Jy]
def Ko(G:List Int)(n:Nat):Prop:=∀(i:Nat) (x:Int),G[i]?=I x->0<=x/\x<=(n:Int)
theorem AdO:Ko ML 0:=by
 intro i x h;have:=DI h
 simp_all [ML]
theorem Ko.mono{m:Nat}(h:Ko G n)(hm:n<=m):Ko G m:=fun i x hx=>by grind [Ko]
theorem Ko.bE(h:Ko G n)(j:Nat):Ko (Jy G j) (n+1):=by
 grind [Ko,Jy]
def GJ(p:List AQ)(f:Int):Nat->List Int
 | 0=>ML
 | k+1=>match p[k]? with
  | none=>GJ p f k
  | some x=>if f<=(k:Int)/\x.seen=true then Jy (GJ p f k) (x.cls.toNat*3)else GJ p f k
def GK(p:List AQ)(s:List Int)(b:List Bool)(G:List Int):Nat->List Int
 | 0=>G
 | k+1=>match s[k]?,b[k]? with
  | some i,I y=>match p[i.toNat]? with
   | none=>GK p s b G k
   | some x=>if x.bit=y then Jy (GK p s b G k) (x.cls.toNat*3+1)else Jy (Jy (GK p s b G k) (x.cls.toNat*3+1)) (x.cls.toNat*3+2)
  | _,_=>GK p s b G k
section
variable {p:List AQ} {f:Int} {k:Nat} {s:List Int} {b:List Bool} {G:List Int}
theorem AdP(h:p[k]?=I x)(hf:f<=(k:Int))(hs:x.seen=true):GJ p f (k+1)=Jy (GJ p f k) (x.cls.toNat*3):=by grind [GJ,Jy]
theorem AdQ(h:p[k]?=I x)(hs:x.seen=false):GJ p f (k+1)=GJ p f k:=by grind [GJ]
theorem AdR(h:p[k]?=I x)(hf:¬f<=(k:Int)):GJ p f (k+1)=GJ p f k:=by grind [GJ]
theorem qX(p:List AQ)(f:Int)(k:Nat):(GJ p f k).length=9:=by
 induction k with
 | zero=>rfl
 | succ k ih=>
  grind [GJ,qW]
theorem qY(p:List AQ)(f:Int)(k:Nat):Ko (GJ p f k) k:=by
 induction k with
 | zero=>exact AdO
 | succ k ih=>
  simp only[GJ];split
  all_goals grind [Ko,GJ,Jy]
theorem AdS(hi:s[k]?=I i)(hy:b[k]?=I y)(hx:p[i.toNat]?=I x)(h:x.bit=y):GK p s b G (k+1)=Jy (GK p s b G k) (x.cls.toNat*3+1):=by
 grind [GK,Jy]
theorem AdT(hi:s[k]?=I i)(hy:b[k]?=I y)(hx:p[i.toNat]?=I x)(h:x.bit≠y):GK p s b G (k+1)=Jy (Jy (GK p s b G k) (x.cls.toNat*3+1)) (x.cls.toNat*3+2):=by
 grind [GK,Jy]
theorem qZ(p:List AQ)(s:List Int)(b:List Bool)(G:List Int)(k:Nat):(GK p s b G k).length=Y G:=by
 induction k with
 | zero=>rfl
 | succ k ih=>
  grind [GK,qW]
def r7(p:List AQ)(s:List Int)(b:List Bool)(G:List Int)(hG:Ko G n)(k:Nat):Ko (GK p s b G k) (n+2*k):=by
 induction k with
 | zero=>exact hG
 | succ k ih=>
  simp only[GK];split
  ·split
   ·exact ih.mono J
   ·split
    ·exact(ih.bE _).mono J
    ·exact((ih.bE _).bE _).mono J
  ·exact ih.mono J
end
def Xp(p:List AQ)(i:Int):Bool:=(p[i.toNat]?.map AQ.seen).getD false
def AdU{p:List AQ}{j:Nat}{pb:Int}{BK:Bool}{pc Cf:Int}{ps:Bool}(h:p[j]?=I ⟨pb,BK,pc,Cf,ps⟩):Xp p (j:Int)=ps:=by simp[Xp,h]
def NV(f:Int)(x:Int):Bool:=decide (f<=x)
def Gw(p:List AQ)(s:List Int)(b:List Bool)(f:Int):Int:=
 if Bz AQ.ok p≠0 then Bz AQ.ok p else if AR f 0 4096=false then 3 else if Cz s 0 (Y p-1)≠0 then Cz s 0 (Y p-1)else if s.all (NV f)=false then 3 else if Y s≠Y b then 22 else if s.all (Xp p)=false then 11 else 0
def GL(p:List AQ)(s:List Int)(b:List Bool)(f:Int):List Int:=if Gw p s b f=0 then GK p s b (GJ p f (Y p)) (Y s)else ML
section
variable {p:List AQ} {s:List Int} {b:List Bool} {f:Int}
def gn1(h:Bz AQ.ok p≠0):Gw p s b f=Bz AQ.ok p/\GL p s b f=ML:=by simp[GL,Gw,h]
def gn2(h:Bz AQ.ok p=0)(h1:AR f 0 4096=false):Gw p s b f=3/\GL p s b f=ML:=by simp[GL,Gw,h,h1]
def gn3(h:Bz AQ.ok p=0)(h1:AR f 0 4096=true)(h2:Cz s 0 (Y p-1)≠0):Gw p s b f=Cz s 0 (Y p-1)/\GL p s b f=ML:=by simp[GL,Gw,h,h1,h2]
theorem gn4(h:Bz AQ.ok p=0)(h1:AR f 0 4096=true)(h2:Cz s 0 (Y p-1)=0)(h3:s.all (NV f)=false):Gw p s b f=3/\GL p s b f=ML:=by
 grind [Gw,GL,ML,Bz,AQ.ok,AR,Cz,NV]
theorem gn5(h:Bz AQ.ok p=0)(h1:AR f 0 4096=true)(h2:Cz s 0 (Y p-1)=0)(h3:s.all (NV f)=true)(h4:Y s≠Y b):Gw p s b f=22/\GL p s b f=ML:=by
 grind [Gw,GL,ML,Bz,AQ.ok,AR,Cz,NV]
theorem gn6(h:Bz AQ.ok p=0)(h1:AR f 0 4096=true)(h2:Cz s 0 (Y p-1)=0)(h3:s.all (NV f)=true)(h4:Y s=Y b)(h5:s.all (Xp p)=false):Gw p s b f=11/\GL p s b f=ML:=by
 have e:Gw p s b f=11:=by simp only[Gw,h,h1,h2,h3,h5];grind
 exact⟨e,by unfold GL;grind⟩
theorem gn7(h:Bz AQ.ok p=0)(h1:AR f 0 4096=true)(h2:Cz s 0 (Y p-1)=0)(h3:s.all (NV f)=true)(h4:Y s=Y b)(h5:s.all (Xp p)=true):Gw p s b f=0/\GL p s b f=GK p s b (GJ p f (Y p)) (Y s):=by
 have e:Gw p s b f=0:=by simp only[Gw,h,h1,h2,h3,h5];grind
 exact⟨e,by unfold GL;grind⟩
theorem AdV(h2:Cz s 0 (Y p-1)=0){x:Int}(hx:s[0]?=I x)(hf:f<=x):s.all (NV f)=true:=by
 have key:∀(k:Nat) (y:Int),s[k]?=I y->f<=y:=by
  intro k
  induction k with
  | zero=>grind
  | succ k ih=>
   intro y hy;have hk:=(EF.1 hy).1;have hz:s[k]?=I s[k]:=CH J;have h3:=qH h2 hy hz
   grind [Cz,Ip]
 rw[EA];intro y hy;obtain⟨k,hk⟩:=List.getElem?_of_mem hy;simp[NV,key k y hk]
def AdW(h:Bz AQ.ok p=0)(hx:p[k]?=I x):0<=x.cls/\x.cls<=2:=by
 have h1:=(Lb.1 h).2;rw[EA]at h1;have:=h1 x (DI hx);simp only[AQ.ok,AR,Bool.and_eq_true,decide_eq_true_eq]at this;omega
end
def KR(w:V)(base g:Nat)(T:TypeId)(h:base<=↑w)(hg:↑w=g):Own (Ao w (N #[U O 0,U O 0,U O 0,U O 0,U O 0,U O 0,U O 0,U O 0,U O 0] T)) base T 1 (fun x=>[Df x]) (R (I ⟨g,0,Z⟩) 9 9) ML:=by
 subst hg;exact World.ownsRow_lit (size:=1) w #[U O 0,U O 0,U O 0,U O 0,U O 0,U O 0,U O 0,U O 0,U O 0] 9 h AC Q
section
variable {w:V} {base T g:Nat} {l:List Int}
def LD{g0 g1 g2 g3 g4 g5 g6 g7 g8:Int}(h:Own w base T 1 (fun x=>[Df x]) (R (I ⟨g,0,Z⟩) 9 9) [g0,g1,g2,g3,g4,g5,g6,g7,g8]):
  E w ⟨g,0,Z⟩=I (U O g0)/\E w ⟨g,1,Z⟩=I (U O g1)/\E w ⟨g,2,Z⟩=I (U O g2)/\E w ⟨g,3,Z⟩=I (U O g3)/\E w ⟨g,4,Z⟩=I (U O g4)/\
  E w ⟨g,5,Z⟩=I (U O g5)/\E w ⟨g,6,Z⟩=I (U O g6)/\E w ⟨g,7,Z⟩=I (U O g7)/\E w ⟨g,8,Z⟩=I (U O g8):=
 ⟨Own.Eg (f:=Df) h Q Q,Own.Eg (f:=Df) h Q Q,Own.Eg (f:=Df) h Q Q,Own.Eg (f:=Df) h Q Q,Own.Eg (f:=Df) h Q Q,Own.Eg (f:=Df) h Q Q,Own.Eg (f:=Df) h Q Q,Own.Eg (f:=Df) h Q Q,Own.Eg (f:=Df) h Q Q⟩
def V4(h:Own w base T 1 (fun x=>[Df x]) (R (I ⟨g,0,Z⟩) 9 9) l)(hl:Y l=9):
  Bo w ⟨g,0,Z⟩=false/\Bo w ⟨g,1,Z⟩=false/\Bo w ⟨g,2,Z⟩=false/\Bo w ⟨g,3,Z⟩=false/\Bo w ⟨g,4,Z⟩=false/\Bo w ⟨g,5,Z⟩=false/\Bo w ⟨g,6,Z⟩=false/\Bo w ⟨g,7,Z⟩=false/\Bo w ⟨g,8,Z⟩=false:=
 ⟨Own.Dc (f:=Df) h hl _,Own.Dc (f:=Df) h hl _,Own.Dc (f:=Df) h hl _,Own.Dc (f:=Df) h hl _,Own.Dc (f:=Df) h hl _,Own.Dc (f:=Df) h hl _,Own.Dc (f:=Df) h hl _,Own.Dc (f:=Df) h hl _,Own.Dc (f:=Df) h hl _⟩
def AdX(h:Y l=9):∃g0 g1 g2 g3 g4 g5 g6 g7 g8,l=[g0,g1,g2,g3,g4,g5,g6,g7,g8]:=by
 match l,h with
 | [g0,g1,g2,g3,g4,g5,g6,g7,g8],_=>simp
def Own.other{g' k:Nat}{x:An}{l':List Int}(h:Own w base T 1 (fun x=>[Df x]) (R (I ⟨g,0,Z⟩) 9 9) l)(h':Own w base T 1 (fun x=>[Df x]) (R (I ⟨g',0,Z⟩) 9 9) l')(hl:Y l'=9)(hg:g≠g'):
  Own (Ai w ⟨g',k,Z⟩ x) base T 1 (fun x=>[Df x]) (R (I ⟨g,0,Z⟩) 9 9) l:=by
 unfold Own at h';rw[hl]at h';exact Own.keep h (World.ownsRow.stored h' k x).2 (.inr (by simp[Value.ownBlock];exact hg))
end
def Wf{w w2:V}{base g:Nat}{v0 v1 v2 v3 v4 v5 v6 v7 v8:An}(h:Ag base w w2)(hg:base<=g):
  Ag base w (Ai (Ai (Ai (Ai (Ai (Ai (Ai (Ai (Ai w2 ⟨g,0,Z⟩ v0) ⟨g,1,Z⟩ v1) ⟨g,2,Z⟩ v2) ⟨g,3,Z⟩ v3) ⟨g,4,Z⟩ v4) ⟨g,5,Z⟩ v5) ⟨g,6,Z⟩ v6) ⟨g,7,Z⟩ v7) ⟨g,8,Z⟩ v8):=
 ((((((((h.setCell hg _).setCell hg _).setCell hg _).setCell hg _).setCell hg _).setCell hg _).setCell hg _).setCell hg _).setCell hg _
def Xq(l:List Int):An:= Ba (l.map Df).toArray
end
theorem AdY(A:Option AS)(n:Nat)(p:List AQ)(C:Option AS)(m:Nat)(s:List Int)(D:Option AS)(o:Nat)(b:List Bool)(f:Int)(w:V)(hA:Arr 5 AQ.enc w w A p)(hC:Arr 1 BD w w C s)(hD:Arr 1 C4 w w D b)
  (hp:Y p<=4611686018427387904) (hs:Y s<=4096) (hd:Y b<=4611686018427387904) (Kh:¬(Bz AQ.ok p=0/\AR f 0 4096=true/\Cz s 0 (Y p-1)=0/\s.all (NV f)=true/\Y s=Y b)):
  AL AE 272 #[R A (Y p) n,R C (Y s) m,R D (Y b) o,U O f] w fun e w'=>e=AN (Be #[Xq (GL p s b f),U O (Gw p s b f)])/\Ag w w w':=by
 have hb0:=AB (AB (Ae w w) (N #[U O 0,U O 0,U O 0,U O 0,U O 0,U O 0,U O 0,U O 0,U O 0] 375)) (N #[U O 0,U O 0,U O 0,U O 0,U O 0,U O 0,U O 0,U O 0,U O 0] 375);by_cases h0:Bz AQ.ok p=0
 ·have H0:=F h0
  cases h1:AR f 0 4096
  ·have Hg:=F (gn2 (s:=s) (b:=b) h0 h1)
   have H1:=F h1;clear h0 h1 Kh;go_in
   go_wp2_with(first
    | (go_at_call 139;refine gqz (IF A n p _ (hA.on hb0) hp) fun w2 hb2=>?_;rw[H0.out];have oA:=Own.below (Own.alloc (KR w w w 375 (Bg _) Q) _) hb2;have oB:=Own.below (KR (Ao w _) w (w.heap.size+1) 375 AO AO) hb2;obtain⟨a0,a1,a2,a3,a4,a5,a6,a7,a8⟩:=LD oA;obtain⟨b0,b1,b2,b3,b4,b5,b6,b7,b8⟩:=V4 oA Q;obtain⟨c0,c1,c2,c3,c4,c5,c6,c7,c8⟩:=LD oB)
    | (go_at_call 89;refine mqv (DJ _ _ _ _) ?_;rw[H1.out]))
   refine qti ?_;refine De (v:= Be #[Ba #[U O 0,U O 0,U O 0,U O 0,U O 0,U O 0,U O 0,U O 0,U O 0],U O (3)]) ?_ Q ⟨by rw[Hg.out.1,Hg.out.2];rfl,Wf (AH hb0 hb2) (Bg _)⟩;rw[Jg Q];go_simp
  ·have H1:=F h1
   by_cases h2:Cz s 0 (Y p-1)=0
   ·have H2:=F h2
    cases h3:s.all (NV f)
    ·have Hg:=F (gn4 (b:=b) h0 h1 h2 h3)
     have hs0:0<Y s:=by
      cases s with
      | nil=>cases h3
      | cons x t=>simp
     have YQ:decide (0<(Y s:Int))=true:=Er J;obtain⟨bk,off,x,rfl,BN,hq,d0⟩:=hC.int hs0 (Ae _ _);rw[Sz]at d0
     have hx:x<f:=by
      by_cases hxf:f<=x
      ·rw[AdV (p:=p) h2 hq hxf]at h3;cases h3
      ·omega
     clear h0 h1 h2 h3 Kh hq;go_in
     go_wp2_with(first
      | (go_at_call 139;refine gqz (IF A n p _ (hA.on hb0) hp) fun w2 hb2=>?_;rw[H0.out];have d1:=AK (AH hb0 hb2) d0;clear d0;have oA:=Own.below (Own.alloc (KR w w w 375 (Bg _) Q) _) hb2;have oB:=Own.below (KR (Ao w _) w (w.heap.size+1) 375 AO AO) hb2;obtain⟨a0,a1,a2,a3,a4,a5,a6,a7,a8⟩:=LD oA;obtain⟨b0,b1,b2,b3,b4,b5,b6,b7,b8⟩:=V4 oA Q;obtain⟨c0,c1,c2,c3,c4,c5,c6,c7,c8⟩:=LD oB)
      | (go_at_call 89;refine mqv (DJ _ _ _ _) ?_;rw[H1.out])
      | (go_at_call 269;refine mqv (RV _ m s 0 _ _ (hC.on (AH hb0 hb2)) J) ?_;rw[H2.out]))
     refine qti ?_;refine De (v:= Be #[Ba #[U O 0,U O 0,U O 0,U O 0,U O 0,U O 0,U O 0,U O 0,U O 0],U O (3)]) ?_ Q ⟨by rw[Hg.out.1,Hg.out.2];rfl,Wf (AH hb0 hb2) (Bg _)⟩;rw[Jg Q];go_simp
    ·have h4:Y s≠Y b:=fun h=>Kh ⟨h0,h1,h2,h3,h⟩
     have Hg:=F (gn5 h0 h1 h2 h3 h4);have g4:((Y s:Int) != (Y b:Int))=true:=by simp;omega
     by_cases hs0:0<Y s
     focus
      have YQ:decide (0<(Y s:Int))=true:=Er J
      obtain⟨bk,off,x,rfl,BN,hq,d0⟩:=hC.int hs0 (Ae _ _);rw[Sz]at d0
      have hx:decide (x<f)=false:=by
       rw[EA]at h3;have:=h3 x (DI hq);simp[NV]at this;simp;omega
      clear h0 h1 h2 h3 h4 Kh hq;go_in
      go_wp2_with(first
       | (go_at_call 139;refine gqz (IF A n p _ (hA.on hb0) hp) fun w2 hb2=>?_;rw[H0.out];have d1:=AK (AH hb0 hb2) d0;clear d0;have oA:=Own.below (Own.alloc (KR w w w 375 (Bg _) Q) _) hb2;have oB:=Own.below (KR (Ao w _) w (w.heap.size+1) 375 AO AO) hb2;obtain⟨a0,a1,a2,a3,a4,a5,a6,a7,a8⟩:=LD oA;obtain⟨b0,b1,b2,b3,b4,b5,b6,b7,b8⟩:=V4 oA Q;obtain⟨c0,c1,c2,c3,c4,c5,c6,c7,c8⟩:=LD oB)
       | (go_at_call 89;refine mqv (DJ _ _ _ _) ?_;rw[H1.out])
       | (go_at_call 269;refine mqv (RV _ m s 0 _ _ (hC.on (AH hb0 hb2)) J) ?_;rw[H2.out]))
     rotate_left
     focus
      have YQ:decide (0<(Y s:Int))=false:=Ds J
      clear h0 h1 h2 h3 h4 Kh;go_in
      go_wp2_with(first
       | (go_at_call 139;refine gqz (IF A n p _ (hA.on hb0) hp) fun w2 hb2=>?_;rw[H0.out];have oA:=Own.below (Own.alloc (KR w w w 375 (Bg _) Q) _) hb2;have oB:=Own.below (KR (Ao w _) w (w.heap.size+1) 375 AO AO) hb2;obtain⟨a0,a1,a2,a3,a4,a5,a6,a7,a8⟩:=LD oA;obtain⟨b0,b1,b2,b3,b4,b5,b6,b7,b8⟩:=V4 oA Q;obtain⟨c0,c1,c2,c3,c4,c5,c6,c7,c8⟩:=LD oB)
       | (go_at_call 89;refine mqv (DJ _ _ _ _) ?_;rw[H1.out])
       | (go_at_call 269;refine mqv (RV C m s 0 _ _ (hC.on (AH hb0 hb2)) J) ?_;rw[H2.out]))
     rotate_left
     all_goals
      refine qti ?_;refine De (v:= Be #[Ba #[U O 0,U O 0,U O 0,U O 0,U O 0,U O 0,U O 0,U O 0,U O 0],U O (22)]) ?_ Q ⟨by rw[Hg.out.1,Hg.out.2];rfl,Wf (AH hb0 hb2) (Bg _)⟩;rw[Jg Q];go_simp
   ·have Hg:=F (gn3 (b:=b) h0 h1 h2)
    have W5:(Cz s 0 (Y p-1) != 0)=true:=qsu h2;clear h0 h1 h2 Kh;go_in
    go_wp2_with(first
     | (go_at_call 139;refine gqz (IF A n p _ (hA.on hb0) hp) fun w2 hb2=>?_;rw[H0.out];have oA:=Own.below (Own.alloc (KR w w w 375 (Bg _) Q) _) hb2;have oB:=Own.below (KR (Ao w _) w (w.heap.size+1) 375 AO AO) hb2;obtain⟨a0,a1,a2,a3,a4,a5,a6,a7,a8⟩:=LD oA;obtain⟨b0,b1,b2,b3,b4,b5,b6,b7,b8⟩:=V4 oA Q;obtain⟨c0,c1,c2,c3,c4,c5,c6,c7,c8⟩:=LD oB)
     | (go_at_call 89;refine mqv (DJ _ _ _ _) ?_;rw[H1.out])
     | (go_at_call 269;refine mqv (RV C m s 0 _ _ (hC.on (AH hb0 hb2)) J) ?_))
    refine qti ?_;refine De (v:= Be #[Ba #[U O 0,U O 0,U O 0,U O 0,U O 0,U O 0,U O 0,U O 0,U O 0],U O (Cz s 0 (Y p-1))]) ?_ Q ⟨by rw[Hg.out.1,Hg.out.2];rfl,Wf (AH hb0 hb2) (Bg _)⟩;rw[Jg Q];go_simp
 ·have Hg:=F (gn1 (s:=s) (b:=b) (f:=f) h0)
  have h0':(Bz AQ.ok p != 0)=true:=qsu h0;clear h0 Kh;go_in;go_wp2_with(go_at_call 139;refine gqz (IF A n p _ (hA.on hb0) hp) fun w2 hb2=>?_;have oA:=Own.below (Own.alloc (KR w w w 375 (Bg _) Q) _) hb2;have oB:=Own.below (KR (Ao w _) w (w.heap.size+1) 375 AO AO) hb2;obtain⟨a0,a1,a2,a3,a4,a5,a6,a7,a8⟩:=LD oA;obtain⟨b0,b1,b2,b3,b4,b5,b6,b7,b8⟩:=V4 oA Q;obtain⟨c0,c1,c2,c3,c4,c5,c6,c7,c8⟩:=LD oB);refine qti ?_;refine De (v:= Be #[Ba #[U O 0,U O 0,U O 0,U O 0,U O 0,U O 0,U O 0,U O 0,U O 0],U O (Bz AQ.ok p)]) ?_ Q ⟨by rw[Hg.out.1,Hg.out.2];rfl,Wf (AH hb0 hb2) (Bg _)⟩;rw[Jg Q];go_simp
end Go.Proofs.YtjpidgffdkjjeaaGreat
