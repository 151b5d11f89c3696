/- Contracts and plain laws. No condition. -/
import Derived.Deep.AppendLies
import Derived.Deep.CutBlock
import Derived.Deep.DeepCutAuto
import Derived.Deep.RegionLaw
import Derived.Laws.ResultCell
import Derived.Laws.Rows
import Derived.Laws.StructEq
import Derived.Maps.AppendAt
import Derived.Test.YtjpidgffdkjjeaaGreatCA
import Derived.Test.YtjpidgffdkjjeaaGreatC00
set_option linter.all false
set_option maxHeartbeats 16000000
namespace Go.Proofs.YtjpidgffdkjjeaaGreat
open Go.Proofs.Tryz
open Go.Proofs.Tryz renaming prog->AE
open List renaming length->Y
open Go.World renaming cell?->E,setCell->Ai,alloc->Ao,frozen?->Bo
open Go.Value renaming int->U,slice->R,pointer->AI,agg->Ba,tuple->Be,nilFunc->Bl,bool->Av
open Go.IntKind renaming i64->O,u64->AA,u32->BF,u8->Cd
open Option renaming none->Z,some->I
open Go.Ending renaming returned->AN
open Go.Obj renaming cells->N
open Go renaming World->V,Value->An,Calls->AL,Addr->AS
open Go.RowKit renaming Below->Ag,Hid->Aj
set_option maxRecDepth 100000
open Go.RowKit
section
variable{k:Nat}{l:List Nat}
def CR(n:Nat):List An:=[U BF n]
def vw(n:Nat):List An:=[U O n]
def Sw(c:Nat):(CR c).length=1:=Q
def vx(c:Nat):∀u∈CR c,u.oneCell'=true:=by simp[CR,Value.oneCell']
section
variable {w w':V} {B:Nat} {A:Option AS} {k:Nat}
theorem Arr.u32(h:Arr 1 CR w B A l)(hk:k<Y l)(hb:Ag B w w'):
  ∃b off x,A=I ⟨b,off,Z⟩/\b<B/\Aj (l[k]?=I x)/\E w' ⟨b,off+k,Z⟩=I (U BF x):=by
 obtain⟨b,off,rfl,BN,hc⟩:=h.get hk hb;exact⟨b,off,_,Q,BN,CH hk,by have:=hc 0 _ Q;grind⟩
theorem Arr.take{α:Type}{sz:Nat}{enc:α->List An}{l:List α}(h:Arr sz enc w B A l)(n:Nat):Arr sz enc w B A (l.take n):=fun hl=>by
 obtain⟨b,off,rfl,BN,hc⟩:=h (by grind)
 grind
end
def vy(h:l[k]?=I 0):Eo (l.take (k+1))=Eo (l.take k):=by rw[N8 h,vo]
def vz{x:Nat}(h:l[k]?=I x)(hx:x≠0):(Eo (l.take (k+1))).length=k+1:=by
 have hk:=(EF.1 h).1;rw[N8 h,vp _ hx,KZ,DC,Oo J];rfl
def Tv(A:Option AS)(c:Nat)(l:List Nat)(w:V)(h:Arr 1 CR w w A l)(hl:Y l<=c)(hc:c<=maxLen):
  AL AE 129 #[R A (Y l) c] w fun e w'=>e=AN (R A (Eo l).length c)/\w=w':=by
 unfold maxLen at hc;go_in;go_wp2;go_loop [3] (fun i=>∃k:Nat,k<=Y l/\i=U O k/\Eo (l.take k)=Eo l) (fun i=>(intOf i).toNat);exact⟨_,Bg _,rfl,by rw[Ia]⟩
 obtain⟨k,hk,rfl,ht⟩:=hrel;have Ht:=F ht;clear ht;cases k with
 | zero=>
  go_wp2;go_ret;exact⟨by rw[<-Ht.out];rfl,Q⟩
 | succ j=>
  obtain⟨b,off,x,rfl,BN,hq,c0⟩:=h.u32 (k:=j) J (Ae _ _);rcases Nc x with rfl | hx
  ·go_wp2
   go_round
   case rel=>exact⟨j,J,qgm,by rw[<-vy hq.out];exact Ht.out⟩
   case measure=>(simp[intOf] <;> omega)
  ·have hx':((x:Int) == 0)=false:=by simp;omega
   go_wp2;go_ret;exact⟨by rw[<-Ht.out,vz hq.out J];rfl,Q⟩
abbrev AZ:Nat:=4294967296
def IC:2<=AZ:=AC
def AF(l:List Nat):Nat:=BH AZ l
def AJ(n:Nat):List Nat:=G4 AZ n
def QM(h:BZ AZ l):Eo l=AJ (AF l):=vk IC h
def Wz(l:List Nat):Int:=if 64<Y l then 4 else 0
def jJ(A:Option AS)(c:Nat)(l:List Nat)(w:V):
  AL AE 79 #[R A (Y l) c] w fun e w'=>e=AN (U O (Wz l))/\w=w':=by
 go_in;go_wp2
 all_goals(go_ret;exact⟨Cg (by unfold Wz;split <;> omega),Q⟩)
def QN(l m:List Nat):Int:=if 64<Y l\/64<Y m then 4 else 0
theorem dN{m:List Nat}:QN l m=0↔Y l<=64/\Y m<=64:=by grind [QN]
def Zs(A:Option AS)(c:Nat)(l:List Nat)(C:Option AS)(d:Nat)(m:List Nat)(w:V):
  AL AE 180 #[R A (Y l) c,R C (Y m) d] w fun e w'=>e=AN (U O (QN l m))/\w=w':=by
 by_cases h1:64<Y l <;> by_cases h2:64<Y m
 all_goals(
  go_in;go_wp2;go_ret;exact⟨Cg (by unfold QN;split <;> omega),Q⟩)
def Uk(A:Option AS)(c:Nat)(l:List Nat)(C:Option AS)(d:Nat)(m:List Nat)(w:V)(hA:Arr 1 CR w w A l)(hC:Arr 1 CR w w C m)(hl:Y l<=c)(hc:c<=maxLen)(hm:Y m<=d)(hd:d<=maxLen)(dl:BZ AZ l)(dm:BZ AZ m):
  AL AE 137 #[R A (Y l) c,R C (Y m) d] w fun e w'=>e=AN (U O (Ey (AF l) (AF m)))/\Ag w w w':=by
 have e1:=QM dl;have e2:=QM dm;have t1:=Vw l;have t2:=Vw m;have a1:=hA.take (Eo l).length;have a2:=hC.take (Eo m).length;rw[<-t1]at a1;rw[<-t2]at a2;have k1:=Vx l;have k2:=Vx m;have cA:=fun w=>Tv A c l w
 have cC:=fun w=>Tv C d m w
 have D1:BZ AZ (AJ (AF l)):=Zr IC _;have D2:BZ AZ (AJ (AF m)):=Zr IC _;have v1:AF (AJ (AF l))=AF l:=Zq IC _;have v2:AF (AJ (AF m))=AF m:=Zq IC _;have lt1:=fun h=>jH (n:=AF l) (m:=AF m) IC h
 have lt2:=fun h=>jH (n:=AF m) (m:=AF l) IC h
 rw[e1]at a1 k1 cA;rw[e2]at a2 k2 cC;change(AJ (AF l)).length<(AJ (AF m)).length->AF l<AF m at lt1;change(AJ (AF m)).length<(AJ (AF l)).length->AF m<AF l at lt2;clear e1 e2 t1 t2;generalize AJ (AF l)=L at*;generalize AJ (AF m)=M at*;have G1:=F lt1;have G2:=F lt2;have V1:=F v1;have V2:=F v2;clear lt1 lt2 v1 v2;unfold maxLen at hc hd;go_in;go_wp2_with fail;refine(cA _ hA hl (by unfold maxLen;omega)).mono ?_;rintro e w'⟨rfl,rfl⟩;go_wp2_with fail;refine(cC _ hC hm (by unfold maxLen;omega)).mono ?_;rintro e w'⟨rfl,rfl⟩;clear cA cC;rcases Nat.lt_trichotomy (Y L) (Y M)with hlt | heq | hgt
 ·have:=G1.out hlt
  go_wp2;go_ret;exact⟨Cg (XX this).symm,Ae _ _⟩
 ·have He:=F heq
  have g1:decide (Y L<Y M)=false:=by simp;omega
  have g2:decide (Y M<Y L)=false:=by simp;omega
  clear heq;go_wp2_with fail;go_loopw [5] (fun i wr=>∃k:Nat,k<=Y L/\i=U O ((k:Int)-1)/\L.drop k=M.drop k/\Ag w w wr) (fun i _=>(intOf i+1).toNat);exact⟨_,Bg _,rfl,by rw[List.drop_length,He.out,List.drop_length],Ae _ _⟩
  obtain⟨k,hk,rfl,ht,hb⟩:=hrel;have Ht:=F ht;clear ht;cases k with
  | zero=>
   go_wp2;go_ret;have hLM:L=M:=qsu Ht.out;exact⟨Cg (vu (by rw[<-V1.out,<-V2.out,hLM])).symm,hb⟩
  | succ j=>
   have:=He.out;obtain⟨b1,o1,x,rfl,hb1,hx,c1⟩:=a1.u32 (k:=j) J hb;obtain⟨b2,o2,y,rfl,hb2,hy,c2⟩:=a2.u32 (k:=j) J hb;have j1:(j:Int)<(Y L:Int):=J;have j2:(j:Int)<(Y M:Int):=J;have l1:=Di c1;have l2:=Di c2;clear this;rcases Nat.lt_trichotomy x y with hlt | rfl | hgt
   ·have r1:((x:Int) != (y:Int))=true:=by simp;omega
    have r2:decide (x<y)=true:=by simp;omega
    have fin:Aj (AF l<AF m):=F (by
     rw[<-V1.out,<-V2.out];exact jI D1 D2 He.out hx.out hy.out Ht.out hlt)
    clear hlt;go_wp2_with fail;refine qrl ?_;rintro w3⟨⟨_,hb3⟩,rfl⟩;have m1:=Di (AK hb3 c1);have m2:=Di (AK hb3 c2);go_wp2_with fail;refine qrl ?_;rintro w4⟨⟨_,hb4⟩,rfl⟩;go_wp2;go_ret;exact⟨Cg (XX fin.out).symm,AH hb (AH hb3 hb4)⟩
   ·go_wp2_with fail
    refine qrl ?_;rintro w3⟨⟨_,hb3⟩,rfl⟩;go_wp2_with fail;go_roundw;exact⟨j,J,qgm,vt hx.out hy.out Ht.out,AH hb hb3⟩;(simp[intOf] <;> omega)
   ·have r1:((x:Int) != (y:Int))=true:=by simp;omega
    have r2:decide (x<y)=false:=by simp;omega
    have fin:Aj (AF m<AF l):=F (by
     rw[<-V1.out,<-V2.out];exact jI D2 D1 He.out.symm hy.out hx.out Ht.out.symm hgt)
    clear hgt;go_wp2_with fail;refine qrl ?_;rintro w3⟨⟨_,hb3⟩,rfl⟩;have m1:=Di (AK hb3 c1);have m2:=Di (AK hb3 c2);go_wp2_with fail;refine qrl ?_;rintro w4⟨⟨_,hb4⟩,rfl⟩;go_wp2;go_ret;exact⟨Cg (XY fin.out).symm,AH hb (AH hb3 hb4)⟩
 ·have:=G2.out hgt
  go_wp2;go_ret;exact⟨Cg (XY this).symm,Ae _ _⟩
end
section
variable{A:Option AS}{b base c cy k n x:Nat}{l m o:List Nat}{v:An}{w w':V}
structure Nt(w:V)(A:Option AS)(c:Nat)(l:List Nat):Prop where
 arr:Arr 1 CR w w A l
 len:Y l<=c
 cap:c<=maxLen
 dig:BZ AZ l
 nil:A=Z->c=0
def Nt.on(h:Nt w A c l)(hb:Ag w w w'):Nt w' A c l:=⟨h.arr.on hb,h.len,h.cap,h.dig,h.nil⟩
def Nt.lt(h:Nt w A c l)(hx:l[k]?=I x):x<4294967296:=h.dig.get hx
def Big(w:V)(base:Nat)(v:An)(n:Nat):Prop:=Own w base 132 1 CR v (AJ n)
theorem Bu(n:Nat):AF (AJ n)=n:=Zq IC n
def Ul(n:Nat):BZ AZ (AJ n):=Zr IC n
theorem Vy(h:Own w base 132 1 CR v l)(hd:BZ AZ l):∃A c,v=R A (Y l) c/\Nt w A c l:=by
 obtain⟨A,c,hv,h1,h2,h3,h4⟩:=Own.form h Sw;exact⟨A,c,hv,h4,h1,h2,hd,h3⟩
def Big.nt(h:Big w base v n):∃A c,v=R A (AJ n).length c/\Nt w A c (AJ n):=Vy h (Ul n)
def Big.below(h:Big w base v n)(hb:Ag w w w'):Big w' base v n:=Own.below h hb
def Big.down{base':Nat}(h:Big w base v n)(hb:base'<=base):Big w base' v n:=Own.down h hb
theorem Own.take{α:Type}{e sz:Nat}{enc:α->List An}{l:List α}(h:Own w base e sz enc (R A n c) l)(hs:∀x,(enc x).length=sz)(hk:k<=Y l):Own w base e sz enc (R A k c) (l.take k):=by
 refine⟨by rw[Wr hs],?_⟩;have LR:(l.take k).length=k:=by grind
 rcases h.2 with⟨hv,h0⟩ | ⟨g,cap,cur,hv,hg,hh,hn,hm,hc,ht⟩
 ·grind
 ·right
  simp only[Value.slice.injEq]at hv;obtain⟨rfl,rfl,rfl⟩:=hv;refine⟨g,_,cur,by rw[LR],hg,hh,J,hm,hc,?_⟩;rw[LR];have e:l.flatMap enc=(l.take k).flatMap enc++ (l.drop k).flatMap enc:=by rw[<-List.flatMap_append,XU]
  rw[e]at ht;have:=congrArg (List.take (k*sz)) ht
  grind [Own,Wr]
def Own.trim(h:Own w base 132 1 CR (R A n c) l)(hd:BZ AZ l):Big w base (R A (Eo l).length c) (AF l):=by
 have:=Own.take h Sw (Vx l);rw[<-Vw]at this;unfold Big;rw[<-QM hd];omega
def Um:(prog.info? 132).map (fun i=>(i.zero,i.size,i.bytes))=I (I (U BF 0),1,4):=AG
def dO:(prog.info? 132).map (·.size)=I 1:=AG
def jK{P:Program}{w:V}{ops:Array Oper}{rest:List Oper}{o:Oper}{a:Act}{Bn:Exit->Act->V->Prop}(hgd:o.guard=Z)(d s:Operand)(dT sT:TypeId)
  (ho:o.op=.call {callee:= .builtin .copy,args:=#[d,s],argTypes:=#[dT,sT]}) (e:TypeId) (hu:P.underlying dT=I (.slice e)) (hsz:(P.info? e).map (·.size)=I 1)
  {α:Type} {f:α->An} (h1:∀x,(f x).oneCell'=true) {base:Nat} {w0:V} {g n:Nat} {l m:List α} {A:Option AS} {B c:Nat} (hd:a.eval d=R (I ⟨g,0,Z⟩) n n) (hs:a.eval s=R A (Y m) c)
  (hown:Own w base e 1 (fun x=>[f x]) (R (I ⟨g,0,Z⟩) n n) l) (hl:Y l=n) (hA:Arr 1 (fun x=>[f x]) w B A m) (hm:Y m<=n) (hb:Ag base w0 w)
  (h:∀w',Own w' base e 1 (fun x=>[f x]) (R (I ⟨g,0,Z⟩) n n) (m++ l.drop (Y m))->Ag base w0 w'->wpList P ops Bn rest (a.put o.dst (goInt (Y m))) w'):wpList P ops Bn (o::rest) a w:=by
 subst hl;rcases hown.2 with⟨hv,_⟩ | ⟨g',cap,cur,hv,hg,hh,hn,hmx,hc,ht⟩
 ·simp at hv
 simp only[Value.slice.injEq,Option.some.injEq,Addr.mk.injEq]at hv;obtain⟨⟨rfl,_⟩,_,rfl⟩:=hv;rw[N9,JK]at ht;rw[JK]at hc;have dP:cur.toList=l.map f:=by rw[<-ht,EG (by simp[hc])]
 have hh':w.heap[g]?=I (N (l.map f).toArray e (0,0)):=by rw[hh,<-dP]
 refine wpList_copy_splice hgd d s dT sT ho e hu hsz _ _ _ _ _ _ hd hs g 0 (l.map f) e hh' (m.map f) ?_ ?_ qsm ?_ base w0 hb hg (fun w' hg' hb'=>?_)
 ·simp[Nat.min_def];omega
 ·intro hp
  obtain⟨b,off,rfl,BN,hc'⟩:=hA (by rintro rfl;simp at hp);refine⟨Q,_,Q,?_⟩;have:=dJ (sz:=1) (enc:=fun x=>[f x]) (fun _=>rfl) AC hc';rw[N9]at this;exact this
 ·intro v hv
  obtain⟨x,_,rfl⟩:=Ld.1 hv;exact h1 x
 ·have h2:=h w' ?_ hb'
  ·simpa using h2
  ·refine⟨by rw[N9];simp,.inr ⟨g,_,(splice (l.map f) 0 (m.map f)).toArray,?_,hg,hg'.out,?_,hmx,?_,?_⟩⟩
   ·simp;omega
   ·simp;omega
   ·rw[List.size_toArray,length_splice _ _ _ qsm];simp
   ·rw[N9]
    have e1:splice (l.map f) 0 (m.map f)=(m++ l.drop (Y m)).map f:=by simp[splice,List.map_drop]
    rw[e1,EG AO]
def WA(A:Option AS)(c:Nat)(l:List Nat)(w:V)(h:Nt w A c l)(hl:Y l<=3000000):
  AL AE 78 #[R A (Y l) c] w fun e w'=>∃v,e=AN v/\Big w' w v (AF l)/\Ag w w w':=by
 have k1:=Vx l;have ha:=h.arr.take (Eo l).length;rw[<-Vw]at ha;have vA:=h.cap;go_in
 go_wp2_with(first
  | (go_at_call 129;refine mqv (Tv A c l _ h.arr h.len h.cap) ?_)
  | (at_make;refine Nb underlying56 Um (fun n:Nat=>Value.int .u32 n) 0 (Eo l).length ?_;intro w3 Km hb3)
  | (refine jK Q _ _ 56 56 Q 132 underlying56 dO (f:=fun n:Nat=>Value.int .u32 n) (fun _=>rfl) (m:=Eo l) Q Q Km AO (ha.on hb3) (Bg _) hb3 ?_;intro w4 Zt hb4))
 go_ret;refine⟨_,Q,?_,hb4⟩;rw[WB AO,List.append_nil]at Zt;unfold Big;rw[<-QM h.dig];exact Zt
theorem dS(l:List Nat)(k:Nat):BH b (l.take (k+1))=BH b (l.take k)+b^k*l[k]?.getD 0:=by
 by_cases h:k<Y l
 ·grind [BH,Tu]
 ·rw[EG J,EG J,QO J];simp
def vB(h:k<Y l):(l.set k x).take (k+1)=l.take k++ [x]:=by
 rw[List.take_set,N8 (CH h),List.set_append,AU qsm,DC,Oo J,Lc];rfl
theorem dU(h:k<Y l):BH b ((l.set k x).take (k+1))=BH b (l.take k)+b^k*x:=by
 rw[vB h,Zo,dL,DC,Oo J]
def JL{n:Int}(h:n=k)(hk:k<18446744073709551616):IntKind.u64.wrap n=k:=by
 rw[IntKind.wrap_u64];omega
def Zu(t:Nat):∃q r:Nat,(t:Int) / 4294967296=(q:Int)/\(t:Int)%4294967296=(r:Int)/\Aj (q=t / AZ/\r=t%AZ):=
 ⟨t / 4294967296,t%4294967296,J,J,F ⟨rfl,rfl⟩⟩
def Zv{s:Nat}(hk:k<Y o)(h:BH AZ (o.take k)+AZ^k*cy=BH AZ (l.take k)+BH AZ (m.take k))(hs:s=cy+l[k]?.getD 0+m[k]?.getD 0):
  BH AZ ((o.set k (s%AZ)).take (k+1))+AZ^(k+1)*(s / AZ)=BH AZ (l.take (k+1))+BH AZ (m.take (k+1)):=by
 rw[dU hk,dS,dS,LS,Nat.mul_assoc,Nat.add_assoc,<-Nat.mul_add,Wv,hs,Nat.mul_add,Nat.mul_add];omega
theorem vC(h:BH AZ o+AZ^Y o*cy=AF l+AF m)(dl:BZ AZ l)(dm:BZ AZ m)(h1:Y l<Y o)(h2:Y m<Y o):AF o=AF l+AF m:=by
 have a1:=LP dl;have a2:=LP dm;have b1:AZ^Y l<=AZ^(Y o-1):=LT AC J;have b2:AZ^Y m<=AZ^(Y o-1):=LT AC J;have e:AZ^Y o=AZ^(Y o-1)*4294967296:=by rw[<-LS];congr 1;omega
 rcases Nc cy with rfl | hc
 ·grind [AF,BZ,BH]
 ·have:AZ^Y o*1<=AZ^Y o*cy:=LQ _ hc
  unfold AF at*;omega
def Zw(A:Option AS)(c:Nat)(l:List Nat)(C:Option AS)(d:Nat)(m:List Nat)(w:V)(hA:Nt w A c l)(hC:Nt w C d m)(hl:Y l<=1000000)(hm:Y m<=1000000):
  AL AE 76 #[R A (Y l) c,R C (Y m) d] w fun e w'=>∃v,e=AN v/\Big w' w v (AF l+AF m)/\Ag w w w':=by
 obtain⟨AP,hN⟩:∃AP:Nat,AP=max (Y l) (Y m)+1:=⟨_,Q⟩
 have n1:Y l<AP:=J;have n2:Y m<AP:=J;have n3:AP<=1000001:=J;have e1:max (Y l:Int) (Y m:Int)=(AP:Int)-1:=J;clear hN;rcases D4 (Y l) (Y m)with Oq | Oq
 all_goals(
  go_in;go_wp2_with(at_make;refine Nb underlying56 Um (fun n:Nat=>Value.int .u32 n) 0 AP ?_;intro w3 Km hb3);clear Oq e1
  go_loopw [6,17] (fun cy i wr=>∃(k s:Nat) (o:List Nat),k<=AP/\i=U O k/\cy=U AA s/\s<=1/\Y o=AP/\BZ AZ o/\BH AZ (o.take k)+AZ^k*s=BH AZ (l.take k)+BH AZ (m.take k)/\
   Own wr w 132 1 CR (R (I ⟨w,0,Z⟩) AP AP) o/\Ag w w wr) (fun _ i _=>AP-(intOf i).toNat)
  case atStart=>exact⟨0,0,_,BM _,rfl,rfl,AC,AO,BZ.rep AC _,by simp[BH],Km,hb3⟩
  case round=>
   obtain⟨k,s,o,hk,rfl,rfl,hs,ID,hd,hv,hown,hb⟩:=hrel;have Hv:=F hv;have Hd:=F hd;have Dd:=F ID;clear hv hd ID;by_cases hlt:k<AP
   ·have d0:=Own.Eg (f:=fun n:Nat=>Value.int .u32 n) hown Dd (CH (qrf Dd.out hlt))
    have d1:=Own.Dc (f:=fun n:Nat=>Value.int .u32 n) hown Dd k;by_cases h1:k<Y l <;> by_cases h2:k<Y m
    ·obtain⟨b1,o1,x,rfl,hb1,hx,c1⟩:=hA.arr.u32 h1 hb
     have x1:=hA.lt hx;have w1:IntKind.u64.wrap (x:Int)=(x:Int):=JL Q J;obtain⟨b2,o2,y,rfl,hb2,hy,c2⟩:=hC.arr.u32 h2 hb;have y1:=hC.lt hy;have w2:IntKind.u64.wrap (y:Int)=(y:Int):=JL Q J;obtain⟨t,ht⟩:∃t:Nat,t=s+x+y:=⟨_,Q⟩
     obtain⟨q,r,hq,hr,Fu⟩:=Zu t;have w3:IntKind.u64.wrap ((s:Int)+(x:Int))=(s:Int)+(x:Int):=(JL (k:=s+x) J J).trans J;have w4:IntKind.u64.wrap ((s:Int)+(x:Int)+(y:Int))=(t:Int):=JL J J;have Fv:=F (Zv (l:=l) (m:=m) (o:=o) (s:=t) (qrf Dd.out hlt) Hv (by rw[hx.out,hy.out];exact ht));have Kn:Aj (Own (Ai wr ⟨w,k,Z⟩ (U BF r)) w 132 1 CR (R (I ⟨w,0,Z⟩) AP AP) (o.set k r)):=F (Own.Ft (f:=fun n:Nat=>Value.int .u32 n) hown Dd k r);have CT:q<=1:=by have:=Fu.out.1;change q=t / 4294967296 at this;omega
     have hr1:Aj (r<AZ):=F (by rw[Fu.out.2];exact IB _ AC);rw[<-Fu.out.1,<-Fu.out.2]at Fv;clear ht x1 y1;go_wp2;go_roundw
     case rel=>exact⟨k+1,q,o.set k r,J,qgm,rfl,CT,by rw[LN];exact Dd.out,Hd.out.set hr1 k,Fv.out,Kn.out,hb.setCell (Bg _) _⟩
     case measure=>(simp[intOf] <;> omega)
    ·obtain⟨b1,o1,x,rfl,hb1,hx,c1⟩:=hA.arr.u32 h1 hb
     have x1:=hA.lt hx;have w1:IntKind.u64.wrap (x:Int)=(x:Int):=JL Q J;have hy:Aj (m[k]?=Z):=F (QO J);have y1:=True.intro;obtain⟨t,ht⟩:∃t:Nat,t=s+x:=⟨_,Q⟩
     obtain⟨q,r,hq,hr,Fu⟩:=Zu t;have w4:IntKind.u64.wrap ((s:Int)+(x:Int))=(t:Int):=JL J J;have Fv:=F (Zv (l:=l) (m:=m) (o:=o) (s:=t) (qrf Dd.out hlt) Hv (by rw[hx.out,hy.out];simp;omega));have Kn:Aj (Own (Ai wr ⟨w,k,Z⟩ (U BF r)) w 132 1 CR (R (I ⟨w,0,Z⟩) AP AP) (o.set k r)):=F (Own.Ft (f:=fun n:Nat=>Value.int .u32 n) hown Dd k r);have CT:q<=1:=by have:=Fu.out.1;change q=t / 4294967296 at this;omega
     have hr1:Aj (r<AZ):=F (by rw[Fu.out.2];exact IB _ AC);rw[<-Fu.out.1,<-Fu.out.2]at Fv;clear ht x1 y1;go_wp2;go_roundw
     case rel=>exact⟨k+1,q,o.set k r,J,qgm,rfl,CT,by rw[LN];exact Dd.out,Hd.out.set hr1 k,Fv.out,Kn.out,hb.setCell (Bg _) _⟩
     case measure=>(simp[intOf] <;> omega)
    ·have hx:Aj (l[k]?=Z):=F (QO J)
     have x1:=True.intro;obtain⟨b2,o2,y,rfl,hb2,hy,c2⟩:=hC.arr.u32 h2 hb;have y1:=hC.lt hy;have w2:IntKind.u64.wrap (y:Int)=(y:Int):=JL Q J;obtain⟨t,ht⟩:∃t:Nat,t=s+y:=⟨_,Q⟩
     obtain⟨q,r,hq,hr,Fu⟩:=Zu t;have w4:IntKind.u64.wrap ((s:Int)+(y:Int))=(t:Int):=JL J J;have Fv:=F (Zv (l:=l) (m:=m) (o:=o) (s:=t) (qrf Dd.out hlt) Hv (by rw[hx.out,hy.out];simp;omega));have Kn:Aj (Own (Ai wr ⟨w,k,Z⟩ (U BF r)) w 132 1 CR (R (I ⟨w,0,Z⟩) AP AP) (o.set k r)):=F (Own.Ft (f:=fun n:Nat=>Value.int .u32 n) hown Dd k r);have CT:q<=1:=by have:=Fu.out.1;change q=t / 4294967296 at this;omega
     have hr1:Aj (r<AZ):=F (by rw[Fu.out.2];exact IB _ AC);rw[<-Fu.out.1,<-Fu.out.2]at Fv;clear ht x1 y1;go_wp2;go_roundw
     case rel=>exact⟨k+1,q,o.set k r,J,qgm,rfl,CT,by rw[LN];exact Dd.out,Hd.out.set hr1 k,Fv.out,Kn.out,hb.setCell (Bg _) _⟩
     case measure=>(simp[intOf] <;> omega)
    ·have hx:Aj (l[k]?=Z):=F (QO J)
     have hy:Aj (m[k]?=Z):=F (QO J);have Fv:=F (Zv (l:=l) (m:=m) (o:=o) (s:=s) (qrf Dd.out hlt) Hv (by rw[hx.out,hy.out];simp));rw[Nat.mod_eq_of_lt (by simp only[AZ];omega),Ww (by simp only[AZ];omega)]at Fv;have Kn:Aj (Own (Ai wr ⟨w,k,Z⟩ (U BF s)) w 132 1 CR (R (I ⟨w,0,Z⟩) AP AP) (o.set k s)):=F (Own.Ft (f:=fun n:Nat=>Value.int .u32 n) hown Dd k s);have hs0:(s:Int) / 4294967296=0:=J;go_wp2;go_roundw
     case rel=>exact⟨k+1,0,o.set k s,J,qgm,rfl,J,by rw[LN];exact Dd.out,Hd.out.set (by simp only[AZ];omega) k,Fv.out,Kn.out,hb.setCell (Bg _) _⟩
     case measure=>(simp[intOf] <;> omega)
   ·obtain rfl:k=AP:=J
    have hw3:Nt wr (I ⟨w,0,Z⟩) k o:=by
     obtain⟨A1,c1,CZ,GC⟩:=Vy hown Hd;simp only[Value.slice.injEq]at CZ;obtain⟨rfl,_,rfl⟩:=CZ;exact GC
    rw[<-Dd.out]at hown hw3 ⊢;go_wp2_with(go_at_call 129;refine mqv (Tv _ _ o _ hw3.arr hw3.len hw3.cap) ?_);go_ret;refine⟨_,Q,?_,hb⟩;have Ot:=vC (cy:=s) (by have:=Hv.out;rw[EG (by rw[Dd.out];exact Bg _),EG J,EG J]at this;rw[Dd.out];exact this) hA.dig hC.dig (qrf Dd.out n1) (qrf Dd.out n2);rw[<-Ot];exact Own.trim hown Hd)
end
theorem jL{l m o:List Nat}{k s q r:Nat}(hk:k<Y o)(h:BH AZ (o.take k)+BH AZ (m.take k)=BH AZ (l.take k)+AZ^k*s)(hs:r+m[k]?.getD 0+s=l[k]?.getD 0+AZ*q):
  BH AZ ((o.set k r).take (k+1))+BH AZ (m.take (k+1))=BH AZ (l.take (k+1))+AZ^(k+1)*q:=by
 grind [BH,dU,dS]
theorem vD{l m o:List Nat}{s:Nat}(h:BH AZ o+BH AZ (m.take (Y o))=BH AZ l+AZ^Y o*s)(dl:BZ AZ l)(do_:BZ AZ o)(ho:Y o=Y l)(hle:AF m<=AF l):AF o=AF l-AF m:=by
 have a1:=LP dl;have a2:=LP do_;rw[<-ho]at a1
 have e:BH AZ (m.take (Y o))=AF m:=by
  by_cases hm:Y o<=Y m
  ·have:=XT (b:=AZ) m (Y o) hm
   unfold AF at*;rcases Nc (BH AZ (m.drop (Y o)))with h0 | h0
   ·grind
   ·have:AZ^Y o*1<=AZ^Y o*BH AZ (m.drop (Y o)):=LQ _ h0
    omega
  ·rw[EG J];rfl
 rw[e]at h;unfold AF at*;rcases Nc s with rfl | hs
 ·omega
 ·have:AZ^Y o*1<=AZ^Y o*s:=LQ _ hs
  omega
theorem jM{x s y:Nat}(hx:x<4294967296)(hs:s<=1)(hy:y<4294967296):∃t1 t q r:Nat,IntKind.u64.wrap ((x:Int)-(s:Int))=(t1:Int)/\IntKind.u64.wrap ((t1:Int)-(y:Int))=(t:Int)/\(t:Int)%4294967296=(r:Int)/\
  Aj ((t:Int) / 9223372036854775808=(q:Int))/\Aj (q<=1/\r<AZ/\r+y+s=x+AZ*q):=by
 simp only[IntKind.wrap_u64];rcases D4 x (s+y)with h | h
 ·refine⟨(((x:Int)-s)%18446744073709551616).toNat,18446744073709551616+x-s-y,1,4294967296+x-s-y,J,J,J,F J,F ⟨J,by grind,by grind⟩⟩
 ·refine⟨x-s,x-s-y,0,x-s-y,J,J,J,F J,F ⟨J,by grind,J⟩⟩
def dV(A:Option AS)(c:Nat)(l:List Nat)(C:Option AS)(d:Nat)(m:List Nat)(w:V)(hA:Nt w A c l)(hC:Nt w C d m)(hl:Y l<=2000000)(hm:Y m<=1000000)(hle:AF m<=AF l):
  AL AE 177 #[R A (Y l) c,R C (Y m) d] w fun e w'=>∃v,e=AN v/\Big w' w v (AF l-AF m)/\Ag w w w':=by
 have Hle:=F hle;clear hle;go_in;go_wp2_with(at_make;refine Nb underlying56 Um (fun n:Nat=>Value.int .u32 n) 0 (Y l) ?_;intro w3 Km hb3)
 go_loopw [6,14] (fun cy i wr=>∃(k s:Nat) (o:List Nat),k<=Y l/\i=U O k/\cy=U AA s/\s<=1/\Y o=Y l/\BZ AZ o/\BH AZ (o.take k)+BH AZ (m.take k)=BH AZ (l.take k)+AZ^k*s/\
  Own wr w 132 1 CR (R (I ⟨w,0,Z⟩) (Y l) (Y l)) o/\Ag w w wr) (fun _ i _=>Y l-(intOf i).toNat)
 case atStart=>exact⟨0,0,_,BM _,rfl,rfl,AC,AO,BZ.rep AC _,by simp[BH],Km,hb3⟩
 case round=>
  obtain⟨k,s,o,hk,rfl,rfl,hs,ID,hd,hv,hown,hb⟩:=hrel;have Hv:=F hv;have Hd:=F hd;have Dd:=F ID;clear hv hd ID;by_cases hlt:k<Y l
  ·have d0:=Own.Eg (f:=fun n:Nat=>Value.int .u32 n) hown Dd (CH (qrf Dd.out hlt))
   have d1:=Own.Dc (f:=fun n:Nat=>Value.int .u32 n) hown Dd k;obtain⟨b1,o1,x,rfl,hb1,hx,c1⟩:=hA.arr.u32 hlt hb;have x1:=hA.lt hx;have w1:IntKind.u64.wrap (x:Int)=(x:Int):=JL Q J;by_cases h2:k<Y m
   focus
    obtain⟨b2,o2,y,rfl,hb2,hy,c2⟩:=hC.arr.u32 h2 hb
    have y1:=hC.lt hy;have w2:IntKind.u64.wrap (y:Int)=(y:Int):=JL Q J;obtain⟨t1,t,q,r,w3,w4,w5,hq,hs2⟩:=jM x1 hs y1;have Fv:=F (jL (l:=l) (m:=m) (o:=o) (qrf Dd.out hlt) Hv (by rw[hx.out,hy.out];exact hs2.out.2.2))
   rotate_left
   focus
    have hy:Aj (m[k]?=Z):=F (QO J)
    obtain⟨t1,t,q,r,w3,w4,w5,hq,hs2⟩:=jM (y:=0) x1 hs AC;have e0:t=t1:=by rw[IntKind.wrap_u64]at w3 w4;omega
    subst e0;clear w4;have Fv:=F (jL (l:=l) (m:=m) (o:=o) (qrf Dd.out hlt) Hv (by rw[hx.out,hy.out];simpa using hs2.out.2.2))
   rotate_left
   all_goals
    have Kn:Aj (Own (Ai wr ⟨w,k,Z⟩ (U BF r)) w 132 1 CR (R (I ⟨w,0,Z⟩) (Y l) (Y l)) (o.set k r)):=F (Own.Ft (f:=fun n:Nat=>Value.int .u32 n) hown Dd k r);go_wp2;go_roundw
    case rel=>exact⟨k+1,q,o.set k r,J,qgm,by rw[hq.out],hs2.out.1,by rw[LN];exact Dd.out,Hd.out.set hs2.out.2.1 k,Fv.out,Kn.out,hb.setCell (Bg _) _⟩
    case measure=>(simp[intOf] <;> omega)
  ·obtain rfl:k=Y l:=J
   have hw3:Nt wr (I ⟨w,0,Z⟩) (Y l) o:=by
    obtain⟨A1,c1,CZ,GC⟩:=Vy hown Hd;simp only[Value.slice.injEq]at CZ;obtain⟨rfl,_,rfl⟩:=CZ;exact GC
   have Ot:=vD (s:=s) (by have:=Hv.out;rw[EG (by rw[Dd.out];exact Bg _),Ia]at this;rw[Dd.out];exact this) hA.dig Hd Dd Hle;have cT:=Tv _ _ o _ hw3.arr hw3.len hw3.cap;rw[Dd.out]at cT;go_wp2_with(go_at_call 129;refine mqv (cT) ?_);go_ret;refine⟨_,Q,?_,hb⟩;rw[<-Ot];exact Own.trim hown Hd
section
variable{C0 b k s x y z:Nat}{l m o:List Nat}
theorem vE(h:l[k]?=I x):b^k*x<=BH b l:=by
 have hk:=(EF.1 h).1;have h1:=XT (b:=b) l (k+1) J
 grind [BH,Tu]
def vF(h:l[k]?=I x)(hv:BH b l<b^k):x=0:=by
 rcases Nc x with h0 | h0
 ·exact h0
 ·have h1:=vE (b:=b) h
  have:b^k*1<=b^k*x:=LQ _ h0;omega
theorem vG{q r P:Nat}(hz:o[C0+k]?=I z)(hy:m[k]?=I y)(h:BH AZ o+AZ^(C0+k)*s=P+AZ^C0*(x*BH AZ (m.take k)))(ht:r+AZ*q=s+(x*y+z)):
  BH AZ (o.set (C0+k) r)+AZ^(C0+(k+1))*q=P+AZ^C0*(x*BH AZ (m.take (k+1))):=by
 grind [BH,dM,Tu]
theorem vH(hx:l[C0]?=I x)(hz:o[C0+Y m]?=I 0)(h:BH AZ o+AZ^(C0+Y m)*s=BH AZ (l.take C0)*AF m+AZ^C0*(x*BH AZ m)):
  BH AZ (o.set (C0+Y m) s)=BH AZ (l.take (C0+1))*AF m:=by
 grind [BH,AF,dM,Tu]
def vJ(hz:o[C0+Y m]?=I z)(h:BH AZ o=BH AZ (l.take C0)*AF m)(hI:C0<=Y l)(dl:BZ AZ l)(dm:BZ AZ m):z=0:=by
 refine vF (b:=AZ) hz ?_;rw[h,Ou];have h1:=LP (dl.take C0);rw[DC,Oo hI]at h1;have h2:=LP dm;exact Sx h1 h2
theorem vK(hx:x<4294967296)(hy:y<4294967296)(hz:z<4294967296)(hs:s<4294967296):
  ∃p pz t q r:Nat,IntKind.u64.wrap ((x:Int)*(y:Int))=(p:Int)/\IntKind.u64.wrap ((p:Int)+(z:Int))=(pz:Int)/\IntKind.u64.wrap ((s:Int)+(pz:Int))=(t:Int)/\(t:Int) / 4294967296=(q:Int)/\(t:Int)%4294967296=(r:Int)/\
   Aj (q<4294967296/\r<AZ/\r+AZ*q=s+(x*y+z)):=by
 have h1:x*y<=4294967295*4294967295:=Nd J J;have hc:((x:Int)*(y:Int))=((x*y:Nat):Int):=AO;refine⟨x*y,x*y+z,s+(x*y+z),(s+(x*y+z)) / 4294967296,(s+(x*y+z))%4294967296,JL hc J,JL J J,JL J J,J,J,F ⟨J,by grind,by grind⟩⟩
def Ov(A:Option AS)(c:Nat)(l:List Nat)(C:Option AS)(d:Nat)(m:List Nat)(w:V)(hA:Nt w A c l)(hC:Nt w C d m)(hl:Y l<=1000000)(hm:Y m<=1000000):
  AL AE 131 #[R A (Y l) c,R C (Y m) d] w fun e w'=>∃v,e=AN v/\Big w' w v (AF l*AF m)/\Ag w w w':=by
 obtain⟨i0,hi,hz0,hz1,hz2⟩:=IA Um;obtain⟨AP,hN⟩:∃AP:Nat,(Y l:Int)+(Y m:Int)=(AP:Int):=⟨Y l+Y m,J⟩
 have n3:AP<=2000000:=J;have n4:Aj (Y l+Y m=AP):=F J;go_in;go_wp2_with(at_make;refine Nb underlying56 Um (fun n:Nat=>Value.int .u32 n) 0 AP ?_;intro w3 Km hb3);clear hN
 go_loopw [17] (fun i wr=>∃(k:Nat) (o:List Nat),k<=Y l/\i=U O k/\Y o=AP/\BZ AZ o/\BH AZ o=BH AZ (l.take k)*AF m/\
  Own wr w 132 1 CR (R (I ⟨w,0,Z⟩) AP AP) o/\Ag w w wr) (fun i _=>Y l-(intOf i).toNat)
 case atStart=>exact⟨0,_,BM _,rfl,AO,BZ.rep AC _,by simp[BH,jG],Km,hb3⟩
 case round=>
  obtain⟨C0,o,hI,rfl,ID,hd,hv,hown,hb⟩:=hrel;by_cases hlt:C0<Y l
  ·obtain⟨b1,o1,x,rfl,hb1,hx,c1⟩:=hA.arr.u32 hlt hb
   have x1:=hA.lt hx;have nI:C0+Y m<AP:=by have:=n4.out;omega
   have hz:=CH (l:=o) (i:=C0+Y m) J;have hz0:Aj (o[C0+Y m]?=I 0):=F (by rw[hz,vJ hz hv hI hA.dig hC.dig]);have Hv:=F hv;have Hd:=F hd;have Dd:=F ID;have vM:=F hown;clear hz hv hd ID hown c1;go_wp2
   go_loopw [7,22] (fun cy i wr'=>∃(k s:Nat) (o':List Nat),k<=Y m/\i=U O k/\cy=U AA s/\s<4294967296/\Y o'=AP/\BZ AZ o'/\o'[C0+Y m]?=I 0/\
    BH AZ o'+AZ^(C0+k)*s=BH AZ (l.take C0)*AF m+AZ^C0*(x*BH AZ (m.take k))/\
    Own wr' w 132 1 CR (R (I ⟨w,0,Z⟩) AP AP) o'/\Ag w w wr') (fun _ i _=>Y m-(intOf i).toNat)
   case atStart=>exact⟨0,0,o,BM _,rfl,rfl,AC,Dd.out,Hd.out,hz0.out,by rw[Hv.out];simp[BH],vM.out,hb⟩
   case round=>
    obtain⟨k,s,o',hk,rfl,rfl,hs,jO,hd',hz',hv',hown',hb'⟩:=hrel;have Hv':=F hv';have Hd':=F hd';have QP:=F jO;have Hz':=F hz';clear hv' hd' jO hz';by_cases LR:k<Y m
    ·obtain⟨b1',o1',x',e1,Aja,hx',c1⟩:=hA.arr.u32 hlt hb'
     obtain rfl:x=x':=by have:=hx.out.symm.trans hx';simpa using this
     obtain⟨rfl,rfl⟩:b1=b1'/\o1=o1':=qsu e1;obtain⟨b2,o2,y,rfl,hb2,hy,c2⟩:=hC.arr.u32 LR hb';have y1:=hC.lt hy;have hzz:=CH (l:=o') (i:=C0+k) (by rw[QP.out];omega);obtain⟨z,hz1⟩:∃z,o'[C0+k]?=I z:=⟨_,hzz⟩
     clear hzz e1 hx';have z1:z<4294967296:=Hd'.out.get hz1;have d0:=Own.Eg (f:=fun n:Nat=>Value.int .u32 n) hown' QP hz1;have d1:=Own.Dc (f:=fun n:Nat=>Value.int .u32 n) hown' QP (C0+k);obtain⟨p,pz,t,q,r,w1,w2,w3',w4,w5,hs2⟩:=vK x1 y1 z1 hs;have u1:IntKind.u64.wrap (x:Int)=(x:Int):=JL Q J;have u2:IntKind.u64.wrap (y:Int)=(y:Int):=JL Q J;have u3:IntKind.u64.wrap (z:Int)=(z:Int):=JL Q J;have Fv:=F (vG hz1 hy Hv' hs2.out.2.2);have hIk:Aj (C0+k≠C0+Y m):=F J;have jN:C0+k<AP:=J;obtain⟨Bi,hJ⟩:=Az (C0+k);have nIk:(C0:Int)+(k:Int)=(Bi:Int):=J;rw[hJ]at d0 d1 Fv hIk jN;rw[hJ]at hz1;have Ep:=F hz1;clear hJ hz1;have f1:=Di c1;have f2:=Di c2;have f3:=Di d0;go_wp2;refine qrl ?_;rintro w5⟨⟨_,Bh⟩,rfl⟩;have QQ:=hown'.below Bh;have d0':=Own.Eg (f:=fun n:Nat=>Value.int .u32 n) QQ QP Ep;have d1':=Own.Dc (f:=fun n:Nat=>Value.int .u32 n) QQ QP Bi;have Kn:Aj (Own (Ai w5 ⟨w,Bi,Z⟩ (U BF r)) w 132 1 CR (R (I ⟨w,0,Z⟩) AP AP) (o'.set Bi r)):=F (Own.Ft (f:=fun n:Nat=>Value.int .u32 n) QQ QP Bi r);clear f1 f2 f3 d0 d1;go_wp2;go_roundw;exact⟨k+1,q,o'.set Bi r,J,qgm,rfl,hs2.out.1,by rw[LN];exact QP.out,Hd'.out.set hs2.out.2.1 Bi,by rw[List.getElem?_set_ne hIk];exact Hz'.out,Fv.out,Kn.out,(hb'.trans (Bh.mono hb'.size)).setCell (Bg _) _⟩;(simp[intOf] <;> omega)
    ·obtain rfl:k=Y m:=J
     have hIk:=F nI;obtain⟨Bi,hJ⟩:=Az (C0+Y m);have nIk:(C0:Int)+(Y m:Int)=(Bi:Int):=J;have HJ:=F hJ;rw[hJ]at nI;have Eh:Aj (o'[Bi]?=I 0):=F (qrb hJ Hz');have d0:=Own.Eg (f:=fun n:Nat=>Value.int .u32 n) hown' QP Eh;have d1:=Own.Dc (f:=fun n:Nat=>Value.int .u32 n) hown' QP Bi
     have vN:Aj (BH AZ (o'.set Bi s)=BH AZ (l.take (C0+1))*AF m):=F (by
      rw[<-HJ.out];exact vH hx Hz' (by have:=Hv'.out;rwa [Ia]at this))
     have Kn:Aj (Own (Ai wr ⟨w,Bi,Z⟩ (U BF s)) w 132 1 CR (R (I ⟨w,0,Z⟩) AP AP) (o'.set Bi s)):=F (Own.Ft (f:=fun n:Nat=>Value.int .u32 n) hown' QP Bi s);clear hJ;go_wp2;go_roundw
     case rel=>exact⟨C0+1,o'.set Bi s,J,qgm,by rw[LN];exact QP.out,Hd'.out.set (by simp only[AZ];omega) Bi,vN.out,Kn.out,hb'.setCell (Bg _) _⟩
     case measure=>(simp[intOf] <;> omega)
  ·obtain rfl:C0=Y l:=J
   have hw3:Nt wr (I ⟨w,0,Z⟩) AP o:=by
    obtain⟨A1,c1,CZ,GC⟩:=Vy hown hd;simp only[Value.slice.injEq]at CZ;obtain⟨rfl,_,rfl⟩:=CZ;exact GC
   have Ot:Aj (AF o=AF l*AF m):=F (by unfold AF at*;rwa [Ia]at hv);have cT:=Tv _ _ o _ hw3.arr hw3.len hw3.cap;rw[ID]at cT;have Hv:=F hv;have Hd:=F hd;have Dd:=F ID;clear hv hd ID;go_wp2_with(go_at_call 129;refine mqv (cT) ?_);go_ret;refine⟨_,Q,?_,hb⟩;rw[<-Ot.out];exact Own.trim hown Hd
end
section
variable{h k lo n r x z:Nat}{l o:List Nat}
def E8(n:Nat):Nat:=(G4 2 n).length
theorem dW:E8 0=0:=by grind [E8,Vv]
theorem Zx(h:0<n):E8 n=E8 (n / 2)+1:=by unfold E8;grind [G4]
theorem dX(n:Nat):n<2^E8 n:=Wx AC n
def XZ(h:n<2^k):E8 n<=k:=Uj AC h
theorem bitLen_eq(h1:n<2^k)(h2:∀j,j<k->2^j<=n):E8 n=k:=by
 have:=XZ h1
 grind [E8,dX]
theorem vO(h:0<n):2^(E8 n-1)<=n:=by
 rcases D4 n (2^(E8 n-1))with h1 | h1
 ·have:=XZ h1
  grind
 omega
theorem vP(h:lo<2^k)(hx:0<x):E8 (lo+2^k*x)=k+E8 x:=by
 have h1:=dX x;have h2:=vO hx;have h3:=Zx hx;refine bitLen_eq ?_ fun j hj=>?_
 ·have:2^k*(x+1)<=2^k*2^E8 x:=LQ _ h1
  grind
 ·have a1:2^j<=2^(k+(E8 x-1)):=LT AC J
  have a2:2^k*2^(E8 x-1)<=2^k*x:=LQ _ h2
  grind
theorem Ty(k:Nat):AZ^k=2^(32*k):=by rw[Nat.pow_mul]
theorem vS(hl:(AJ n).length=k+1)(hx:(AJ n)[k]?=I x):0<x/\x<AZ/\E8 n=32*k+E8 x:=by
 have h1:=Tu (b:=AZ) hx;rw[EG J]at h1;have h2:BH AZ (AJ n)=n:=Bu n;have h3:=LP ((Ul n).take k);rw[DC,Oo J,Ty]at h3
 have hp:0<x:=by
  rcases Nc x with rfl | h
  ·have h4:n<AZ^k:=by
    grind [AJ,BH,Ty]
   have:=Uj IC h4;unfold AJ at hl;omega
  omega
 refine⟨hp,(Ul n).get hx,?_⟩;rw[<-h2,h1,Ty,vP h3 hp]
def Y4(A:Option AS)(c:Nat)(l:List Nat)(w:V)(hA:Nt w A c l)(hl:Y l<=1000000):
  AL AE 80 #[R A (Y l) c] w fun e w'=>e=AN (U O (E8 (AF l)))/\w=w':=by
 have cT:=Tv _ _ l _ hA.arr hA.len hA.cap;have k1:=Vx l;have ha:=hA.arr.take (Eo l).length;rw[<-Vw]at ha;rw[QM hA.dig]at cT k1 ha;have hbl:=fun k x h1 h2=>vS (n:=AF l) (k:=k) (x:=x) h1 h2
 have h0:AJ (AF l)=[]->E8 (AF l)=0:=fun h=>by
  have:=Bu (AF l);rw[h]at this;rw[<-this];exact dW
 generalize AJ (AF l)=L at*;have Hbl:=F hbl;have H0:=F h0;clear hbl h0;cases hk:Y L with
 | zero=>
  have e0:=WC hk;rw[hk]at cT;go_in;go_wp2_with(go_at_call 129;refine mqv (cT) ?_);go_ret;exact⟨Cg (by rw[H0.out e0];rfl),Q⟩
 | succ k=>
  obtain⟨b1,o1,x,rfl,hb1,hx,c1⟩:=ha.u32 (k:=k) J (Ae _ _);rw[hk]at cT;obtain⟨x0,x1,x2⟩:=Hbl.out _ _ hk hx;have X2:=F x2;have k2:k<1000000:=J;clear x2 hk;simp only[AZ]at x1;go_in;go_wp2_with(go_at_call 129;refine mqv (cT) ?_);clear cT;have x3:E8 x<=32:=XZ J;have jb:Aj (E8 (AF l)<=32000032):=F (by rw[X2.out];omega);clear x3;go_loop [3,4] (fun n y=>∃(j z:Nat),n=U O j/\y=U BF z/\z<=x/\j<=32000032/\j+E8 z=E8 (AF l)) (fun _ y=>(intOf y).toNat);exact⟨32*k,x,qgm,rfl,Bg _,by have:=jb.out;have:=X2.out;omega,X2.out.symm⟩
  obtain⟨j,z,rfl,rfl,hz,hjb,hj⟩:=hrel;have Hj:=F hj;clear hj;rcases Nc z with rfl | hz0
  ·go_wp2
   go_ret;exact⟨Cg (by rw[<-Hj.out,dW];rfl),Q⟩
  ·have hp:=F (Zx hz0)
   go_wp2;go_round
   case rel=>exact⟨j+1,z / 2,qgm,rfl,J,by have:=jb.out;have:=Hj.out;have:=hp.out;omega,by have:=Hj.out;have:=hp.out;omega⟩
   case measure=>(simp[intOf] <;> omega)
theorem jP{i:Nat}(hx:l[i / 32]?=I x)(dl:BZ AZ l):AF l / 2^i%2=x / 2^(i%32)%2:=by
 have hk:=(EF.1 hx).1;have h1:=XT (b:=AZ) l (i / 32+1) J;rw[Tu hx]at h1;have h2:=LP (dl.take (i / 32));rw[DC,Oo J]at h2
 have e1:(2:Nat)^i=AZ^(i / 32)*2^(i%32):=by
  rw[Ty,<-Ou];grind
 have e2:AF l=BH AZ (l.take (i / 32))+AZ^(i / 32)*(x+AZ*BH AZ (l.drop (i / 32+1))):=by
  grind [AF,BH,BZ]
 have e3:AZ=2^(i%32)*(2*2^(31-i%32)):=by
  rw[<-Nat.pow_succ',<-Ou,show i%32+(31-i%32).succ=32 from by omega]
 rw[e1,<-Nat.div_div_eq_div_mul,e2,XW _ _ (Ow AC),Ww h2,EE];generalize BH AZ (l.drop (i / 32+1))=hi;rw[show AZ*hi=2^(i%32)*(2*(2^(31-i%32)*hi))from by grind,XW _ _ (Ow AC),XV]
theorem vT{s:Nat}(hx:x<4294967296):bits .and .u32 ((x:Int) / 2^s) 1=((x / 2^s%2:Nat):Int):=by
 have h:x / 2^s<4294967296:=Do (Sy _ _) hx;have:=u32_and_nat (x / 2^s) 1 h AC
 grind
def jQ(A:Option AS)(c:Nat)(l:List Nat)(i:Nat)(w:V)(hA:Nt w A c l)(hl:Y l<=1000000)(hi:i / 32<Y l):
  AL AE 176 #[R A (Y l) c,U O i] w fun e w'=>e=AN (U BF ((AF l / 2^i%2:Nat):Int))/\w=w':=by
 obtain⟨b1,o1,x,rfl,hb1,hx,c1⟩:=hA.arr.u32 (k:=i / 32) J (Ae _ _);have AM:=F (jP hx hA.dig);have x1:=hA.lt hx;go_in;go_wp2;go_ret;exact⟨Cg (qrf AM.out (vT x1)),Q⟩
theorem vU{q:Nat}(hk:k<Y o)(hz:l[k]?=I z)(hv:BH AZ (o.take k)+AZ^k*h=2*BH AZ (l.take k)+lo)(hr:r+AZ*q=2*z+h):
  BH AZ ((o.set k r).take (k+1))+AZ^(k+1)*q=2*BH AZ (l.take (k+1))+lo:=by
 grind [BH,dU,Tu]
theorem vV(h:o.drop k=l.drop k):o[k]?=l[k]?:=by
 have:=congrArg (fun x=>x[0]?) h
 grind
def drop_set(h:o.drop k=l.drop k):(o.set k r).drop (k+1)=l.drop (k+1):=by
 rw[List.drop_set_of_lt J];have:=congrArg (List.drop 1) h;rw[List.drop_drop,List.drop_drop]at this;omega
theorem Fj{a b c:V}{g:Option Nat}(h:a.grownBy b g)(k:b.grownBy c g):a.grownBy c g:=
 ⟨k.os.trans h.os,k.tape.trans h.tape,k.output.trans h.output,Br h.size k.size,fun j hj hn=>(k.block j (Ck hj h.size) hn).trans (h.block j hj hn)⟩
def dY(a:V)(g:Option Nat):a.grownBy a g:=⟨Q,Q,Q,Bg _,fun _ _ _=>rfl⟩
theorem Le(w:V)(g k:Nat)(u:An):w.grownBy (Ai w ⟨g,k,Z⟩ u) (I g):=
 ⟨(Ae 0 w |>.setCell (BM _) u).os,(Ae 0 w |>.setCell (BM _) u).tape,(Ae 0 w |>.setCell (BM _) u).output,(Ae 0 w |>.setCell (BM _) u).size,fun j _ hn=>Fd w _ u j (by grind)⟩
theorem vW(hz:z<4294967296)(hh:h<=1):∃q r:Nat,(z:Int) / 2147483648=(q:Int)/\bits .or .u32 ((z:Int)*2%4294967296) (h:Int)=(r:Int)/\Aj (q<=1/\r<AZ/\r+AZ*q=2*z+h):=by
 refine⟨z / 2147483648,z*2%4294967296+h,J,?_,F ⟨J,by grind,by grind⟩⟩;have h1:=u32_or_nat (z*2%4294967296) h J J;rw[nat_join 1 _ _ J J]at h1
 grind
def jR(g:Nat)(l:List Nat)(lo base n:Nat)(w:V)(hA:Own w base 132 1 CR (R (I ⟨g,0,Z⟩) n n) l)(hn:Y l=n)(hd:BZ AZ l)(hl:n<=2000000)(hlo:lo<=1):
  AL AE 175 #[R (I ⟨g,0,Z⟩) n n,U BF lo] w fun e w'=>e=AN (Be #[])/\∃l' h,Y l'=n/\BZ AZ l'/\AF l'+AZ^n*h=2*AF l+lo/\Own w' base 132 1 CR (R (I ⟨g,0,Z⟩) n n) l'/\w.grownBy w' (I g):=by
 have Hn:=F hn;have Hd:=F hd;clear hn hd;go_in;go_wp2
 go_loopw [1,8] (fun lw i wr=>∃(k h:Nat) (o:List Nat),k<=n/\i=U O k/\lw=U BF h/\h<=1/\Y o=n/\BZ AZ o/\o.drop k=l.drop k/\BH AZ (o.take k)+AZ^k*h=2*BH AZ (l.take k)+lo/\
  Own wr base 132 1 CR (R (I ⟨g,0,Z⟩) n n) o/\w.grownBy wr (I g)) (fun _ i _=>n-(intOf i).toNat)
 case atStart=>exact⟨0,lo,l,BM _,rfl,rfl,hlo,Hn.out,Hd.out,rfl,by simp[BH],hA,dY _ _⟩
 case round=>
  obtain⟨k,h,o,hk,rfl,rfl,hh,ID,hdo,hdr,hv,hown,hgr⟩:=hrel;have Dd:=F ID;have Hdo:=F hdo;have Hdr:=F hdr;have Hv:=F hv;clear ID hdo hdr hv;by_cases hlt:k<n
  ·obtain⟨z,hz⟩:∃z,o[k]?=I z:=⟨_,CH (qrf Dd.out hlt)⟩
   have z1:z<4294967296:=Hdo.out.get hz;have d0:=Own.Eg (f:=fun n:Nat=>Value.int .u32 n) hown Dd hz;have d1:=Own.Dc (f:=fun n:Nat=>Value.int .u32 n) hown Dd k;have Hz:=F hz;clear hz;obtain⟨q,r,w1,w2,Fu⟩:=vW z1 hh;have Fv:=F (vU (l:=l) (o:=o) (qrf Dd.out hlt) (by rw[<-vV Hdr];exact Hz.out) Hv Fu.out.2.2);have Kn:Aj (Own (Ai wr ⟨g,k,Z⟩ (U BF r)) base 132 1 CR (R (I ⟨g,0,Z⟩) n n) (o.set k r)):=F (Own.Ft (f:=fun n:Nat=>Value.int .u32 n) hown Dd k r);go_wp2;go_roundw
   case rel=>exact⟨k+1,q,o.set k r,J,qgm,rfl,Fu.out.1,by rw[LN];exact Dd.out,Hdo.out.set Fu.out.2.1 k,drop_set Hdr,Fv.out,Kn.out,Fj hgr (Le _ _ _ _)⟩
   case measure=>(simp[intOf] <;> omega)
  ·obtain rfl:k=n:=J
   go_wp2;go_end0;have:=Hv.out;rw[EG (by rw[Dd.out];exact Bg _),EG (by rw[Hn.out];exact Bg _)]at this;exact⟨Q,o,h,Dd.out,Hdo.out,this,hown,hgr⟩
end
section
variable{base d e g j n s z:Nat}{l:List Nat}{o:Oper}{w:V}{α:Type}
theorem Zy(h:Own w base 132 1 CR (R (I ⟨g,0,Z⟩) n n) l)(hd:BZ AZ l):Nt w (I ⟨g,0,Z⟩) n l:=by
 grind [Own,CR,BZ,Vy]
theorem Fw(w:V)(g:Nat)(cs:Array An):w.grownBy (w.setRow g cs) (I g):=
 ⟨rfl,rfl,rfl,by simp[World.setRow],fun k _ hn=>setRow_other w g k cs (by grind)⟩
def jS{f:α->An}{l:List α}(hown:Own w base e 1 (fun x=>[f x]) (R (I ⟨g,0,Z⟩) n n) l)(hl:Y l=n):w.heap[g]?=I (N (l.map f).toArray e (0,0))/\base<=g/\n<=maxLen:=by
 subst hl;rcases hown.2 with⟨hv,_⟩ | ⟨g',cap,cur,hv,hg,hh,hn,hmx,hc,ht⟩
 ·simp at hv
 simp only[Value.slice.injEq,Option.some.injEq,Addr.mk.injEq]at hv;obtain⟨⟨rfl,_⟩,_,rfl⟩:=hv;rw[N9,JK]at ht;rw[JK]at hc;have dP:cur.toList=l.map f:=by rw[<-ht,EG (by simp[hc])]
 exact⟨by rw[hh,<-dP],hg,hmx⟩
def jT{f:α->An}{l:List α}(hh:w.heap[g]?=I (N (l.map f).toArray e (0,0)))(hg:base<=g)(hn:n<=maxLen)(hl:Y l=n):Own w base e 1 (fun x=>[f x]) (R (I ⟨g,0,Z⟩) n n) l:=by
 subst hl;refine⟨by rw[N9];simp,.inr ⟨g,_,_,rfl,hg,hh,Bg _,hn,AO,?_⟩⟩;rw[N9,JK,EG AO]
def vX{P:Program}{w:V}{ops:Array Oper}{rest:List Oper}{a:Act}{Bn:Exit->Act->V->Prop}(hgd:o.guard=Z)(d s:Operand)(dT sT:TypeId)
  (ho:o.op=.call {callee:= .builtin .copy,args:=#[d,s],argTypes:=#[dT,sT]}) (e:TypeId) (hu:P.underlying dT=I (.slice e)) (hsz:(P.info? e).map (·.size)=I 1)
  {α:Type} {f:α->An} (h1:∀x,(f x).oneCell'=true) {base:Nat} {g n:Nat} {l m:List α} {A:Option AS} {B c:Nat} (hd:a.eval d=R (I ⟨g,0,Z⟩) n n) (hs:a.eval s=R A (Y m) c)
  (hown:Own w base e 1 (fun x=>[f x]) (R (I ⟨g,0,Z⟩) n n) l) (hl:Y l=n) (hA:Arr 1 (fun x=>[f x]) w B A m) (hm:Y m<=n)
  (h:∀w',Own w' base e 1 (fun x=>[f x]) (R (I ⟨g,0,Z⟩) n n) (m++ l.drop (Y m))->w.grownBy w' (I g)->wpList P ops Bn rest (a.put o.dst (goInt (Y m))) w'):wpList P ops Bn (o::rest) a w:=by
 obtain⟨hh,hg,hmx⟩:=jS hown hl;by_cases h0:m=[]
 ·subst h0
  refine wpList_copy_nothing hgd d s dT sT ho e hu hsz _ _ _ _ _ _ hd hs AO ?_;exact h w (qsu hown) (dY _ _)
 ·obtain⟨b,off,rfl,BN,hc'⟩:=hA h0
  have hfc:=dJ (sz:=1) (enc:=fun x=>[f x]) (fun _=>rfl) AC hc';rw[N9]at hfc;refine wpList_copy_own hgd d s dT sT ho e hu hsz g 0 n n _ _ _ hd hs (l.map f).toArray e hh (m.map f) ?_ hfc qsm ?_ ?_
  ·simp[Nat.min_def];omega
  ·intro v hv
   obtain⟨x,_,rfl⟩:=Ld.1 hv;exact h1 x
  ·have e1:(((l.map f).toArray.toList.take 0++ (m.map f++ (l.map f).toArray.toList.drop (0+(m.map f).length))).toArray)=((m++ l.drop (Y m)).map f).toArray:=by simp[List.map_drop]
   rw[e1];have h2:=h (w.setRow g ((m++ l.drop (Y m)).map f).toArray) (jT (GS w g _ _ e _ hh) hg hmx qsm) (Fw _ _ _);simpa using h2
def vY{P:Program}{w:V}{ops:Array Oper}{rest:List Oper}{a:Act}{Bn:Exit->Act->V->Prop}(hgd:o.guard=Z)(s:Operand)(t:TypeId)
  (ho:o.op=.call {callee:= .builtin .clear,args:=#[s],argTypes:=#[t]}) (e:TypeId) (ht:P.underlying t=I (.slice e)) (z:An) (hz:∀w,(zeroValue e).run P w=.ok z w) (hzc:z.cells=#[z]) (hz1:z.oneCell'=true)
  {α:Type} {f:α->An} (dflt:α) (hfd:f dflt=z) {base g n:Nat} {l:List α} (hs:a.eval s=R (I ⟨g,0,Z⟩) n n) (hown:Own w base e 1 (fun x=>[f x]) (R (I ⟨g,0,Z⟩) n n) l) (hl:Y l=n) (hn:0<n)
  (h:∀w',Own w' base e 1 (fun x=>[f x]) (R (I ⟨g,0,Z⟩) n n) (List.replicate n dflt)->w.grownBy w' (I g)->wpList P ops Bn rest (a.put o.dst (Be #[])) w'):wpList P ops Bn (o::rest) a w:=by
 obtain⟨hh,hg,hmx⟩:=jS hown hl;refine wpList_plain hgd fun K hK=>?_
 have vZ:(Builtin.zeroCells z.cells n).toList=List.replicate n z:=by
  rw[hzc];simp[Builtin.zeroCells];apply List.ext_getElem
  ·simp
  ·intro i h1 h2
   simp[Nat.mod_one]
 have hst:=run_storeCells_at P g 0 e (List.replicate n z) 0 (l.map f).toArray w hh qsm (by intro v hv';rw[List.eq_of_mem_replicate hv'];exact hz1);have e1:(((l.map f).toArray.toList.take (0+0)++ List.replicate n z++ (l.map f).toArray.toList.drop (0+0+(List.replicate n z).length)).toArray)=((List.replicate n dflt).map f).toArray:=by rw[WB (by simp[hl])];simp[hfd]
 rw[e1]at hst;have h2:=h (w.setRow g ((List.replicate n dflt).map f).toArray) (jT (GS w g _ _ e _ hh) hg hmx AO) (Fw _ _ _);obtain⟨m,rfl⟩:∃m,n=m+1:=⟨n-1,J⟩
 unfold Oper.wp;simp[execOp,ho,resolve,invoke,builtin,hs,Builtin.clear_,run_underlying ht,hz,vZ,hst,Result.andThen];exact hK _ _ (qsu h2)
def we(w:V):(zeroValue 132).run AE w=.ok (U BF 0) w:=AG
theorem wg{a:Nat}(hd:0<d)(h:d<=2*(a%d)+e)(he:e<=1):(2*a+e) / d=2*(a / d)+1/\(2*a+e)%d=2*(a%d)+e-d:=by
 have h1:=Wv a d;have h2:=IB a hd;have e1:2*a+e=(2*(a%d)+e-d)+d*(2*(a / d)+1):=by grind
 constructor
 ·rw[e1,XW _ _ hd,Ww J];omega
 ·rw[e1,XV,Nat.mod_eq_of_lt J]
theorem wj{a:Nat}(hd:0<d)(h:2*(a%d)+e<d):(2*a+e) / d=2*(a / d)/\(2*a+e)%d=2*(a%d)+e:=by
 have h1:=Wv a d;have e1:2*a+e=(2*(a%d)+e)+d*(2*(a / d)):=by grind
 constructor
 ·rw[e1,XW _ _ hd,Ww h];omega
 ·rw[e1,XV,Nat.mod_eq_of_lt h]
def wl(n j:Nat):n / 2^j=2*(n / 2^(j+1))+n / 2^j%2:=by
 rw[LS,<-Nat.div_div_eq_div_mul];omega
theorem jU(h:z / 2^s%2=0):z ||| 2^s=z+2^s:=by
 have hp:0<2^s:=Ow AC;have h1:=Wv z (2^(s+1))
 have h2:z%2^(s+1)<2^s:=by
  have h3:=Wv z (2^s);have h4:=IB z hp;have h5:z / 2^s=2*(z / 2^s / 2):=J
  have h6:z=z%2^s+2^(s+1)*(z / 2^s / 2):=by
   grind
  rw[h6,XV];exact Do (Nat.mod_le _ _) h4
 have hx:(2^(s+1)*(z / 2^(s+1)))%2^(s+1)=0:=Nat.mul_mod_right _ _;have e1:=nat_join (s+1) (2^(s+1)*(z / 2^(s+1))) (z%2^(s+1)) hx (IB _ (Ow AC));have e2:=nat_join s (2^s) (z%2^(s+1)) (Nat.mod_self _) h2;have e3:=nat_join (s+1) (2^(s+1)*(z / 2^(s+1))) (2^s+z%2^(s+1)) hx J
 grind
def wn{t:Nat}(h:n=t*2^(j+1)):n / 2^j%2=0:=by
 rw[h,LS,Om (2^j),<-Nat.mul_assoc,Nat.mul_div_cancel _ (Ow AC)];omega
theorem wq(hz:l[j / 32]?=I z):AF (l.set (j / 32) (z+2^(j%32)))=AF l+2^j:=by
 have h:=dM (b:=AZ) (y:=z+2^(j%32)) hz
 have e1:(2:Nat)^j=AZ^(j / 32)*2^(j%32):=by
  rw[Ty,<-Ou];grind
 rw[Nat.mul_add]at h;unfold AF;omega
def wu(hz:z<4294967296)(hs:s<32)(h:z / 2^s%2=0):z+2^s<4294967296:=by
 rw[<-jU h];exact Nat.or_lt_two_pow (n:=32) hz (WE AC hs)
end
section
variable{A:Option AS}{base c e:Nat}{l:List Nat}{w:V}
def Nt.trim(h:Nt w A c l):Nt w A c (AJ (AF l)):=by
 have h1:=h.arr.take (Eo l).length;rw[<-Vw,QM h.dig]at h1;have h2:=Vx l;rw[QM h.dig]at h2;exact⟨h1,Br h2 h.len,h.cap,Ul _,h.nil⟩
def Zz(h:BZ AZ l):(AJ (AF l)).length<=Y l:=by
 rw[<-QM h];exact Vx l
def ZA(h:Nt w A c l):
  AL AE 129 #[R A (Y l) c] w fun e w'=>e=AN (R A (AJ (AF l)).length c)/\w=w':=by
 rw[<-QM h.dig];exact Tv A c l w h.arr h.len h.cap
def wF(h:BZ AZ l):AF l<2^(32*Y l):=qrb Ty (LP h)
def jY(h:BZ AZ l):E8 (AF l)<=32*Y l:=XZ (wF h)
def jZ(l m:List Nat):AF (l++ m)=AF l+AZ^Y l*AF m:=Zo l m
def ZB(n:Nat):AF (List.replicate n 0)=0:=jG n
theorem Own.QS{α:Type}{w':V}{sz g:Nat}{enc:α->List An}{v:An}{l:List α}(h:Own w base e sz enc v l)(hg:w.grownBy w' (I g))(hlt:g<base):Own w' base e sz enc v l:=by
 refine h.keep hg ?_;cases hv:v.ownBlock with
 | none=>grind
 | some k=>exact .inr fun h'=>by have:=(Cp h k hv).1;grind
theorem k9{n:Nat}(h:Own w base 132 1 CR (R A n c) l)(hd:BZ AZ l):Nt w A c l:=by
 grind [Own,CR,BZ,Vy]
theorem wG{z s:Nat}(hz:z<4294967296)(hs:s<32)(h:z / 2^s%2=0):∃y:Nat,bits .or .u32 (z:Int) ((2:Int)^s%4294967296)=(y:Int)/\Aj (y=z+2^s/\y<AZ):=by
 refine⟨z+2^s,?_,F ⟨rfl,wu hz hs h⟩⟩
 have hp:2^s<4294967296:=by
  have h:2^s<2^32:=WE AC hs;exact h
 have h1:=u32_or_nat z (2^s) hz hp
 grind [jU]
def wH{b x y X Bp h d:Nat}(hX:X=Bp*b)(hb:2<=b)(hv:x+X*h=2*y+e)(hR:y<d)(hd:d<=Bp)(he:e<=1):x=2*y+e:=by
 rcases Nc h with rfl | hp
 ·omega
 ·have h1:X*1<=X*h:=LQ _ hp
  have h2:Bp*2<=Bp*b:=LQ _ hb;omega
def WH(A:Option AS)(c:Nat)(l:List Nat)(C:Option AS)(dc:Nat)(m:List Nat)(w:V)(hA:Nt w A c l)(hC:Nt w C dc m)(hl:Y l<=1000000)(hm:Y m<=1000000)(hd:0<AF m):
  AL AE 130 #[R A (Y l) c,R C (Y m) dc] w fun e w'=>∃v1 v2,e=AN (Be #[v1,v2])/\Big w' w v1 (AF l / AF m)/\Big w' w v2 (AF l%AF m)/\Ag w w w':=by
 have cT:=ZA hC;have k1:=Zz hC.dig;have ntL:=hC.trim;have vL:=Bu (AF m);have bnd:=jY hA.dig;generalize AJ (AF m)=L at*;obtain⟨D,hD⟩:=Az (AF m);rw[hD]at hd vL ⊢;have wI:Aj (D<=AZ^Y L):=F (by rw[<-vL];exact EO (LP ntL.dig));have VL:=F vL;have Ko:=F bnd;clear vL bnd hD;obtain⟨AP,hN⟩:∃AP:Nat,(Y L:Int)+1=(AP:Int):=⟨Y L+1,J⟩
 have HN:Aj (AP=Y L+1):=F J;have n3:AP<=1000001:=J;have n0:0<AP:=J;go_in
 go_wp2_with(first
  | (go_at_call 129;refine mqv (cT) ?_)
  | (go_at_call 80;refine mqv (Y4 A c l _ (hA.on hb4) hl) ?_)
  | (at_make;refine Nb underlying56 Um (fun n:Nat=>Value.int .u32 n) 0 (Y l) ?_;intro w3 Km hb3)
  | (at_make;refine Nb underlying56 Um (fun n:Nat=>Value.int .u32 n) 0 AP ?_;intro w4 Zt LU;have hb4:=AH hb3 LU))
 have wJ:=hb3.size;have gq:=Km.dK;have Gq:Aj (w.heap.size≠w3.heap.size):=F J;have wL:=Km.below LU;clear cT Km hN
 go_loopw [8] (fun i wr=>∃(k:Nat) (Bn AW:List Nat),k<=E8 (AF l)/\i=U O ((k:Int)-1)/\Y Bn=Y l/\Y AW=AP/\BZ AZ Bn/\BZ AZ AW/\AF AW=AF l / 2^k%D/\AF Bn=AF l / 2^k / D*2^k/\
  Own wr w 132 1 CR (R (I ⟨w,0,Z⟩) (Y l) (Y l)) Bn/\Own wr w 132 1 CR (R (I ⟨w3,0,Z⟩) AP AP) AW/\Ag w w wr) (fun i _=>(intOf i+1).toNat)
 case atStart=>
  have bl:=Ko.out;have bw:wrap64 ((E8 (AF l):Int)-1)=(E8 (AF l):Int)-1:=Lg _ J;have e0:AF l / 2^E8 (AF l)=0:=Ww (dX _);exact⟨_,_,_,Bg _,by rw[bw],AO,AO,BZ.rep AC _,BZ.rep AC _,by rw[e0,ZB];simp,by rw[e0,ZB];simp,wL,Zt.down wJ,hb4⟩
 case round=>
  obtain⟨k,Bn,AW,hk,rfl,hQl,hRl,dQ,dR,vR,vQ,ka,ke,hb⟩:=hrel;have HQl:=F hQl;have HRl:=F hRl;have DQ:=F dQ;have DR:=F dR;have VR:=F vR;have VQ:=F vQ;have ea:=F ka;have kg:=F ke;clear hQl hRl dQ dR vR vQ ka ke;cases k with
  | zero=>
   have ntQ:=Zy ea DQ;have ntR:=Zy kg DR;have cQ:=ZA ntQ;have cR:=WA _ _ AW wr ntR (by rw[HRl.out];omega);rw[HQl.out]at cQ;rw[HRl.out]at cR;have vq:AF Bn=AF l / D:=by rw[VQ.out];simp
   have vr:AF AW=AF l%D:=by rw[VR.out];simp
   have bq:Big wr w (R (I ⟨w,0,Z⟩) (AJ (AF Bn)).length (Y l)) (AF Bn):=by
    rw[<-QM DQ];exact Own.trim ea DQ
   rw[vq]at cQ bq;rw[vr]at cR;have Bq:=F bq;clear vq vr bq;go_wp2_with(first | (go_at_call 129;refine mqv (cQ) ?_) | (go_at_call 78;refine cR.mono ?_;rintro e w5 ⟨v,rfl,bR,Bh⟩));go_ret2;exact⟨_,_,Q,Bq.out.below Bh,bR.down hb.size,hb.trans (Bh.mono hb.size)⟩
  | succ j=>
   have wM:=Ko.out;have cB:=jQ A c l j wr (hA.on hb) hl J;obtain⟨e,he⟩:=Az (AF l / 2^j%2);have he1:e<=1:=J;rw[he]at cB;have hj:j<32000000:=J;have cD:=jR w3 AW e w AP wr kg HRl DR J he1;have He:=F he;have Hk:=F hk;clear he wM hk;go_wp2_with(first | (go_at_call 176;refine mqv (cB) ?_) | (go_at_call 175;refine cD.mono ?_;rintro e' w5 ⟨rfl,R',hh,ee,dR',vR',ef,gr5⟩));have Bh:=hb.grown gr5 hb.size (fun q hq=>by cases hq;omega);have nR':=Zy ef dR';have cO:=Uk _ _ R' C dc L w5 nR'.arr (ntL.on Bh).arr nR'.len nR'.cap ntL.len ntL.cap dR' ntL.dig;rw[ee,VL.out]at cO
   have vR2:AF R'=2*AF AW+e:=by
    rw[HN.out]at vR';exact wH (LS ..) IC vR' (by rw[VR.out];exact IB _ hd) wI he1
   have kh:=ea.out.keep gr5 (.inr (by simp[Value.ownBlock];exact Gq.out));have eN:=wl (AF l) j;rw[He.out]at eN;rw[VR.out]at vR2;have PM:=F vR2;have HeN:=F eN;have Y5:=F ee;have DR':=F dR';have eh:=F ef;have NR':=F nR';have ki:=F kh;clear vR2 eN ee dR' vR' ef nR' kh cB cD;rcases D4 (AF R') D with hlt | D8
   ·have dl:=wj hd (qrb PM.out hlt)
    rw[<-HeN.out]at dl;rw[XX hlt]at cO;have DL:=F dl;clear dl hlt;go_wp2_with(go_at_call 137;refine gqz cO fun w6 BV=>?_);have Un:=Bh.trans (BV.mono Bh.size)
    have vq:AF Bn=AF l / 2^j / D*2^j:=by
     rw[VQ.out,DL.out.1,LS];simp only[Nat.mul_comm,Nat.mul_left_comm,Nat.mul_assoc]
    go_roundw
    case rel=>exact⟨j,Bn,R',by have:=Hk.out;omega,qgm,HQl.out,Y5.out,DQ.out,DR'.out,by rw[DL.out.2];exact PM.out,vq,ki.out.below BV,eh.out.below BV,Un⟩
    case measure=>(simp[intOf] <;> omega)
   ·have dl:=wg hd (qrb PM.out D8) he1
    rw[<-HeN.out]at dl;obtain⟨cv,hcv,kj⟩:∃cv,Ey (AF R') D=cv/\0<=cv:=⟨_,Q,by unfold Ey;split <;> (try split) <;> omega⟩
    rw[hcv]at cO;have DL:=F dl;have Hge:=F D8;clear dl hcv D8;go_wp2_with(go_at_call 137;refine gqz cO fun w6 BV=>?_);have Un:=Bh.trans (BV.mono Bh.size);have cM:=dV _ _ R' C dc L w6 (NR'.out.on BV) (ntL.on Un) (by rw[Y5.out];omega) J (qrf VL.out Hge);rw[Y5.out,VL.out]at cM;refine cM.mono ?_;rintro e' w7⟨v,rfl,Y6,Cl⟩;obtain⟨A1,c1,hv,nt7⟩:=Y6.nt;rw[hv];unfold Big at Y6;rw[hv]at Y6;have vl7:=Bu (AF R'-D);have dl7:=Ul (AF R'-D)
    have wN:(AJ (AF R'-D)).length<=AP:=by
     have h1:AF R'-D<AZ^AP:=by
      have:=LP DR';rw[Y5.out]at this;unfold AF;omega
     exact Uj IC h1
    generalize AJ (AF R'-D)=T at*;have Vl7:=F vl7;have Dl7:=F dl7;have lt6:=(eh.out.below BV).dK;have wO:=(eh.out.below BV).below Cl;have wP:=F ((ki.out.below BV).below Cl);have QT:=Un.trans (Cl.mono Un.size);have wQ:=F Y6;clear Y6 hv vl7 nt7 cM cO dl7
    go_wp2_with(first
     | (refine vY Q _ 56 Q 132 underlying56 (U BF 0) we Q Q (f:=fun n:Nat=>Value.int .u32 n) 0 Q Q wO Y5 n0 ?_;intro w8 km gr8;have ar8:=(k9 (wQ.out.QS gr8 lt6) Dl7).arr)
     | (refine vX Q _ _ 56 56 Q 132 underlying56 dO (f:=fun n:Nat=>Value.int .u32 n) (fun _=>rfl) (m:=T) Q Q km AO ar8 wN ?_;intro w9 ko gr9))
    have kq:=Fj gr8 gr9;have ks:=wP.out.keep kq (.inr (by simp[Value.ownBlock];exact Gq.out));have BC:=QT.grown kq QT.size (fun q hq=>by cases hq;omega);have ku:(T++ List.drop (Y T) (List.replicate AP 0)).length=AP:=by simp;omega
    have v9:AF (T++ List.drop (Y T) (List.replicate AP 0))=AF l / 2^j%D:=by
     rw[List.drop_replicate,jZ,ZB,Nat.mul_zero,Sz,Vl7.out,DL.out.2,PM.out]
    have d9:BZ AZ (T++ List.drop (Y T) (List.replicate AP 0)):=by
     rw[List.drop_replicate];exact Dl7.out.app (BZ.rep AC _)
    generalize T++ List.drop (Y T) (List.replicate AP 0)=R9 at*;have GD:j / 32<Y l:=by have:=Ko.out;have:=Hk.out;omega
    obtain⟨z,hz⟩:∃z,Bn[j / 32]?=I z:=⟨_,CH (qrf HQl.out GD)⟩
    have z1:z<4294967296:=DQ.out.get hz;have zf:z / 2^(j%32)%2=0:=by rw[<-jP hz DQ];exact wn VQ
    have c9:=Di (Own.Eg (f:=fun n:Nat=>Value.int .u32 n) ks HQl hz);have Hz:=F hz;have Zf:=F zf;clear hz zf;go_simp;refine dZ 10 AG AG ?_;simp only[List.take_succ_cons,List.take_zero,List.drop_succ_cons,List.drop_zero]
    repeat(go_big_quiet_step (fail))
    refine GP ?_;rintro Bs⟨⟨_,CP⟩,rfl⟩;have ei:=ks.below CP;have d0:=Own.Eg (f:=fun n:Nat=>Value.int .u32 n) ei HQl Hz;have d1:=Own.Dc (f:=fun n:Nat=>Value.int .u32 n) ei HQl (j / 32);obtain⟨y,ey,hy⟩:=wG z1 (s:=j%32) J Zf
    have vQ9:AF (Bn.set (j / 32) y)=AF l / 2^j / D*2^j:=by
     rw[hy.out.1,wq Hz,VQ.out,DL.out.1,LS,Ol,Nat.one_mul];simp only[Nat.mul_comm,Nat.mul_left_comm,Nat.mul_assoc]
    have Kn:Aj (Own (Bs.setCell ⟨w,j / 32,Z⟩ (U BF y)) w 132 1 CR (R (I ⟨w,0,Z⟩) (Y l) (Y l)) (Bn.set (j / 32) y)):=F (Own.Ft (f:=fun n:Nat=>Value.int .u32 n) ei HQl (j / 32) y);have wR:Aj (Own (Bs.setCell ⟨w,j / 32,Z⟩ (U BF y)) w 132 1 CR (R (I ⟨w3,0,Z⟩) AP AP) R9):=F ((ko.below CP).keep (Le Bs w (j / 32) (U BF y)) (.inr (by simp[Value.ownBlock];exact Gq.out.symm)));have VQ9:=F vQ9;have V9:=F v9;have D9:=F d9;have L9:=F ku;clear vQ9 v9 d9 ku c9 ko km ar8;go_wp2;go_roundw;exact⟨j,Bn.set (j / 32) y,R9,by have:=Hk.out;omega,qgm,by rw[LN];exact HQl.out,L9.out,DQ.out.set hy.out.2 _,D9.out,V9.out,VQ9.out,Kn.out,wR.out,(BC.trans (CP.mono BC.size)).setCell (Bg _) _⟩;(simp[intOf] <;> omega)
end
def WJ{n k m:Nat}(h:n<2^m)(hm:m<=32*k):(AJ n).length<=k:=Uj IC (by rw[Ty];exact Ck h (LT AC hm))
def nt_lit(w:V)(l:List Nat)(cs:Array An)(T:TypeId)(hcs:cs.toList=l.flatMap CR)(hd:BZ AZ l)(hl:Y l<=maxLen):Nt (Ao w (N cs T)) (I ⟨w,0,Z⟩) (Y l) l:=
 ⟨Vs w l cs T hcs Sw,Bg _,hl,hd,fun h=>by cases h⟩
def Oy(w:V)(e:Nat)(T:TypeId)(he:e<4294967296):Nt (Ao w (N #[U BF e] T)) (I ⟨w,0,Z⟩) 1 [e]:=
 nt_lit w [e] #[U BF e] T Q (BZ.cons he BZ.nil) (by unfold maxLen;simp)
theorem Oz(e:Nat):AF [e]=e:=dL e
def wY(a b:Nat):AF [a,b]=a+4294967296*b:=by simp[AF,BH]
def wZ(n:Nat)(w:V)(hn:n<18446744073709551616):
  AL AE 138 #[U AA n] w fun e w'=>∃v,e=AN v/\Big w' w v n/\Ag w w w':=by
 obtain⟨q,r,hq,hr,Fu⟩:=Zu n;have q1:q<4294967296:=by have:=Fu.out.1;change q=n / 4294967296 at this;omega
 have r1:r<4294967296:=by have:=Fu.out.2;change r=n%4294967296 at this;omega
 have ev:AF [r,q]=n:=by rw[wY];have:=Fu.out;simp only[AZ]at this;omega
 have nt:=nt_lit w [r,q] #[U BF r,U BF q] 132 Q (BZ.cons r1 (BZ.cons q1 BZ.nil)) (by unfold maxLen;simp);have cC:=WA _ _ _ _ nt AO;rw[ev]at cC;clear nt ev;go_in;go_wp2_with(go_at_call 78;refine cC.mono ?_;rintro e w5 ⟨v,rfl,bR,Bh⟩);go_ret;exact⟨_,Q,bR.down AO,AH (AB (Ae _ _) _) Bh⟩
def ZD(A:Option AS)(c:Nat)(l:List Nat)(n k:Nat)(w:V)(h:Nt w A c l)(hl:Y l<=900000)(hn:n<=1000000)(hk:k<=n):
  AL AE 77 #[R A (Y l) c,U O n,U O k] w fun e w'=>∃v,e=AN v/\Big w' w v (AF l*(n-k) / (k+1))/\Ag w w w':=by
 obtain⟨e,he⟩:=Az (n-k);obtain⟨d,hd⟩:=Az (k+1);have e1:(n:Int)-(k:Int)=(e:Int):=J;have d1:(k:Int)+1=(d:Int):=J;have e2:(e:Int)%4294967296=(e:Int):=J;have QU:0<d:=J;have e3:e<4294967296:=J;have d3:d<4294967296:=J;have hb0:=AB (Ae w w) (N #[U BF e] 132);have cM:=Ov A c l _ 1 [e] _ (h.on hb0) (Oy w e 132 e3) J AO;rw[Oz,QV]at cM;rw[he,hd];clear he hd;go_in;go_wp2_with(go_at_call 131;refine cM.mono ?_;rintro e' w5 ⟨v,rfl,ZE,Bh⟩);obtain⟨A1,c1,hv,nt5⟩:=ZE.nt;rw[hv]
 have lb:(AJ (AF l*e)).length<=1000000:=by
  have h1:=LP h.dig
  have h2:AF l*e<AZ^(Y l+1):=by
   rw[LS];exact Sx h1 e3
  have h3:=Uj IC h2;unfold AJ;omega
 have q5:=AB (AH hb0 Bh) (N #[U BF d] 132);have cS:=WH A1 c1 _ _ 1 [d] _ (nt5.on (AB (Ae _ _) (N #[U BF d] 132))) (Oy w5 d 132 d3) lb AO (qrf Oz QU);rw[Oz,QV,Bu]at cS;refine cS.mono ?_;rintro e' w6⟨v1,v2,rfl,b1,b2,BV⟩;go_wp2;go_ret;have:=hb0.size;have:=Bh.size;exact⟨_,Q,b1.down (by simp at*;omega),AH q5 BV⟩
def VA{n k:Nat}(h:n<=512):(AJ (ch n k)).length<=17:=by
 exact WJ (k:=17) (m:=n+1) (Do (em n k) (WE AC J)) J
theorem kJ(w:V)(base e:Nat)(he:0<e)(hlt:e<4294967296)(hb:base<=↑w):Big (Ao w (N #[U BF e] 132)) base (R (I ⟨w,0,Z⟩) 1 1) e:=by
 have h1:AJ e=[e]:=by
  unfold AJ
  grind [G4]
 unfold Big;rw[h1];exact World.ownsRow_lit (size:=1) w #[U BF e] 1 hb (by unfold maxLen;omega) Q
def kK(P:Program)(d n:Nat)(t e:TypeId)(xs ys:Array An)(w:V)(ht:P.underlying t=I (.array n e)):(Op.equalIn (d+1) t (Ba xs) (Ba ys)).run P w=((do
   let z <-sizeOf e
   for i in [0:n] do
    if !(<-Op.equalIn d e (<-part e xs (i*z)) (<-part e ys (i*z)))then return false
   pure true:Sem Bool)).run P w:=by
 simp only[Op.equalIn,Sem.run_bind,run_underlying ht,Result.andThen_ok]
@[go_sem] theorem kL (a b c d a' b' c' d':Int) (w:V):(Op.equalIn 10000 51 (Ba #[U O a,U O b,U O c,U O d]) (Ba #[U O a',U O b',U O c',U O d'])).run AE w=.ok (a == a'&&(b == b'&&(c == c'&&d == d'))) w:=by
 have u3:=underlying3;have u4:=underlying51;have z3:=sizeOf3;have g3:=isAgg3;rw[show(10000:Nat)=9999+1 from rfl,kK AE 9999 4 51 3 _ _ w u4];have e:∀(x y:Int) (w:V),(Op.equalIn 9999 3 (U O x) (U O y)).run AE w=.ok (x == y) w:=fun x y w=>run_equalIn_int w 9998 3 .i64 _ x y u3
 simp[List.range',Sem.run_bind,z3,part,g3,Sem.run_ite,Sem.run_pure,e];cases h1:a == a' <;> cases h2:b == b' <;> cases h3:c == c' <;> cases h4:d == d' <;> simp_all
@[go_sem] theorem xd (a b c a' b' c':Int) (w:V):(Op.equalIn 10000 50 (Ba #[U O a,U O b,U O c]) (Ba #[U O a',U O b',U O c'])).run AE w=.ok (a == a'&&(b == b'&&c == c')) w:=by
 have u3:=underlying3;have u4:=underlying50;have z3:=sizeOf3;have g3:=isAgg3;rw[show(10000:Nat)=9999+1 from rfl,kK AE 9999 3 50 3 _ _ w u4];have e:∀(x y:Int) (w:V),(Op.equalIn 9999 3 (U O x) (U O y)).run AE w=.ok (x == y) w:=fun x y w=>run_equalIn_int w 9998 3 .i64 _ x y u3
 simp[List.range',Sem.run_bind,z3,part,g3,Sem.run_ite,Sem.run_pure,e];cases h1:a == a' <;> cases h2:b == b' <;> cases h3:c == c' <;> simp_all
def FP(x:Int):Bool:=decide (0<=x/\x<=256)
def DP(l:List Int):Bool:=l.all FP&&decide (l.sum=256)
def Y8(x:Int)(w:V):AL AE 210 #[U O x] w fun e w'=>e=AN (Av (FP x))/\w=w':=by
 go_in;go_wp2
 all_goals(go_ret;exact⟨JJ (by unfold FP;rw[PO];simp;try omega),Q⟩)
def ZF(A:Option AS)(c n:Nat)(l:List Int)(w:V)(hA:Arr 1 BD w w A l)(hl:Y l=n)(hn:n<=1000):
  AL AE 209 #[R A n c] w fun e w'=>e=AN (Av (DP l))/\w=w':=by
 have HL:=F hl;go_in;go_wp2_with fail;go_loop [3,8] (fun s i=>∃(k:Nat) (S:Int),k<=n/\i=U O k/\s=U O S/\0<=S/\S<=256*k/\Aj (S=(l.take k).sum/\(l.take k).all FP=true)) (fun s i=>n-(intOf i).toNat);exact⟨0,0,BM _,rfl,rfl,J,J,F ⟨AO,AO⟩⟩
 obtain⟨k,S,hk,rfl,rfl,S0,S1,hS⟩:=hrel;by_cases hlt:k<n
 ·obtain⟨b1,off,x,rfl,BN,hq,c0⟩:=hA.int (k:=k) J (Ae _ _)
  by_cases hp:FP x=true
  ·have Nf:0<=x/\x<=256:=Ib hp
   have Hp:=F hp;clear hp
   have PP:Aj (S+x=(l.take (k+1)).sum/\(l.take (k+1)).all FP=true):=F (by
    rw[N8 hq];exact⟨by rw[List.sum_append,<-hS.out.1];simp,by rw[Su,hS.out.2];simp[Hp.out]⟩)
   have cP:=Y8 x w;rw[Hp.out]at cP;go_wp2_with(go_at_call 210;refine mqv (cP) ?_);go_round;exact⟨k+1,S+x,J,qgm,rfl,J,J,PP⟩;simp[intOf];omega
  ·have Nf:FP x=false:=qsu hp
   have hW:Aj (DP l=false):=F (by
    unfold DP;rw[List.all_eq_false.2 ⟨x,DI hq,by rw[Nf];decide⟩]
    rfl)
   have cP:=Y8 x w;rw[Nf]at cP;clear hp Nf;go_wp2_with(go_at_call 210;refine mqv (cP) ?_);go_ret;exact⟨JJ hW.out.symm,Q⟩
 ·obtain rfl:k=n:=J
  have hW:Aj (DP l=decide (S=256)):=F (by
   have h1:=hS.out;rw[<-HL.out,Ia]at h1;unfold DP;rw[h1.2,<-h1.1];rfl)
  go_wp2;go_ret;exact⟨JJ (by rw[hW.out,PO];simp),Q⟩
def Ya(n k:Nat)(w:V)(hn:n<=512)(hk:k<=1000000):
  AL AE 186 #[U O n,U O k] w fun e w'=>∃v,e=AN v/\Big w' w v (ch n k)/\Ag w w w':=by
 by_cases PK:n<k
 ·have h0:=WI PK
  rw[h0];go_in;go_wp2;go_ret;exact⟨_,Q,by unfold Big AJ;rw[Vv];exact Own.nil,Ae _ _⟩
 obtain⟨M,hM,hMs,hMc⟩:∃M:Nat,M<=n/\ch n M=ch n k/\(k<=n-k/\M=k\/n-k<k/\M=n-k):=by
  rcases D4 (n-k) k with h | h
  ·exact⟨n-k,J,wT J,.inr ⟨h,rfl⟩⟩
  ·exact⟨k,J,Q,.inl ⟨h,rfl⟩⟩
 rw[<-hMs];clear hMs;obtain⟨d,hd⟩:∃d:Nat,(n:Int)-(k:Int)=(d:Int):=⟨n-k,J⟩
 have xe:k<=d/\M=k\/d<k/\M=d:=J;have g1:decide (n<k)=false:=by simp;omega
 have g2:decide ((k:Int)<0)=false:=AO;clear hMc;rcases xe with⟨h1,h2⟩ | ⟨h1,h2⟩ <;> subst h2
 all_goals(
  go_in;go_wp2;have hMi:M<=512:=J;go_loopw [5,20] (fun v i wr=>∃j:Nat,j<=M/\i=U O j/\Big wr w v (ch n j)/\Ag w w wr) (fun _ i _=>M-(intOf i).toNat);exact⟨0,BM _,rfl,by rw[Y7];exact kJ w w 1 AC AC (Bg _),AB (Ae _ _) _⟩
  obtain⟨j,hj,rfl,big,hb⟩:=hrel;by_cases hlt:j<M
  ·obtain⟨A1,c1,rfl,nt1⟩:=big.nt
   have cN:=ZD A1 c1 _ n j wr nt1 (by have:=VA (n:=n) (k:=j) hn;omega) J J;rw[Bu,ZC]at cN;go_wp2_with(go_at_call 77;refine cN.mono ?_;rintro e' w5 ⟨v,rfl,ZE,Bh⟩);go_roundw
   case rel=>first | exact⟨j+1,J,qgm,ZE.down hb.size,hb.trans (Bh.mono hb.size)⟩ | ((repeat apply PQ);exact⟨⟨j+1,J,qgm,ZE.down hb.size,hb.trans (Bh.mono hb.size)⟩,Q⟩)
   case measure=>(simp[intOf] <;> omega)
  ·obtain rfl:j=M:=J
   go_wp2;go_ret;exact⟨_,Q,big,hb⟩)
section
variable{M AY bad i sample seen total:Nat}
def Kq(total bad sample i:Nat):Nat:=ch bad i*ch (total-bad) (sample-i)
def kN(total bad sample seen:Nat):Ox total bad sample seen=CV (Kq total bad sample) (seen+1):=Q
theorem kP(h:total-bad<sample-i):Kq total bad sample i=0:=by grind [Kq,WI]
theorem xg(h:bad<i):Kq total bad sample i=0:=by grind [Kq,WI]
def xh(h:AY=sample-(total-bad)):CV (Kq total bad sample) AY=0:=kF fun i hi=>kP J
def kQ(h:seen<=bad/\M=seen\/bad<seen/\M=bad):CV (Kq total bad sample) (M+1)=Ox total bad sample seen:=by
 rw[kN];rcases h with⟨_,rfl⟩ | ⟨h,rfl⟩
 ·rfl
 ·exact(kI _ J fun i hi=>xg J).symm
def xo(hF:AY=sample-(total-bad))(h:seen<=bad/\M=seen\/bad<seen/\M=bad)(hlt:M<AY):Ox total bad sample seen=0:=by
 rw[<-kQ h];refine kF fun i hi=>kP J
def ZG(a b:Nat):(AJ (a*b)).length<=(AJ a).length+(AJ b).length:=by
 refine Uj IC ?_;rw[Ou];exact Sx (Wx IC a) (Wx IC b)
def Yb(w:V)(base:Nat):Big w base (R Z 0 0) 0:=by unfold Big AJ;rw[Vv];exact Own.nil
theorem eo{seen k:Nat}(hb:bad<=total)(ht:total<=512)(hk:k<=513):(AJ (CV (Kq total bad sample) k)).length<=17:=by
 have h:=wX (total:=total) (bad:=bad) (sample:=sample) (seen:=k) hb;rw[kN]at h;have h1:CV (Kq total bad sample) k<=CV (Kq total bad sample) (k+1):=kH _ J;refine WJ (m:=total+10) ?_ J;have h2:(k+1)*2^total<1024*2^total:=WK J (Ow AC)
 grind
def xq(total bad sample seen:Nat)(w:V)(ht:total<=512)(hb:bad<=total)(hs:sample<=total)(hse:seen<=sample):
  AL AE 188 #[U O total,U O bad,U O sample,U O seen] w fun e w'=>∃v,e=AN v/\Big w' w v (Ox total bad sample seen)/\Ag w w w':=by
 obtain⟨AP,hN⟩:∃AP:Nat,(total:Int)-(bad:Int)=(AP:Int):=⟨total-bad,J⟩
 obtain⟨AY,hF⟩:∃AY,AY=sample-(total-bad):=⟨_,Q⟩
 obtain⟨M,hM⟩:∃M,seen<=bad/\M=seen\/bad<seen/\M=bad:=by
  rcases D4 bad seen with h | h
  ·exact⟨_,.inr ⟨h,rfl⟩⟩
  ·exact⟨_,.inl ⟨h,rfl⟩⟩
 have hNe:Aj (AP=total-bad):=F J;have fF:=F (xh hF);have fM:Aj (CV (Kq total bad sample) (M+1)=Ox total bad sample seen):=F (kQ hM);have f0:=F (xo hF hM);have hF2:(sample:Int)-(AP:Int)=(AY:Int)/\AP<sample\/sample<=AP/\AY=0:=J;have HF:=F hF;clear hF;have hFs:AY<=sample:=by rcases hF2 with h | h <;> omega
 have HF2:=F hF2;clear hF2;rcases hM with⟨hm1,Nh⟩ | ⟨hm1,Nh⟩ <;> subst Nh
 ·by_cases hFM:M<AY
  ·rw[f0.out hFM]
   go_in;go_upto_region 2 with fail;go_cut [10] (fun u wr=>u=U O AY/\w=wr)
   case first=>
    rcases HF2.out with⟨PR,hf2⟩ | ⟨PR,hf2⟩
    ·go_wp2_with fail
     go_meet;exact⟨by first | rfl | (congr 1;omega),Q⟩
    ·go_wp2_with fail
     go_meet;exact⟨by first | rfl | (congr 1;omega),Q⟩
   obtain⟨rfl,rfl⟩:=hcut;go_wp2;go_ret;exact⟨_,Q,Yb _ _,Ae _ _⟩
  ·obtain⟨G,hG⟩:∃G:Nat,(sample:Int)-(AY:Int)=(G:Int):=⟨sample-AY,J⟩
   have hGe:Aj (G=sample-AY):=F J;have hMi:M<=512:=J;go_in;go_upto_region 2 with fail;go_cut [10] (fun u wr=>u=U O AY/\w=wr)
   case first=>
    rcases HF2.out with⟨PR,hf2⟩ | ⟨PR,hf2⟩
    ·go_wp2_with fail
     go_meet;exact⟨by first | rfl | (congr 1;omega),Q⟩
    ·go_wp2_with fail
     go_meet;exact⟨by first | rfl | (congr 1;omega),Q⟩
   obtain⟨rfl,rfl⟩:=hcut;go_wp2_with fail;refine(Ya bad AY _ J J).mono ?_;rintro e w1⟨va,rfl,ba,hb1⟩;go_wp2_with fail;refine(Ya AP G _ J J).mono ?_;rintro e w2⟨vb,rfl,bb,hb2⟩;go_wp2_with fail;go_loopw [9,11,12,13] (fun vs va vb i wr=>∃j:Nat,AY<=j/\j<=M+1/\i=U O j/\Big wr w vs (CV (Kq total bad sample) j)/\Big wr w va (ch bad j)/\Big wr w vb (ch AP (sample-j))/\Ag w w wr) (fun _ _ _ i _=>M+1-(intOf i).toNat);exact⟨AY,Bg _,J,rfl,by rw[fF.out];exact Yb _ _,ba.below hb2,qrb hGe.out (bb.down hb1.size),AH hb1 hb2⟩
   obtain⟨j,hj1,hj2,rfl,bs,ba3,bb3,hb3⟩:=hrel;clear ba bb;by_cases hlt:j<=M
   ·obtain⟨As,cs,rfl,ns⟩:=bs.nt
    obtain⟨Aa,ca,rfl,na⟩:=ba3.nt;obtain⟨Ab,cb,rfl,nb⟩:=bb3.nt;have la:=VA (n:=bad) (k:=j) J;have lb:=VA (n:=AP) (k:=sample-j) J;have ls:=eo (total:=total) (bad:=bad) (sample:=sample) (seen:=0) (k:=j) hb ht J;have hjN:Aj (sample-j<=AP):=F (by have:=HF.out;have:=hNe.out;omega);have hst:Aj (CV (Kq total bad sample) j+ch bad j*ch AP (sample-j)=CV (Kq total bad sample) (j+1)):=F (by rw[hNe.out];rfl);have c1:=Ov Aa ca _ Ab cb _ wr na nb J J;rw[Bu,Bu]at c1;go_wp2_with fail;refine c1.mono ?_;rintro e w4⟨v4,rfl,b4,hb4⟩;obtain⟨A4,c4,hv4,n4⟩:=b4.nt;rw[hv4]
    have l4:(AJ (ch bad j*ch AP (sample-j))).length<=1000000:=by
     have:=ZG (ch bad j) (ch AP (sample-j));omega
    have c2:=Zw As cs _ A4 c4 _ w4 (ns.on hb4) n4 J l4;rw[Bu,Bu,hst.out]at c2;go_wp2_with fail;refine c2.mono ?_;rintro e w5⟨v5,rfl,b5,Bh⟩;have q5:=AH hb4 Bh;have c3:=ZD Aa ca _ bad j w5 (na.on q5) J J J;rw[Bu,ZC]at c3;go_wp2_with fail;refine c3.mono ?_;rintro e w6⟨v6,rfl,b6,BV⟩;have q6:=AH q5 BV;have r6:=hb3.trans (q6.mono hb3.size);have s6:=q5.size;have s3:=hb3.size;have s4:=hb4.size;clear c1 c2 c3 hv4;by_cases hjs:j<sample
    ·obtain⟨g,hg⟩:∃g:Nat,(sample:Int)-(j:Int)=(g:Int):=⟨sample-j,J⟩
     have D8:Aj (g=sample-j):=F J;have hg0:0<g:=J;have hgN:g<=AP:=by have:=hjN.out;omega
     obtain⟨d,hd⟩:∃d:Nat,(AP:Int)-(g:Int)+1=(d:Int):=⟨AP-g+1,J⟩
     have hde:Aj (d=AP-(g-1)/\g-1<AP/\g=g-1+1/\sample-(j+1)=g-1):=F (by have:=D8.out;omega);have d2:(d:Int)%4294967296=(d:Int):=J;have QU:0<d:=J;have hd1:d<4294967296:=J;have ER:g<4294967296:=J;rw[<-D8.out]at nb lb;have OA:=AB q6 (N #[U BF g] 132);have c7:=Ov Ab cb _ _ 1 [g] _ (nb.on OA) (Oy w6 g 132 ER) J AO;rw[Bu,Oz,QV]at c7;have ep:Aj ((AJ (ch AP (sample-j))).length=(AJ (ch AP g)).length):=F (by rw[D8.out]);rw[ep.out];go_wp2_with fail;refine c7.mono ?_;rintro e w7⟨v7,rfl,b7,Cl⟩;obtain⟨A7,c7',PS,n7⟩:=b7.nt;rw[PS]
     have l7:(AJ (ch AP g*g)).length<=1000000:=by
      have:=ZG (ch AP g) g;have:=WJ (n:=g) (k:=1) (m:=32) ER J;omega
     have q7:=AH OA Cl;have c8:=WH A7 c7' _ _ 1 [d] _ (n7.on (AB (Ae _ _) (N #[U BF d] 132))) (Oy w7 d 132 hd1) l7 AO (qrf Oz QU);rw[Oz,QV,Bu]at c8
     have ed:ch AP g*g / d=ch AP (sample-(j+1)):=by
      obtain⟨h1,h2,h3,h4⟩:=hde.out;rw[h1,h4]
      conv=>lhs;rw[h3]
      simp only[Nat.add_sub_cancel];exact kE h2
     rw[ed]at c8;go_wp2_with fail;refine c8.mono ?_;rintro e w8⟨v8,v9,rfl,b8,b9,Cv⟩;have q8:=AH (AB q7 (N #[U BF d] 132)) Cv;have t6:=AH (AB (AH (AB (Ae _ _) _) Cl) _) Cv;have t5:=AH BV t6;have s7:w.heap.size<=w7.heap.size:=by have:=q7.size;omega
     clear c7 c8 PS ed;go_wp2_with fail;go_roundw
     case rel=>first | exact⟨j+1,J,J,qgm,(b5.below t5).down J,(b6.below t6).down J,b8.down qsm,hb3.trans (q8.mono hb3.size)⟩ | ((repeat apply PQ);exact⟨⟨j+1,J,J,qgm,(b5.below t5).down J,(b6.below t6).down J,b8.down qsm,hb3.trans (q8.mono hb3.size)⟩,Q⟩)
     case measure=>(simp[intOf] <;> omega)
    ·obtain rfl:j=sample:=J
     have hg:(j:Int)-(j:Int)=0:=J;have e0:j-(j+1)=j-j:=J;go_wp2_with fail;go_roundw
     case rel=>first | exact⟨j+1,J,J,qgm,(b5.below BV).down J,b6.down J,by have:=bb3.below q6;rw[Lc]at this;rw[e0,Lc];exact this,r6⟩ | ((repeat apply PQ);exact⟨⟨j+1,J,J,qgm,(b5.below BV).down J,b6.down J,by have:=bb3.below q6;rw[Lc]at this;rw[e0,Lc];exact this,r6⟩,Q⟩)
     case measure=>(simp[intOf] <;> omega)
   ·obtain rfl:j=M+1:=J
    go_wp2;go_ret;exact⟨_,Q,qrb fM.out bs,hb3⟩
 ·by_cases hFM:M<AY
  ·have:=HF2.out
   exfalso;omega
  ·obtain⟨G,hG⟩:∃G:Nat,(sample:Int)-(AY:Int)=(G:Int):=⟨sample-AY,J⟩
   have hGe:Aj (G=sample-AY):=F J;have hMi:M<=512:=J;go_in;go_upto_region 2 with fail;go_cut [10] (fun u wr=>u=U O AY/\w=wr)
   case first=>
    rcases HF2.out with⟨PR,hf2⟩ | ⟨PR,hf2⟩
    ·go_wp2_with fail
     go_meet;exact⟨by first | rfl | (congr 1;omega),Q⟩
    ·go_wp2_with fail
     go_meet;exact⟨by first | rfl | (congr 1;omega),Q⟩
   obtain⟨rfl,rfl⟩:=hcut;go_wp2_with fail;refine(Ya M AY _ J J).mono ?_;rintro e w1⟨va,rfl,ba,hb1⟩;go_wp2_with fail;refine(Ya AP G _ J J).mono ?_;rintro e w2⟨vb,rfl,bb,hb2⟩;go_wp2_with fail;go_loopw [9,11,12,13] (fun vs va vb i wr=>∃j:Nat,AY<=j/\j<=M+1/\i=U O j/\Big wr w vs (CV (Kq total M sample) j)/\Big wr w va (ch M j)/\Big wr w vb (ch AP (sample-j))/\Ag w w wr) (fun _ _ _ i _=>M+1-(intOf i).toNat);exact⟨AY,Bg _,J,rfl,by rw[fF.out];exact Yb _ _,ba.below hb2,qrb hGe.out (bb.down hb1.size),AH hb1 hb2⟩
   obtain⟨j,hj1,hj2,rfl,bs,ba3,bb3,hb3⟩:=hrel;clear ba bb;by_cases hlt:j<=M
   ·obtain⟨As,cs,rfl,ns⟩:=bs.nt
    obtain⟨Aa,ca,rfl,na⟩:=ba3.nt;obtain⟨Ab,cb,rfl,nb⟩:=bb3.nt;have la:=VA (n:=M) (k:=j) J;have lb:=VA (n:=AP) (k:=sample-j) J;have ls:=eo (total:=total) (bad:=M) (sample:=sample) (seen:=0) (k:=j) hb ht J;have hjN:Aj (sample-j<=AP):=F (by have:=HF.out;have:=hNe.out;omega);have hst:Aj (CV (Kq total M sample) j+ch M j*ch AP (sample-j)=CV (Kq total M sample) (j+1)):=F (by rw[hNe.out];rfl);have c1:=Ov Aa ca _ Ab cb _ wr na nb J J;rw[Bu,Bu]at c1;go_wp2_with fail;refine c1.mono ?_;rintro e w4⟨v4,rfl,b4,hb4⟩;obtain⟨A4,c4,hv4,n4⟩:=b4.nt;rw[hv4]
    have l4:(AJ (ch M j*ch AP (sample-j))).length<=1000000:=by
     have:=ZG (ch M j) (ch AP (sample-j));omega
    have c2:=Zw As cs _ A4 c4 _ w4 (ns.on hb4) n4 J l4;rw[Bu,Bu,hst.out]at c2;go_wp2_with fail;refine c2.mono ?_;rintro e w5⟨v5,rfl,b5,Bh⟩;have q5:=AH hb4 Bh;have c3:=ZD Aa ca _ M j w5 (na.on q5) J J J;rw[Bu,ZC]at c3;go_wp2_with fail;refine c3.mono ?_;rintro e w6⟨v6,rfl,b6,BV⟩;have q6:=AH q5 BV;have r6:=hb3.trans (q6.mono hb3.size);have s6:=q5.size;have s3:=hb3.size;have s4:=hb4.size;clear c1 c2 c3 hv4;by_cases hjs:j<sample
    ·obtain⟨g,hg⟩:∃g:Nat,(sample:Int)-(j:Int)=(g:Int):=⟨sample-j,J⟩
     have D8:Aj (g=sample-j):=F J;have hg0:0<g:=J;have hgN:g<=AP:=by have:=hjN.out;omega
     obtain⟨d,hd⟩:∃d:Nat,(AP:Int)-(g:Int)+1=(d:Int):=⟨AP-g+1,J⟩
     have hde:Aj (d=AP-(g-1)/\g-1<AP/\g=g-1+1/\sample-(j+1)=g-1):=F (by have:=D8.out;omega);have d2:(d:Int)%4294967296=(d:Int):=J;have QU:0<d:=J;have hd1:d<4294967296:=J;have ER:g<4294967296:=J;rw[<-D8.out]at nb lb;have OA:=AB q6 (N #[U BF g] 132);have c7:=Ov Ab cb _ _ 1 [g] _ (nb.on OA) (Oy w6 g 132 ER) J AO;rw[Bu,Oz,QV]at c7;have ep:Aj ((AJ (ch AP (sample-j))).length=(AJ (ch AP g)).length):=F (by rw[D8.out]);rw[ep.out];go_wp2_with fail;refine c7.mono ?_;rintro e w7⟨v7,rfl,b7,Cl⟩;obtain⟨A7,c7',PS,n7⟩:=b7.nt;rw[PS]
     have l7:(AJ (ch AP g*g)).length<=1000000:=by
      have:=ZG (ch AP g) g;have:=WJ (n:=g) (k:=1) (m:=32) ER J;omega
     have q7:=AH OA Cl;have c8:=WH A7 c7' _ _ 1 [d] _ (n7.on (AB (Ae _ _) (N #[U BF d] 132))) (Oy w7 d 132 hd1) l7 AO (qrf Oz QU);rw[Oz,QV,Bu]at c8
     have ed:ch AP g*g / d=ch AP (sample-(j+1)):=by
      obtain⟨h1,h2,h3,h4⟩:=hde.out;rw[h1,h4]
      conv=>lhs;rw[h3]
      simp only[Nat.add_sub_cancel];exact kE h2
     rw[ed]at c8;go_wp2_with fail;refine c8.mono ?_;rintro e w8⟨v8,v9,rfl,b8,b9,Cv⟩;have q8:=AH (AB q7 (N #[U BF d] 132)) Cv;have t6:=AH (AB (AH (AB (Ae _ _) _) Cl) _) Cv;have t5:=AH BV t6;have s7:w.heap.size<=w7.heap.size:=by have:=q7.size;omega
     clear c7 c8 PS ed;go_wp2_with fail;go_roundw
     case rel=>first | exact⟨j+1,J,J,qgm,(b5.below t5).down J,(b6.below t6).down J,b8.down qsm,hb3.trans (q8.mono hb3.size)⟩ | ((repeat apply PQ);exact⟨⟨j+1,J,J,qgm,(b5.below t5).down J,(b6.below t6).down J,b8.down qsm,hb3.trans (q8.mono hb3.size)⟩,Q⟩)
     case measure=>(simp[intOf] <;> omega)
    ·obtain rfl:j=sample:=J
     have hg:(j:Int)-(j:Int)=0:=J;have e0:j-(j+1)=j-j:=J;go_wp2_with fail;go_roundw
     case rel=>first | exact⟨j+1,J,J,qgm,(b5.below BV).down J,b6.down J,by have:=bb3.below q6;rw[Lc]at this;rw[e0,Lc];exact this,r6⟩ | ((repeat apply PQ);exact⟨⟨j+1,J,J,qgm,(b5.below BV).down J,b6.down J,by have:=bb3.below q6;rw[Lc]at this;rw[e0,Lc];exact this,r6⟩,Q⟩)
     case measure=>(simp[intOf] <;> omega)
   ·obtain rfl:j=M+1:=J
    go_wp2;go_ret;exact⟨_,Q,qrb fM.out bs,hb3⟩
end
section
variable{b k:Nat}{w w':V}{α:Type}
structure BA where
 A:Option AS
 c:Nat
 l:List Nat
 C:Option AS
 d:Nat
 m:List Nat
instance:CoeOut BA (Array An):=⟨fun z=>#[R z.A (Y z.l) z.c,R z.C (Y z.m) z.d]⟩
def BA.num(f:BA):An:= R f.A (Y f.l) f.c
def BA.den(f:BA):An:= R f.C (Y f.m) f.d
def BA.enc(f:BA):List An:=[f.num,f.den]
def BA.val(f:BA):An:= Ba f
def BA.BY(f:BA):Y f.enc=2:=Q
structure BA.In(f:BA)(w:V):Prop where
 n:Nt w f.A f.c f.l
 d:Nt w f.C f.d f.m
def BA.In.on{f:BA}(h:f.In w)(hb:Ag w w w'):f.In w':=⟨h.n.on hb,h.d.on hb⟩
def BA.LY(f:BA):Bool:=decide (64<Y f.l\/64<Y f.m)
def BA.QX(f:BA):Bool:=decide (AF f.m=0)
def Cq(fs:List BA):Int:=if fs.any BA.LY then 4 else if fs.any BA.QX then 7 else 0
def Arr.frc{B:Nat}{A:Option AS}{l:List BA}(h:Arr 2 BA.enc w B A l)(hk:k<Y l)(hb:Ag B w w'):
  ∃b off f,A=I ⟨b,off,Z⟩/\b<B/\Aj (l[k]?=I f)/\E w' ⟨b,off+k*2,Z⟩=I (R f.A (Y f.l) f.c)/\E w' ⟨b,off+k*2+1,Z⟩=I (R f.C (Y f.m) f.d):=by
 obtain⟨b,off,rfl,BN,hc⟩:=h.get hk hb;exact⟨b,off,_,Q,BN,CH hk,hc 0 _ Q,hc 1 _ Q⟩
theorem kS{p:α->Bool}{l:List α}{x:α}(hx:l[k]?=I x)(h:(l.take k).any p=false)(ho:p x=false):(l.take (k+1)).any p=false:=by
 rw[N8 hx,List.any_append,h];grind
theorem kU{p:α->Bool}{l:List α}{x:α}(hx:l[k]?=I x)(ho:p x=true):l.any p=true:=by
 grind
theorem ZH{fs:List BA}{f:BA}(hk:fs[k]?=I f)(h:fs.any BA.LY=false):Y f.l<=64/\Y f.m<=64:=by
 rw[List.any_eq_false]at h;have:=h f (DI hk)
 grind [BA.LY]
theorem WL{fs:List BA}:Cq fs=0↔fs.any BA.LY=false/\fs.any BA.QX=false:=by
 grind [Cq,BA.LY,BA.QX]
def xr{f:BA}(h:Cq [f]=0):Y f.l<=64/\Y f.m<=64:=ZH (k:=0) Q (WL.1 h).1
def ZI{f g:BA}(h:Cq [f,g]=0):Y f.l<=64/\Y f.m<=64/\Y g.l<=64/\Y g.m<=64:=by
 have h1:=ZH (f:=f) (k:=0) Q (WL.1 h).1;have h2:=ZH (f:=g) (k:=1) Q (WL.1 h).1;omega
theorem eq{f:BA}:f.LY=false↔QN f.l f.m=0:=by
 grind [BA.LY,QN]
theorem Tz(B:Option AS)(n:Nat)(fs:List BA)(w:V)(h:Arr 2 BA.enc w w B fs)(hf:∀(k:Nat) (f:BA),fs[k]?=I f->f.In w)(hl:Y fs<=1000):
  AL AE 135 #[R B (Y fs) n] w fun e w'=>e=AN (U O (Cq fs))/\Ag w w w':=by
 go_in;go_wp2;go_loopw [10] (fun i wr=>∃k:Nat,k<=Y fs/\i=U O k/\(fs.take k).any BA.LY=false/\Ag w w wr) (fun i _=>Y fs-(intOf i).toNat);exact⟨0,BM _,rfl,AO,Ae _ _⟩
 obtain⟨k,hk,rfl,hall,hb⟩:=hrel;have Ea:=F hall;clear hall;by_cases hlt:k<Y fs
 ·obtain⟨b,off,f,rfl,BN,hq,c0,c1⟩:=h.frc hlt hb
  have Dp:=(hf _ _ hq).on hb;cases hlg:f.LY
  ·have h0:=eq.1 hlg
   have Hl:=F hlg;clear hlg;go_wp2_with(go_at_call 180;refine mqv (Zs _ _ f.l _ _ f.m _) ?_;rw[h0]);go_roundw;exact⟨k+1,J,qgm,kS hq Ea Hl,AB hb _⟩;(simp[intOf] <;> omega)
  ·have h0:(QN f.l f.m != 0)=true:=by
    cases h0:(QN f.l f.m != 0)with
    | true=>rfl
    | false=>have:=eq.2 (qsu h0);rw[hlg]at this;cases this
   have h1:Aj (Cq fs=QN f.l f.m):=F (by
    unfold Cq;rw[Bd (kU hq hlg)];have h2:¬QN f.l f.m=0:=qsu h0;unfold QN at h2 ⊢;split at h2 <;> simp_all)
   clear hlg;go_wp2_with(go_at_call 180;refine mqv (Zs _ _ f.l _ _ f.m _) ?_);go_ret;exact⟨Cg (by rw[h1.out]),AB hb _⟩
 ·obtain rfl:k=Y fs:=J
  have et:=F (by have:=Ea.out;rwa [Ia]at this);go_wp2;go_loopw [25] (fun i wr'=>∃k:Nat,k<=Y fs/\i=U O k/\(fs.take k).any BA.QX=false/\Ag w w wr') (fun i _=>Y fs-(intOf i).toNat);exact⟨0,BM _,rfl,AO,hb⟩
  obtain⟨k,hk,rfl,hall,hb2⟩:=hrel;have kV:=F hall;clear hall;by_cases hlt:k<Y fs
  ·obtain⟨b,off,f,rfl,BN,hq,c0,c1⟩:=h.frc hlt hb2
   have Dp:=(hf _ _ hq).on (AB hb2 (N #[f.num,f.den] 58));have Oq:=(ZH hq et).2;by_cases hz:AF f.m=0
   ·have Ot:Aj (Cq fs=7):=F (by
     unfold Cq;rw[et.out,kU hq (by unfold BA.QX;simp[hz])];rfl)
    have e0:E8 (AF f.m)=0:=qrf hz dW;clear hz;go_wp2_with(go_at_call 80;refine mqv (Y4 _ _ f.m _ Dp.d J) ?_;rw[e0]);go_ret;exact⟨Cg (by rw[Ot.out]),AB hb2 _⟩
   ·have e0:((E8 (AF f.m):Int) == 0)=false:=by
     have:=Zx (Nat.pos_of_ne_zero hz);simp;omega
    have Hz:Aj (f.QX=false):=F (by unfold BA.QX;simp[hz]);clear hz;go_wp2_with(go_at_call 80;refine mqv (Y4 _ _ f.m _ Dp.d J) ?_);go_roundw;exact⟨k+1,J,qgm,kS hq kV Hz,AB hb2 _⟩;(simp[intOf] <;> omega)
  ·obtain rfl:k=Y fs:=J
   go_wp2;go_ret;exact⟨Cg (by unfold Cq;have:=kV.out;rw[Ia]at this;rw[et.out,this];rfl),hb2⟩
def Yc(w:V)(f:BA)(hb:b=↑w):Arr 2 BA.enc (Ao w (N f 58)) (Ao w (N f 58)) (I ⟨b,0,Z⟩) [f]:=by
 subst hb;exact Vs w [f] _ _ Q BA.BY
def ZJ(w:V)(f g:BA)(hb:b=↑w):Arr 2 BA.enc (Ao w (N #[R f.A (Y f.l) f.c,R f.C (Y f.m) f.d,R g.A (Y g.l) g.c,R g.C (Y g.m) g.d] 58)) (Ao w (N #[R f.A (Y f.l) f.c,R f.C (Y f.m) f.d,R g.A (Y g.l) g.c,R g.C (Y g.m) g.d] 58)) (I ⟨b,0,Z⟩) [f,g]:=by
 subst hb;exact Vs w [f,g] _ _ Q BA.BY
def Yd{f:BA}(h:f.In w)(hb:Ag w w w'):∀(k:Nat) (x:BA),[f][k]?=I x->x.In w':=by
 intro k x hx;have:=DI hx;simp at this;subst this;exact h.on hb
def ZK{f g:BA}(h:f.In w)(h':g.In w)(hb:Ag w w w'):∀(k:Nat) (x:BA),[f,g][k]?=I x->x.In w':=by
 intro k x hx;have:=DI hx;simp at this;rcases this with rfl | rfl
 ·exact h.on hb
 ·exact h'.on hb
def eu(f:BA)(w:V)(h:f.In w):
  AL AE 88 #[f.val] w fun e w'=>e=AN (U O (Cq [f]))/\Ag w w w':=by
 unfold BA.val;have hb0:=AB (AB (Ae w w) (N f 58)) (N f 58);have cV:=Tz (I ⟨↑w+1,0,Z⟩) 1 [f] _ (Yc (Ao w (N f 58)) f AO) (Yd h hb0) AO;rw[QV]at cV;go_in;go_wp2_with(go_at_call 135;refine gqz cV fun w3 hb3=>?_);go_ret;exact⟨Q,AH hb0 hb3⟩
def eB(n p:Int)(w:V):
  AL AE 185 #[U O n,U O p] w fun e w'=>e=AN (Av (decide (0<=n/\n<=512/\0<=p/\p<=n)))/\w=w':=by
 go_in;go_wp2
 all_goals(go_ret;exact⟨JJ (by rw[PO];simp;try omega),Q⟩)
def eC(f g:BA)(w:V)(hf:f.In w)(hg:g.In w)(a1:Y f.l<=900000)(a2:Y f.m<=900000)(a3:Y g.l<=900000)(a4:Y g.m<=900000):
  AL AE 136 #[f.val,g.val] w fun e w'=>∃v1 v2,e=AN (Be #[v1,v2])/\Big w' w v1 (AF f.l*AF g.m)/\Big w' w v2 (AF g.l*AF f.m)/\Ag w w w':=by
 unfold BA.val;have hb0:=AB (AB (Ae w w) (N f 58)) (N g 58);go_in;go_wp2_with fail;generalize hW:Ao (Ao w (N f 58)) (N g 58)=W at*;have k0:E W ⟨w,0,Z⟩=I (R f.A (Y f.l) f.c):=by subst hW;go_simp
 have k1:E W ⟨w,1,Z⟩=I (R f.C (Y f.m) f.d):=by subst hW;go_simp
 have k2:E W ⟨↑w+1,0,Z⟩=I (R g.A (Y g.l) g.c):=by subst hW;go_simp
 have k3:E W ⟨↑w+1,1,Z⟩=I (R g.C (Y g.m) g.d):=by subst hW;go_simp
 clear hW;have c1:=qbw w fun w' hb=>Ov f.A f.c f.l g.C g.d g.m w' (hf.on hb).n (hg.on hb).d J J
 have c2:=qbw w fun w' hb=>Ov g.A g.c g.l f.C f.d f.m w' (hg.on hb).n (hf.on hb).d J J
 go_region_held3 (fun w'=>Ag w w w'/\E w' ⟨w,0,Z⟩=I (R f.A (Y f.l) f.c)/\E w' ⟨w,1,Z⟩=I (R f.C (Y f.m) f.d)/\E w' ⟨↑w+1,0,Z⟩=I (R g.A (Y g.l) g.c)/\E w' ⟨↑w+1,1,Z⟩=I (R g.C (Y g.m) g.d))
  (first | (exact⟨hb0.drew,k0,k1,k2,k3⟩) | (go_split_ands;exact⟨AH (by assumption) hx1,AK hx1 (by assumption),AK hx1 (by assumption),AK hx1 (by assumption),AK hx1 (by assumption)⟩) | (go_split_ands;exact⟨AH (by assumption) hx2,AK hx2 (by assumption),AK hx2 (by assumption),AK hx2 (by assumption),AK hx2 (by assumption)⟩))
  (first | (go_at_call 131;refine Calls.on (FD:=#[R f.A (Y f.l) f.c,R g.C (Y g.m) g.d]) Q ?_;refine(c1 _ (by go_split_ands;assumption)).mono ?_;rintro e y1 ⟨v1,rfl,b1,hx1⟩) | (go_at_call 131;refine Calls.on (FD:=#[R g.A (Y g.l) g.c,R f.C (Y f.m) f.d]) Q ?_;refine(c2 _ (by go_split_ands;assumption)).mono ?_;rintro e y2 ⟨v2,rfl,b2,hx2⟩))
 go_wp2;go_ret2;have q1:=AH hb0.drew hx1;exact⟨_,_,Q,(b1.below hx2).down hb0.size,b2.down q1.size,AH q1 hx2⟩
def OB(f g:BA):Int:=if Cq [f,g]=0 then Ey (AF f.l*AF g.m) (AF g.l*AF f.m)else 0
def ZL(f g:BA)(w:V)(hf:f.In w)(hg:g.In w):
  AL AE 90 #[f.val,g.val] w fun e w'=>e=AN (Be #[U O (OB f g),U O (Cq [f,g])])/\Ag w w w':=by
 have hb1:=AB (AB (Ae w w) (N f 58)) (N g 58);have hb0:=AB hb1 (N #[R f.A (Y f.l) f.c,R f.C (Y f.m) f.d,R g.A (Y g.l) g.c,R g.C (Y g.m) g.d] 58);have cV:=Tz (I ⟨↑w+1+1,0,Z⟩) 2 [f,g] _ (ZJ (Ao (Ao w (N f 58)) (N g 58)) f g AO) (ZK hf hg hb0) AO;have QY:([f,g]:List BA).length=2:=Q;rw[QY]at cV;clear QY;by_cases h0:Cq [f,g]=0
 ·have Hc:Aj (OB f g=Ey (AF f.l*AF g.m) (AF g.l*AF f.m)):=F (by unfold OB;rw[Bd h0])
  rw[Hc.out];obtain⟨s1,s2,s3,s4⟩:=ZI h0;rw[h0]at cV ⊢;unfold BA.val;clear h0;go_in;go_wp2_with fail;refine gqz cV fun w3 hb3=>?_;have q3:=AH hb0 hb3;have k0:E w3 ⟨w,0,Z⟩=I (R f.A (Y f.l) f.c):=AK hb3 (by go_simp);have k1:E w3 ⟨w,1,Z⟩=I (R f.C (Y f.m) f.d):=AK hb3 (by go_simp);have k2:E w3 ⟨↑w+1,0,Z⟩=I (R g.A (Y g.l) g.c):=AK hb3 (by go_simp);have k3:E w3 ⟨↑w+1,1,Z⟩=I (R g.C (Y g.m) g.d):=AK hb3 (by go_simp);go_wp2_with fail;have cX:=eC f g w3 (hf.on q3) (hg.on q3) J J J J;unfold BA.val at cX;refine cX.mono ?_;rintro e w4⟨v1,v2,rfl,b1,b2,hb4⟩;obtain⟨A1,c1,CZ,n1⟩:=b1.nt;obtain⟨A2,c2,hv2,n2⟩:=b2.nt;rw[CZ,hv2];go_wp2_with fail;have cO:=Uk A1 c1 _ A2 c2 _ w4 n1.arr n2.arr n1.len n1.cap n2.len n2.cap n1.dig n2.dig;rw[Bu,Bu]at cO;refine gqz cO fun w5 Bh=>?_;go_wp2;go_ret2;exact⟨Q,AH (AH q3 hb4) Bh⟩
 ·have Hc:Aj (OB f g=0):=F (by unfold OB;rw[AU h0])
  rw[Hc.out];have h0':(Cq [f,g] != 0)=true:=qsu h0;clear h0;unfold BA.val;go_in;go_wp2_with fail;refine gqz cV fun w3 hb3=>?_;go_wp2;go_ret2;exact⟨Q,AH hb0 hb3⟩
end
section
variable{T:TypeId}{g hi lo:Nat}{p:Nat->Bool}{v:An}{w y:V}
def bs(p:Nat->Bool)(lo hi:Nat):Nat:=
 if h:lo<hi then(if p ((lo+hi+1) / 2)=true then bs p ((lo+hi+1) / 2) hi else bs p lo ((lo+hi+1) / 2-1))else lo
termination_by hi-lo
theorem kW(h:lo<hi)(hp:p ((lo+hi+1) / 2)=true):bs p lo hi=bs p ((lo+hi+1) / 2) hi:=by grind [bs]
theorem kZ(h:lo<hi)(hp:p ((lo+hi+1) / 2)=false):bs p lo hi=bs p lo ((lo+hi+1) / 2-1):=by grind [bs]
theorem xu(h:hi<=lo):bs p lo hi=lo:=by grind [bs]
theorem xv(h:lo<=hi):lo<=bs p lo hi/\bs p lo hi<=hi:=by
 obtain⟨n,hn⟩:=Az (hi-lo)
 induction n using Nat.strongRecOn generalizing lo hi with
 | ind n ih=>
  rcases D4 lo hi with hlt | D8
  ·cases hp:p ((lo+hi+1) / 2)
   ·rw[kZ hlt hp]
    have:=ih (((lo+hi+1) / 2-1)-lo) J J Q;omega
   ·rw[kW hlt hp]
    have:=ih (hi-(lo+hi+1) / 2) J J Q;omega
  grind [bs]
def QZ(total sample seen num den:Nat)(bad:Nat):Bool:=decide (num*ch total sample<Ox total bad sample seen*den)
def Ic(t s n:Int)(f:BA):Int:=if Cq [f]≠0 then Cq [f]else if¬(0<=t/\t<=512/\0<=s/\s<=t/\0<=n/\n<=s)then 3 else if AF f.m<=AF f.l then 2 else 0
def IE(t s n:Int)(f:BA):Int:=if Ic t s n f=0 then(bs (QZ t.toNat s.toNat n.toNat (AF f.l) (AF f.m)) n.toNat t.toNat:Nat)else 0
def xx(h:Ag (Ao w (N #[v] T)) (Ao w (N #[v] T)) y):E y ⟨w,0,Z⟩=I v/\Bo y ⟨w,0,Z⟩=false:=
 ⟨AK h (Cb Q),(h.frozen (p:=⟨w,0,Z⟩) AO).trans (ZM _ _ _ _ Q)⟩
def xy(h:Ag (Ao w (N #[v] T)).drew.heap.size (Ao w (N #[v] T)).drew y):E y ⟨w,0,Z⟩=I v/\Bo y ⟨w,0,Z⟩=false:=
 ⟨AK h (Cb (w:=w) Q),(h.frozen (p:=⟨w,0,Z⟩) AO).trans (ZM (w:=w) _ _ _ _ Q)⟩
def xz{a:AS}(h:Ag w w y)(hc:E w a=I v/\Bo w a=false):E y a=I v/\Bo y a=false:=
 ⟨AK h hc.1,(h.frozen (Ch w a hc.1)).trans hc.2⟩
def lf(h:E w ⟨g,0,Z⟩=I v)(u:An):E (Ai w ⟨g,0,Z⟩ u) ⟨g,0,Z⟩=I u:=by
 go_simp
def lh{base:Nat}{A:Option AS}{k c n:Nat}(hv:v=R A k c)(b:Big w base v n)(hlt:g<base)(u:An):Nt (Ai w ⟨g,0,Z⟩ u) A c (AJ n):=by
 subst hv;exact k9 (Own.QS b (Le _ _ _ _) hlt) (Ul _)
def xA(total sample seen bad L:Nat)(p0 p1 p2 p3 p4:Nat)(f:BA)(A:Option AS)(c:Nat)(w:V)(hf:f.In w)(ht:total<=512)(hs:sample<=total)(hn:seen<=sample)(hb:bad<=total)
  (k0:E w ⟨p0,0,Z⟩=I (U O total)) (k1:E w ⟨p1,0,Z⟩=I (U O sample)) (k2:E w ⟨p2,0,Z⟩=I (U O seen)) (k3:E w ⟨p3,1,Z⟩=I (R f.C (Y f.m) f.d))
  (k4:E w ⟨p4,0,Z⟩=I (R A (AJ L).length c)) (hL:Nt w A c (AJ L)) (a2:Y f.m<=900000):
  AL AE 187 #[U O bad,AI (I ⟨p0,0,Z⟩),AI (I ⟨p1,0,Z⟩),AI (I ⟨p2,0,Z⟩),AI (I ⟨p3,0,Z⟩),AI (I ⟨p4,0,Z⟩)] w
   fun e w'=>e=AN (Av (decide (L<Ox total bad sample seen*AF f.m)))/\Ag w w w':=by
 have lw:(AJ (Ox total bad sample seen)).length<=17:=eo (seen:=0) hb ht J;have c1:=fun w'=>xq total bad sample seen w' ht hb hs hn
 have c2:=qbw w fun w' hb A c (hn:Nt w' A c (AJ (Ox total bad sample seen)))=>Ov A c _ f.C f.d f.m w' hn (hf.on hb).d J J
 have c3:=qbw w fun w' hb A' c' (n1:Nt w' A' c' (AJ (Ox total bad sample seen*AF f.m)))=>Uk A' c' _ A c _ w' n1.arr (hL.on hb).arr n1.len n1.cap (hL.on hb).len (hL.on hb).cap n1.dig (hL.on hb).dig
 simp only[Bu]at c2 c3;have L0:=qbc k0;have L1:=qbc k1;have L2:=qbc k2;have L3:=qbc k3;have L4:=qbc k4;go_in;go_wp2_with fail
 go_region_held3 (fun w'=>Ag w w w')
  (first | (exact(Ae _ _).drew) | (refine AH ?_ hx1;assumption) | (refine AH ?_ hx2;assumption) | (refine AH ?_ hx3;assumption))
  (first | (go_at_call 188;refine(c1 _).mono ?_;rintro e y1⟨v1,rfl,b1,hx1⟩;obtain⟨A1,OC,CZ,n1⟩:=b1.nt;rw[CZ]) | (go_at_call 131;refine(c2 _ ?hB _ _ n1).mono ?_;(case hB=>assumption);rintro e y2⟨v2,rfl,b2,hx2⟩;obtain⟨A2,Ni,hv2,n2⟩:=b2.nt;rw[hv2]) | (go_at_call 137;refine(c3 _ ?hB _ _ n2).mono ?_;(case hB=>assumption);rintro e y3 ⟨rfl,hx3⟩))
 have e1:decide (0<Ey (Ox total bad sample seen*AF f.m) L)=decide (L<Ox total bad sample seen*AF f.m):=by
  unfold Ey;rw[PO];simp only[decide_eq_true_eq];split
  ·omega
  ·split <;> omega
 go_wp2;go_ret;exact⟨JJ e1,AH (AH (AH (Ae _ _).drew hx1) hx2) hx3⟩
def xB(total sample seen:Nat)(f:BA)(w:V)(hf:f.In w)(ht:total<=512)(hs:sample<=total)(hn:seen<=sample)(hv:Cq [f]=0)(hlt:AF f.l<AF f.m):
  AL AE 143 #[U O total,U O sample,U O seen,f.val] w fun e w'=>e=AN (Be #[U O (bs (QZ total sample seen (AF f.l) (AF f.m)) seen total:Nat),U O 0])/\Ag w w w':=by
 obtain⟨a1,a2⟩:=xr hv;unfold BA.val;have hb1:=AB (AB (AB (AB (Ae w w) (N #[U O total] 3)) (N #[U O sample] 3)) (N #[U O seen] 3)) (N f 58);have hb0:=AB hb1 (N f 58);go_enter Tryz.func143,Tryz.ntmps143;go_wp2_with fail;have cV:=Tz (I ⟨↑w+1+1+1+1,0,Z⟩) 1 [f] _ (Yc (Ao (Ao (Ao (Ao w (N #[U O total] 3)) (N #[U O sample] 3)) (N #[U O seen] 3)) (N f 58)) f AO) (Yd hf hb0) AO;rw[QV,hv]at cV;refine gqz cV fun w3 hb3=>?_;have q3:=AH hb0 hb3;have k0:E w3 ⟨w,0,Z⟩=I (U O total):=AK hb3 (by go_simp);have k1:E w3 ⟨↑w+1,0,Z⟩=I (U O sample):=AK hb3 (by go_simp);have k2:E w3 ⟨↑w+1+1,0,Z⟩=I (U O seen):=AK hb3 (by go_simp);have k3:E w3 ⟨↑w+1+1+1,0,Z⟩=I (R f.A (Y f.l) f.c):=AK hb3 (by go_simp);have k4:E w3 ⟨↑w+1+1+1,1,Z⟩=I (R f.C (Y f.m) f.d):=AK hb3 (by go_simp);have Kr:w.heap.size+1+1+1+1<w3.heap.size:=by have:=hb3.size;simp at this;omega
 have sn:decide (0<=(total:Int)/\(total:Int)<=512/\0<=(sample:Int)/\(sample:Int)<=(total:Int))=true:=by simp;omega
 have fin:=hf.on q3;have cO:=Uk f.A f.c f.l f.C f.d f.m w3 fin.n.arr fin.d.arr fin.n.len fin.n.cap fin.d.len fin.d.cap fin.n.dig fin.d.dig;rw[XX hlt]at cO;clear cV hv;go_wp2_with(first | (go_at_call 185;refine mqv (eB _ _ _) ?_;rw[sn]) | (go_at_call 137;refine gqz cO fun w4 hb4=>?_));have q4:=AH q3 hb4;have m0:=AK hb4 k0;have m1:=AK hb4 k1;have m2:=AK hb4 k2;have m3:=AK hb4 k3;have m4:=AK hb4 k4;clear k0 k1 k2 k3 k4 cO sn fin;have l1:=VA (n:=total) (k:=sample) ht;have c1:=fun w'=>Ya total sample w' ht J
 have c2:=qbw w4 fun w' hb A c (hn:Nt w' A c (AJ (ch total sample)))=>Ov f.A f.c f.l A c _ w' (hf.on (AH q4 hb)).n hn J J
 simp only[Bu]at c2;have L0:=qbc m0;have L1:=qbc m1;have L3:=qbc m3;go_cut [11] (fun Ra wx=>∃g A c,Ra=AI (I ⟨g,0,Z⟩)/\Ag w4 w4 wx/\E wx ⟨g,0,Z⟩=I (R A (AJ (AF f.l*ch total sample)).length c)/\Nt wx A c (AJ (AF f.l*ch total sample)))
 case first=>
  go_region_held3 (fun w'=>Ag w4 w4 w')
   (first | (exact(Ae _ _).drew) | (exact(AB (Ae _ _) _).drew) | (refine AH ?_ hx1;assumption) | (refine AH ?_ hx2;assumption) | (refine AB ?_ _;assumption) | (exact Below.setCell (AH (AH (AB (Ae _ _) _).drew hx1) hx2) (Bg _) _) | (exact Below.setCell (p:=⟨y1,0,Z⟩) (AH (AB (AH (Ae _ _).drew hx1) _) hx2) hx1.size _) | (exact AB (AH (AH (Ae _ _).drew hx1) hx2) _))
   (first | (go_at_call 186;refine(c1 _).mono ?_;rintro e y1⟨v1,rfl,b1,hx1⟩;(try have bz1:=xy hx1);obtain⟨A1,OC,CZ,n1⟩:=b1.nt;rw[CZ]) | (go_at_call 131;refine(c2 _ ?hB _ _ n1).mono ?_;(case hB=>assumption);rintro e y2⟨v2,rfl,b2,hx2⟩;(try have bz2:=xz hx2 bz1);obtain⟨A2,Ni,hv2,n2⟩:=b2.nt;rw[hv2]) | (go_at_call 131;refine(c2 _ ?hB _ _ (n1.on (AB (Ae _ _) _))).mono ?_;(case hB=>assumption);rintro e y2⟨v2,rfl,b2,hx2⟩;(have bz2:=xx hx2);obtain⟨A2,Ni,hv2,n2⟩:=b2.nt;rw[hv2]))
  all_goals(
   go_wp2;go_meet
   case rel=>first
    | exact⟨_,_,_,Q,AB (AH (AH (Ae _ _).drew hx1) hx2) _,Cb Q,n2.on (AB (Ae _ _) _)⟩
    | exact⟨_,_,_,Q,Below.setCell (AH (AH (AB (Ae _ _) _).drew hx1) hx2) (Bg _) _,lf bz2.1 _,lh hv2 b2 (by have:=hx1.size;simp at this;omega) _⟩
    | exact⟨_,_,_,Q,Below.setCell (p:=⟨y1,0,Z⟩) (AH (AB (AH (Ae _ _).drew hx1) _) hx2) hx1.size _,lf bz2.1 _,lh hv2 b2 AO _⟩)
 obtain⟨g5,A2,Ni,rfl,Bh,n5',nt7⟩:=hcut;have q7:=AH q4 Bh;have n0:=AK Bh m0;have n1':=AK Bh m1;have n2':=AK Bh m2;have n3':=AK Bh m3;have n4':=AK Bh m4;have e2:=Di n2';have e0:=Di n0;clear c1 c2 m0 m1 m2 m3 m4 L0 L1 L3;go_wp2_with fail;refine qrl ?_;rintro w8⟨⟨_,Cv⟩,rfl⟩;clear e2 e0;have r0:=AK Cv n0;have r1:=AK Cv n1';have r2:=AK Cv n2';have r4:=AK Cv n4';have r5:=AK Cv n5';have q8:=AH q7 Cv;have nt8:=nt7.on Cv;clear n0 n1' n2' n3' n4' n5' nt7;go_wp2_with fail;go_loopw [13,14] (fun a b wr=>∃lo hi:Nat,lo<=hi/\hi<=total/\a=U O lo/\b=U O hi/\bs (QZ total sample seen (AF f.l) (AF f.m)) lo hi=bs (QZ total sample seen (AF f.l) (AF f.m)) seen total/\Ag w8 w8 wr) (fun a b _=>(intOf b).toNat-(intOf a).toNat);exact⟨seen,total,J,Bg _,rfl,rfl,rfl,Ae _ _⟩
 obtain⟨lo,hi,h1,h2,rfl,rfl,hv,hb⟩:=hrel;have Hv:=F hv;clear hv;by_cases hlh:lo<hi
 ·obtain⟨s,hs1⟩:∃s:Nat,(lo:Int)+(hi:Int)+1=(s:Int):=⟨lo+hi+1,J⟩
  obtain⟨mid,hm1⟩:∃mid:Nat,(s:Int) / 2=(mid:Int):=⟨s / 2,J⟩
  have hme:Aj ((lo+hi+1) / 2=mid):=F J;have Nh:mid<=total:=J;have qr:=AH q8 hb;have cB:=xA total sample seen mid (AF f.l*ch total sample) _ _ _ _ _ f A2 Ni wr (hf.on qr) ht hs hn Nh (AK hb r0) (AK hb r1) (AK hb r2) (AK hb r4) (AK hb r5) (nt8.on hb) J;change AL _ _ _ _ fun e w'=>e=AN (Av (QZ total sample seen (AF f.l) (AF f.m) mid))/\_ at cB
  cases hp:QZ total sample seen (AF f.l) (AF f.m) mid
  ·rw[hp]at cB
   have hst:=kZ (p:=QZ total sample seen (AF f.l) (AF f.m)) hlh (qrf hme.out hp);rw[hme.out]at hst;have Fv:=F hst;clear hst hp;go_wp2_with(go_at_call 187;refine gqz cB fun w9 BC=>?_);go_roundw
   case rel=>first | exact⟨lo,mid-1,by have:=hme.out;omega,J,Q,qgm,qrb Fv.out Hv,AH hb BC⟩ | ((repeat apply PQ);exact⟨⟨lo,mid-1,by have:=hme.out;omega,J,Q,qgm,qrb Fv.out Hv,AH hb BC⟩,Q⟩)
   case measure=>(simp[intOf] <;> omega)
  ·rw[hp]at cB
   have hst:=kW (p:=QZ total sample seen (AF f.l) (AF f.m)) hlh (qrf hme.out hp);rw[hme.out]at hst;have Fv:=F hst;clear hst hp;go_wp2_with(go_at_call 187;refine gqz cB fun w9 BC=>?_);go_roundw
   case rel=>first | exact⟨mid,hi,by have:=hme.out;omega,h2,Q,Q,qrb Fv.out Hv,AH hb BC⟩ | ((repeat apply PQ);exact⟨⟨mid,hi,by have:=hme.out;omega,h2,Q,Q,qrb Fv.out Hv,AH hb BC⟩,Q⟩)
   case measure=>(simp[intOf] <;> omega)
 ·obtain rfl:lo=hi:=J
  go_wp2;go_ret2;have:=Hv.out;rw[xu (Bg _)]at this;exact⟨by rw[<-this];rfl,AH q8 hb⟩
end
structure C5 where
 k:Int
 f:Int
 t:Int
 a:Int
 b:Int
instance:CoeOut C5 (Array An):=⟨fun z=>#[U O z.k,U O z.f,U O z.t,U O z.a,U O z.b]⟩
def C5.enc(r:C5):List An:=[U O r.k,U O r.f,U O r.t,U O r.a,U O r.b]
def C5.BY(r:C5):Y r.enc=5:=Q
def C5.val(r:C5):An:= Ba r
def WO(r:C5):Bool:=decide (0<=r.f)&&decide (r.f<=r.t)&&decide (r.t<4096)
def Us(x:Int):Bool:=(x == 0)||(x == 1)
def DU(r:C5):Bool:=
 if r.k=1\/r.k=2 then(r.f == 0)&&(r.t == 0)&&FP r.a&&(r.b == 0)
 else if r.k=3 then(r.f == 0)&&(r.t == 0)&&Us r.b&&decide (r.b<=r.a)&&decide (r.a<=16)
 else if r.k=4\/r.k=6 then WO r&&FP r.a&&(r.b == 0)
 else if r.k=5 then WO r&&(r.a == 0)&&(r.b == 0)
 else if r.k=7 then WO r&&Us r.a&&Us r.b
 else false
def VD(r:C5):Int:=if DU r=true then 0 else 2
def lC(k f t a b:Int)(w:V):AL AE 211 #[Ba #[U O k,U O f,U O t,U O a,U O b]] w fun e w'=>e=AN (Av (decide (4<=k)))/\Ag w w w':=by
 go_in;go_wp2;go_ret;exact⟨Q,AB (Ae _ _) _⟩
theorem xQ(r:C5)(w:V):AL AE 164 #[r.val] w fun e w'=>e=AN (U O (VD r))/\Ag w w w':=by
 obtain⟨k,f,t,a,b⟩:=r;unfold C5.val;have cP:=fun x w'=>Y8 x w'
 have cG:=fun k f t a b w'=>lC k f t a b w'
 go_in
 go_wp2_with(first
  | (go_at_call 210;refine mqv (cP _ _) ?_)
  | (go_at_call 211;refine gqz (cG _ _ _ _ _ _) fun w1 hb1=>?_;have y1:=AK hb1 (Cb (j:=1) Q);have y2:=AK hb1 (Cb (j:=2) Q);have q1:=AH (AB (Ae w w) _) hb1))
 all_goals(
  go_ret
  first
   | exact⟨Cg (by simp_all [VD,DU,WO,Us] <;> omega),by assumption⟩
   | exact⟨Cg (by simp_all [VD,DU,WO,Us] <;> omega),AB (Ae _ _) _⟩)
def xR(A:Option AS)(c:Nat)(l:List Nat)(C:Option AS)(d:Nat)(m:List Nat)(w:V)(hA:Nt w A c l)(hC:Nt w C d m)(hl:Y l<=64)(hm:Y m<=64):
  AL AE 163 #[R A (Y l) c,R C (Y m) d] w fun e w'=>e=AN (Be #[U O (Ey (AF l) (AF m)),U O 0])/\Ag w w w':=by
 have hz:=dN.2 ⟨hl,hm⟩;have cC:=Zs A c l C d m w;rw[hz]at cC;have cO:=Uk A c l C d m w hA.arr hC.arr hA.len hA.cap hC.len hC.cap hA.dig hC.dig;clear hz;go_in
 go_wp2_with(first
  | (go_at_call 180;refine mqv (cC) ?_)
  | (go_at_call 137;refine gqz cO fun w1 hb1=>?_))
 go_ret2;exact⟨Q,hb1⟩
structure Dn(w:V)(A:Option AS)(c:Nat)(l:List Nat):Prop where
 arr:Arr 1 vw w w A l
 len:Y l<=c
 cap:c<=maxLen
 dig:BZ 256 l
 nil:A=Z->c=0
def b8:2<=256:=AC
def dg(n:Nat):List Nat:=G4 256 n
theorem Gr:(prog.info? 3).map (fun i=>(i.zero,i.size,i.bytes))=I (I (U O 0),1,8):=AG
structure It where
 A:Option AS
 n:Nat
 c:Nat
def It.enc(x:It):An:= R x.A x.n x.c
theorem It.one(x:It):∀u∈[x.enc],u.oneCell'=true:=by simp[It.enc,Value.oneCell']
def lE:(prog.info? 37).map (fun i=>(i.zero,i.size,i.bytes))=I (I (R Z 0 0),1,24):=AG
def Rows(w:V)(base:Nat)(v:An)(f:Nat->Nat)(n:Nat):Prop:=
 ∃g cap,∃items:List It,v=R (I ⟨g,0,Z⟩) n cap/\Y items=n/\Own w base 37 1 (fun x=>[It.enc x]) v items/\
  ∀(k:Nat) (it:It),items[k]?=I it->it.n=(dg (f k)).length/\Dn w it.A it.c (dg (f k))/\∀a,it.A=I a->a.block≠g/\a.block<↑w
theorem Arr.drop{α:Type}{sz:Nat}{enc:α->List An}{w:V}{B b off:Nat}{l:List α}(h:Arr sz enc w B (I ⟨b,off,Z⟩) l)(k:Nat):Arr sz enc w B (I ⟨b,off+k*sz,Z⟩) (l.drop k):=fun hl=>by
 obtain⟨b',ZT,he,hb,hc⟩:=h (by rintro rfl;simp at hl);cases he;refine⟨b,_,Q,hb,fun i x hx j u hu=>?_⟩;rw[List.getElem?_drop]at hx;have:=hc _ x hx j u hu;rw[Ol,<-Nat.add_assoc]at this;exact this
section
variable{k:Nat}{l:List C5}{r:C5}
def PW(l:List C5):Nat:=(l.filter fun r=>r.k == 3).length
def LZ(l:List C5):Int:=if 32<Y l then 5 else if l.all DU=false then 2 else if 1<PW l then 10 else 0
theorem xZ(h:¬32<Y l)(hk:l[k]?=I r)(hr:DU r=false):LZ l=2:=by
 grind [LZ,DU]
theorem ya(h:¬32<Y l)(ha:(l.take (Y l)).all DU=true):LZ l=if 1<PW l then 10 else 0:=by
 grind [LZ,PW,DU]
theorem yc(hk:l[k]?=I r):PW (l.take (k+1))=PW (l.take k)+(if(r.k == 3)=true then 1 else 0):=by
 unfold PW;rw[GU,hk,List.filter_append,KZ]
 grind
theorem yd(hk:l[k]?=I r)(ha:(l.take k).all DU=true)(hr:DU r=true):(l.take (k+1)).all DU=true:=by
 rw[GU,hk,Su,ha]
 grind
def Arr.rul{w w':V}{B:Nat}{A:Option AS}(h:Arr 5 C5.enc w B A l)(hk:k<Y l)(hb:Ag B w w'):
  ∃b off x,A=I ⟨b,off,Z⟩/\b<B/\Aj (l[k]?=I x)/\E w' ⟨b,off+k*5,Z⟩=I (U O x.k)/\E w' ⟨b,off+k*5+1,Z⟩=I (U O x.f)/\
   E w' ⟨b,off+k*5+2,Z⟩=I (U O x.t)/\E w' ⟨b,off+k*5+3,Z⟩=I (U O x.a)/\E w' ⟨b,off+k*5+4,Z⟩=I (U O x.b):=by
 obtain⟨b,off,rfl,BN,hc⟩:=h.get hk hb;exact⟨b,off,_,Q,BN,F (CH hk),hc 0 _ Q,hc 1 _ Q,hc 2 _ Q,hc 3 _ Q,hc 4 _ Q⟩
def ZV(A:Option AS)(c:Nat)(l:List C5)(w:V)(hA:Arr 5 C5.enc w w A l)(hl:Y l<=9223372036854775807):
  AL AE 112 #[R A (Y l) c] w fun e w'=>e=AN (U O (LZ l))/\Ag w w w':=by
 by_cases SF:32<Y l
 ·have d1:decide (32<(Y l:Int))=true:=by simp;omega
  have e1:LZ l=5:=by unfold LZ;rw[Bd SF]
  rw[e1];go_in;go_wp2;go_ret;exact⟨Q,Ae _ _⟩
 have d1:decide (32<(Y l:Int))=false:=by simp;omega
 have cR:=fun(r:C5) w'=>xQ r w'
 go_in;go_wp2_with fail;go_loopw [3,12] (fun s i wr=>∃k n:Nat,k<=Y l/\n<=k/\i=U O k/\s=U O n/\Aj ((l.take k).all DU=true/\PW (l.take k)=n)/\Ag w w wr) (fun _ i _=>Y l+1-(intOf i).toNat);exact⟨0,0,BM _,Bg _,rfl,rfl,F ⟨rfl,rfl⟩,Ae _ _⟩
 obtain⟨k,n,hk,hn,rfl,rfl,inv,hb⟩:=hrel;obtain⟨w6,rfl⟩:=qgn wr;rcases D4 k (Y l)with hlt | D8
 ·obtain⟨b,off,x,rfl,BN,hx,c0,c1,c2,c3,c4⟩:=hA.rul hlt hb
  have hst:=F (yc hx);have cX:=fun w'=>cR x w'
  unfold C5.val at cX;go_wp2_with fail;refine gqz (cX _) fun w7 Cl=>?_;have y0:=AK Cl (Cb (j:=0) Q);have q7:=AH (AB hb _) Cl;cases hr:DU x
  ·have E1:=F (xZ SF hx hr)
   have e2:VD x=2:=by unfold VD;rw[hr];rfl
   rw[e2];go_wp2;go_ret;exact⟨Cg (by rw[E1.out]),q7⟩
  ·have e2:VD x=0:=by unfold VD;rw[Bd hr]
   rw[e2];have OF:=F (yd hx inv.out.1 hr);cases h3:(x.k == 3)
   ·have CW:Aj (PW (l.take (k+1))=n):=F (by rw[hst.out,inv.out.2,h3];rfl)
    clear hst;go_wp2_with fail;exact⟨⟨k+1,n,J,J,qgm,Q,F ⟨OF.out,CW.out⟩,q7⟩,qio⟩
   ·have CW:Aj (PW (l.take (k+1))=n+1):=F (by rw[hst.out,inv.out.2,h3];rfl)
    clear hst;go_wp2_with fail;exact⟨⟨k+1,n+1,J,J,qgm,qgm,F ⟨OF.out,CW.out⟩,q7⟩,qio⟩
 ·have LR:k=Y l:=J
  subst LR;have fin:=F (ya SF inv.out.1);have hN:=F (by have:=inv.out.2;rwa [Ia]at this);by_cases h1:1<n
  ·have d2:decide (1<(n:Int))=true:=by simp;omega
   go_wp2;go_ret;exact⟨Cg (by rw[fin.out,hN.out,Bd h1]),hb⟩
  ·have d2:decide (1<(n:Int))=false:=by simp;omega
   go_wp2;go_ret;exact⟨Cg (by rw[fin.out,hN.out,AU h1]),hb⟩
end
def Yj(n:Nat)(t:Int):Nat:=if t<(n:Int)then(t+1).toNat else n+1
def UA(n:Nat)(t:Int):Nat:=CV (ch n) (Yj n t)
theorem eO(n:Nat)(t:Int):Yj n t<=n+1:=by grind [Yj]
def lZ{n k:Nat}(hk:k<=n+1):CV (ch n) k<=2^n:=by
 have:=kH (ch n) hk
 rwa [wW n (n+1) J]at this
def yJ(n:Nat)(t:Int):UA n t<=2^n:=lZ (eO n t)
def eQ{n k:Nat}(hk:k<=n+1)(hn:n<=512):(AJ (CV (ch n) k)).length<=17:=
 WJ (k:=17) (m:=n+1) (Do (lZ hk) (WE AC J)) J
def yK(w:V)(base:Nat):Big w base (R Z 0 0) 0:=by unfold Big AJ;rw[Vv];exact Own.nil
def yL(n:Nat)(t:Int)(w:V)(hn:n<=512)(ht1: -9223372036854775808<=t)(ht2:t<=9223372036854775807):
  AL AE 23 #[U O n,U O t] w fun e w'=>∃v,e=AN (Be #[v,U O 0])/\Big w' w v (UA n t)/\Ag w w w':=by
 obtain⟨M,hM⟩:=Az (Yj n t);have hMn:=eO n t;have hB:Aj (UA n t=CV (ch n) M):=F (by unfold UA;rw[hM]);rw[hM]at hMn;have g1:decide (512<(n:Int))=false:=by simp;omega
 have g2:decide ((n:Int)<0)=false:=AO
 have hc:(∀j:Nat,j<M->(j:Int)<=t)/\((M:Int)<=t->M=n+1):=by
  unfold Yj at hM;split at hM
  ·constructor
   ·intro j hj;omega
   ·intro h;omega
  ·constructor
   ·intro j hj;omega
   ·intro h;omega
 have Hc:=F hc;clear hM hc;go_in;go_wp2_with fail;go_loopw [6,7,8] (fun s c i wr=>∃j:Nat,j<=M/\i=U O j/\Big wr w s (CV (ch n) j)/\Big wr w c (ch n j)/\Ag w w wr) (fun _ _ i _=>M-(intOf i).toNat);exact⟨0,BM _,rfl,yK _ _,by rw[Y7];exact kJ w w 1 AC AC (Bg _),AB (Ae _ _) _⟩
 obtain⟨j,hj,rfl,bs,bc,hb⟩:=hrel;have FR:=hb.size;rcases D4 j M with hlt | D8
 ·have h1:=Hc.out.1 j hlt
  obtain⟨A1,c1,rfl,nt1⟩:=bs.nt;obtain⟨A2,c2,rfl,nt2⟩:=bc.nt;have l1:=eQ (n:=n) (k:=j) J hn;have l2:=VA (n:=n) (k:=j) hn;have cP:=Zw A1 c1 _ A2 c2 _ wr nt1 nt2 J J;rw[Bu,Bu]at cP;have cN:=qbw wr fun w' hb'=>ZD A2 c2 _ n j w' (nt2.on hb') J J J
  simp only[Bu,ZC]at cN;have hst:Aj (CV (ch n) j+ch n j=CV (ch n) (j+1)):=F Q;rcases Int.lt_or_le (n:Int) t with htn | htn
  all_goals
   go_wp2_with(first | (go_at_call 76;refine cP.mono ?_;rintro e' w5 ⟨v5,rfl,b5,Bh⟩) | (go_at_call 77;refine(cN _ Bh).mono ?_;rintro e' w6 ⟨v6,rfl,b6,BV⟩));have s5:=Bh.size;go_roundw
   case rel=>first | exact⟨j+1,J,qgm,by rw[<-hst.out];exact(b5.below BV).down J,b6.down J,hb.trans ((Bh.trans (BV.mono s5)).mono FR)⟩ | ((repeat apply PQ);exact⟨⟨j+1,J,qgm,by rw[<-hst.out];exact(b5.below BV).down J,b6.down J,hb.trans ((Bh.trans (BV.mono s5)).mono FR)⟩,Q⟩)
   case measure=>(simp[intOf] <;> omega)
 ·obtain rfl:j=M:=J
  obtain⟨A1,c1,rfl,nt1⟩:=bs.nt;have l1:=eQ (n:=n) (k:=j) J hn;have cC:=WA A1 c1 _ wr nt1 J;rw[Bu]at cC;rcases Int.lt_or_le (n:Int) t with htn | htn
  focus
   have h2:(n:Int)<(j:Int):=by
    rcases Int.lt_or_le t (j:Int)with h | h
    ·omega
    ·have:=Hc.out.2 h;omega
   have h3:decide (j<=n)=false:=by simp;omega
  rotate_left
  focus
   have h2:t<(j:Int):=by
    rcases Int.lt_or_le t (j:Int)with h | h
    ·exact h
    ·have:=Hc.out.2 h;omega
  rotate_left
  all_goals
   go_wp2_with(go_at_call 78;refine cC.mono ?_;rintro e' w5 ⟨v5,rfl,b5,Bh⟩);go_ret2;exact⟨_,Q,qrf hB.out (b5.down FR),hb.trans (Bh.mono FR)⟩
def yO(n t:Int)(w:V)(hn:n<0\/512<n):
  AL AE 23 #[U O n,U O t] w fun e w'=>e=AN (Be #[R Z 0 0,U O 3])/\w=w':=by
 rcases hn with h | h
 ·go_in
  go_wp2;go_ret2;exact⟨Q,Q⟩
 ·have h':¬n<0:=J
  go_in;go_wp2;go_ret2;exact⟨Q,Q⟩
def yP(A:Option AS)(c:Nat)(l:List Nat)(w:V)(hA:Nt w A c l)(hl:Y l<=64):
  AL AE 24 #[R A (Y l) c] w fun e w'=>e=AN (Be #[U O (E8 (AF l)),U O 0])/\w=w':=by
 have hz:Wz l=0:=by unfold Wz;rw[AU J]
 have cC:=jJ A c l w;rw[hz]at cC;go_in;go_wp2_with(first | (go_at_call 79;refine mqv (cC) ?_) | (go_at_call 80;refine mqv (Y4 A c l _ hA J) ?_));go_ret2;exact⟨Q,Q⟩
section
variable{a b d:Nat}
theorem gcd_both(ha:a%2=0)(hb:b%2=0):Nat.gcd a b=2*Nat.gcd (a / 2) (b / 2):=by
 rw[<-Nat.gcd_mul_left]
 grind
def Ab0(h:¬(a%2=0/\b%2=0)):Nat.gcd a b%2=1:=by
 refine Xg fun hc=>h ?_
 have h2:2∣Nat.gcd a b:=Nat.dvd_of_mod_eq_zero J;exact⟨Nat.mod_eq_zero_of_dvd (Nat.dvd_trans h2 (Nat.gcd_dvd_left _ _)),Nat.mod_eq_zero_of_dvd (Nat.dvd_trans h2 (Xh _ _))⟩
def Ab1(h:b%2=1):Nat.Coprime 2 b:=by
 unfold Nat.Coprime;rw[Nat.gcd_rec,h,Nat.gcd_one_left]
theorem pM(ho:Nat.gcd a b%2=1)(ha:a%2=0):Nat.gcd (a / 2) b=Nat.gcd a b:=by
 have hb:b%2=1:=by
  refine Xg fun hc=>?_
  rw[gcd_both ha J]at ho;omega
 have e:a=2*(a / 2):=J;have:=(Ab1 hb).gcd_mul_left_cancel (a / 2)
 grind
theorem Ab2(ho:Nat.gcd a b%2=1)(hb:b%2=0):Nat.gcd a (b / 2)=Nat.gcd a b:=by
 rw[Nat.gcd_comm a b]at ho ⊢;rw[Nat.gcd_comm a]
 grind [pM]
def pN(h:b<=a):Nat.gcd (a-b) b=Nat.gcd a b:=Nat.gcd_sub_self_left h
def Ab3{x y u v:Nat}(h1:Nat.Coprime x y)(h2:Nat.Coprime u v)(h:x*v=u*y):x=u/\y=v:=by
 refine⟨Nat.dvd_antisymm ?_ ?_,Nat.dvd_antisymm ?_ ?_⟩
 ·exact h1.dvd_of_dvd_mul_right (m:=u) (by rw[<-h];exact Nat.dvd_mul_right _ _)
 ·exact h2.dvd_of_dvd_mul_right (m:=x) (by rw[h];exact Nat.dvd_mul_right _ _)
 ·exact h1.symm.dvd_of_dvd_mul_left (m:=x) (by rw[h];exact Nat.dvd_mul_left _ _)
 ·exact h2.symm.dvd_of_dvd_mul_left (m:=u) (by rw[<-h];exact Nat.dvd_mul_left _ _)
def rfN(a b:Nat):Nat:=a / Nat.gcd a b
def BQ(a b:Nat):Nat:=b / Nat.gcd a b
theorem Mz(hb:0<b):0<Nat.gcd a b/\a=Nat.gcd a b*rfN a b/\b=Nat.gcd a b*BQ a b/\Nat.Coprime (rfN a b) (BQ a b)/\0<BQ a b:=by
 have g1:0<Nat.gcd a b:=Nat.gcd_pos_of_pos_right _ hb;refine⟨g1,(Nat.mul_div_cancel' (Nat.gcd_dvd_left a b)).symm,(Nat.mul_div_cancel' (Xh a b)).symm,Nat.coprime_div_gcd_div_gcd g1,Nat.div_pos (Nat.le_of_dvd hb (Xh a b)) g1⟩
theorem JZ(a b:Nat):rfN a b<=a/\BQ a b<=b:=⟨Sy _ _,Sy _ _⟩
theorem Ab4(hb:0<b):rfN a b*b=a*BQ a b:=by
 grind [rfN,BQ,Mz]
theorem Ab5{c:Nat}(hb:0<b)(hd:0<d)(h:a*d=c*b):rfN a b=rfN c d/\BQ a b=BQ c d:=by
 obtain⟨p1,e1,e2,k1,_⟩:=Mz (a:=a) hb;obtain⟨p2,e3,e4,k2,_⟩:=Mz (a:=c) hd;generalize Nat.gcd a b=g at*;generalize Nat.gcd c d=k at*;generalize rfN a b=x at*;generalize BQ a b=y at*;generalize rfN c d=u at*;generalize BQ c d=v at*;refine Ab3 k1 k2 ?_;rw[e1,e2,e3,e4]at h
 have h2:g*k*(x*v)=g*k*(u*y):=by
  grind
 exact Nat.eq_of_mul_eq_mul_left (I9 p1 p2) h2
theorem pO(hd:0<d):rfN 0 d=0/\BQ 0 d=1:=by
 simp_all [rfN,BQ]
end
section
variable{A B C D T d x y:Nat}
def EL(A B x T:Nat):Prop:=0<B/\A*T=x*B
def EL.rd(h:EL A B x T)(hT:0<T):rfN A B=rfN x T/\BQ A B=BQ x T:=Ab5 h.1 hT h.2
theorem UW(hT:0<T):EL (rfN x T) (BQ x T) x T:=⟨(Mz hT).2.2.2.2,Ab4 hT⟩
theorem EL.add(h:EL A B x T)(k:EL C D y T):EL (A*D+C*B) (B*D) (x+y) T:=by
 refine⟨I9 h.1 k.1,?_⟩
 grind [EL]
theorem EL.pP(h:EL A B x T)(k:EL C D y T):A*D*T=x*(B*D)/\C*B*T=y*(B*D):=
 ⟨by grind [EL],by grind [EL]⟩
def EL.sub(h:EL A B x T)(k:EL C D y T):EL (A*D-C*B) (B*D) (x-y) T:=by
 obtain⟨e1,e2⟩:=h.pP k;refine⟨I9 h.1 k.1,?_⟩;rw[Nat.sub_mul,Nat.sub_mul,e1,e2]
def EL.le(h:EL A B x T)(k:EL C D y T)(hT:0<T):C*B<=A*D↔y<=x:=by
 obtain⟨e1,e2⟩:=h.pP k;have hp:=I9 h.1 k.1;constructor
 ·intro hh
  have:=PX T hh;rw[e1,e2]at this;exact Nat.le_of_mul_le_mul_right this hp
 ·intro hh
  have:=PX (B*D) hh;rw[<-e1,<-e2]at this;exact Nat.le_of_mul_le_mul_right this hT
theorem EL.div(h:EL A B x T)(hd:0<d):EL (A*1) (B*d) x (T*d):=by
 refine⟨I9 h.1 hd,?_⟩
 grind [EL]
theorem Ab6{CN n t:Nat}(hd:0<d)(hT:d*t=T):EL (CN*n) d (CN*n*t) T:=by
 grind [EL]
theorem Ab7(h:EL A B x T)(hT:0<T):(B<A↔T<x):=by
 obtain⟨hB,e⟩:=h;constructor
 ·intro hh
  refine WG fun hx=>?_
  have h1:=PX B hx;have h2:=WK hh hT
  grind
 ·intro hh
  refine WG fun hx=>?_
  have h1:=PX T hx;have h2:=WK hh hB
  grind
end
end Go.Proofs.YtjpidgffdkjjeaaGreat
