/- Contracts and plain laws. No condition. -/
import Derived.Test.YtjpidgffdkjjeaaGreatCA
import Derived.Test.YtjpidgffdkjjeaaGreatC01
import Derived.Test.YtjpidgffdkjjeaaGreatC03
set_option linter.all false
set_option maxHeartbeats 16000000
namespace Go.Proofs.YtjpidgffdkjjeaaGreat
open Go.Proofs.Tryz
open Go.Proofs.Tryz renaming prog->AE
open List renaming length->Y
open Go.World renaming cell?->E,setCell->Ai,alloc->Ao,frozen?->Bo
open Go.Value renaming int->U,slice->R,pointer->AI,agg->Ba,tuple->Be,nilFunc->Bl,bool->Av
open Go.IntKind renaming i64->O,u64->AA,u32->BF,u8->Cd
open Option renaming none->Z,some->I
open Go.Ending renaming returned->AN
open Go.Obj renaming cells->N
open Go renaming World->V,Value->An,Calls->AL,Addr->AS
open Go.RowKit renaming Below->Ag,Hid->Aj
set_option maxRecDepth 100000
open Go.RowKit
section
variable{b k:Int}{l:List C8}{w:V}{x:C8}
def yC:(prog.info? 181).map (fun i=>(i.zero,i.size,i.bytes))=I (I (Ba #[U O 0,U O 0]),2,16):=AG
theorem yD{P:Program}{e:TypeId}{z:An}{s b:Nat}(h:(P.info? e).map (fun i=>(i.zero,i.size,i.bytes))=I (I z,s,b)):∃i,P.info? e=I i/\i.zero=I z/\i.size=s/\i.bytes=b:=by
 obtain⟨i,hi,hzz⟩:=Option.map_eq_some_iff.1 h
 grind
def Yi{w':V}(h:w.grownBy w' Z):Ag w w w':=⟨h.os,h.tape,h.output,h.size,fun k hk=>h.block k hk AO⟩
theorem yE{α:Type}{base e sz:Nat}{enc:α->List An}{v:An}{l:List α}(h:Own w base e sz enc v l)(hl:0<Y l):∃g cap,v=R (I ⟨g,0,Z⟩) (Y l) cap/\base<=g/\g<↑w:=by
 rcases h.2 with⟨_,h0⟩ | ⟨g,cap,cur,rfl,hb,hg,_⟩
 all_goals grind
theorem yF(h:CF l≠0):Fk l k b=.no (CF l):=by grind [Fk,CF]
theorem lU(h:CF l=0)(hk:EI k=false):Fk l k b=.no 2:=by grind [Fk,CF,EI]
theorem lV(h:CF l=0)(hk:EI k=true)(hb:AR b 0 65536=false):Fk l k b=.no 3:=by grind [Fk,CF,EI,AR]
theorem lX(hk:EI k=true)(hb:AR b 0 65536=true):Fk [] k b=.yes [⟨k,b⟩]:=by
 unfold Fk;rw[AU (by simp[CF,DZ]),AU (by simp[hk]),AU (by simp[hb])];rfl
theorem lY(h:CF l=0)(hk:EI k=true)(hb:AR b 0 65536=true)(hx:l.getLast?=I x):Fk l k b =
  if x.kind=k then(if 65536<x.bits+b then .no 8 else .yes (l.set (Y l-1) ⟨k,x.bits+b⟩))else if Y l=1000 then .no 5 else .yes (l++ [⟨k,b⟩]):=by
 grind [Fk,CF,EI,AR]
theorem yG{j:Nat}(hj:j+1=Y l)(hx:l[j]?=I x):l.getLast?=I x:=by
 grind
def yH(A:Option AS)(c:Nat)(l:List C8)(k b:Int)(w:V)(h:Arr 2 C8.enc w w A l)(hl:Y l<=4611686018427387904)(hnil:A=Z->c=0):
  AL AE 283 #[R A (Y l) c,U O k,U O b] w fun e w'=>∃v,e=AN (Be #[v,U O (Fk l k b).e])/\Own w' w 181 2 C8.enc v (Fk l k b).l/\Ag w w w':=by
 by_cases h0:CF l=0
 case neg=>
  rw[yF h0];have h0':(CF l != 0)=true:=qsu h0;go_in;go_wp2_with(go_at_call 128;refine gqz (ZY A c l w h hl) fun w1 hb1=>?_);go_ret2;exact⟨_,Q,Own.nil,hb1⟩
 have cC:=ZY A c l w h hl;rw[h0]at cC;cases hk:EI k
 ·rw[lU h0 hk]
  have K1:=F hk;clear hk h0;go_in;go_wp2_with(first | (go_at_call 128;refine gqz cC fun w1 hb1=>?_) | (go_at_call 75;refine(Rk _ _).mono ?_;rintro e w'⟨rfl,rfl⟩;rw[K1.out]));go_ret2;exact⟨_,Q,Own.nil,hb1⟩
 cases BN:AR b 0 65536
 ·rw[lV h0 hk BN]
  have K1:=F hk;have K2:=F BN;clear hk h0 BN;go_in;go_wp2_with(first | (go_at_call 128;refine gqz cC fun w1 hb1=>?_) | (go_at_call 75;refine(Rk _ _).mono ?_;rintro e w'⟨rfl,rfl⟩;rw[K1.out]) | (go_at_call 72;refine(Ie _ _ _ _).mono ?_;rintro e w'⟨rfl,rfl⟩;rw[K2.out]));go_ret2;exact⟨_,Q,Own.nil,hb1⟩
 obtain⟨Ll,hf⟩:=Ns.1 h0;have K1:=F hk;have K2:=F BN;have H0:=F h0;obtain⟨b0,b1⟩:0<=b/\b<=65536:=by simpa[AR]using BN
 clear hk h0 BN;obtain⟨i0,hi,hz0,hz1,hz2⟩:=yD yC;have Hi:=F hi;have EJ:=F hz0;have Ep:=F hz1;have Eh:=F hz2;clear hi hz0 hz1 hz2;have Hf:=F hf;clear hf;rcases Nc (Y l)with hl0 | hl0
 ·obtain rfl:l=[]:=WC hl0
  rw[lX K1 K2];clear hl0;go_in
  go_wp2_with(first
   | (go_at_call 128;refine gqz cC fun w1 hb1=>?_)
   | (go_at_call 75;refine(Rk _ _).mono ?_;rintro e w'⟨rfl,rfl⟩;rw[K1.out])
   | (go_at_call 72;refine(Ie _ _ _ _).mono ?_;rintro e w'⟨rfl,rfl⟩;rw[K2.out])
   | (at_make;refine WR _ Q _ _ 68 Q w 181 i0 _ 2 underlying68 Hi EJ Ep _ _ _ 1 Q Q AO (by rw[Eh.out];decide) (by unfold maxLen;omega) hb1.size ?_;intro w3 EW Jk;have hb3:=Yi Jk)
   | (at_builtin;refine Ws Q _ _ 68 Q w 181 i0 _ 2 16 underlying68 Hi EJ Ep Eh Q AC C8.BY C8.one _ ([]:List C8) [] A c w Q EW Q Arr.nil hnil AO AC (Br hb1.size hb3.size) ?_;intro v4 w4 Eb hb4)
   | (at_builtin;refine Zn Q _ _ 68 Q w 181 i0 _ 2 16 underlying68 Hi EJ Ep Eh Q AC _ ([]:List C8) ⟨k,b⟩ #[U O k,U O b] 181 Q Eb Q Q Q (C8.one _) AO AC (Br (Br hb1.size hb3.size) hb4.size) Q ?_;intro v5 w5 Ed Bh))
  go_ret2;exact⟨_,Q,Ed,hb1.trans ((hb3.mono hb1.size).trans (hb4.trans Bh))⟩
 ·obtain⟨j,hj⟩:∃j,j+1=Y l:=⟨Y l-1,J⟩
  obtain⟨bk,off,qk,qb,rfl,Ez,hq,c0,c1⟩:=h.itm (k:=j) J (Ae _ _);have hE:=lY H0 K1 K2 (yG hj hq);simp only at hE;obtain⟨_,q1,q2⟩:=Yh Hf hq;simp only at q1 q2;have ej:(Y l:Int)-1=(j:Int):=J;have jl:j<Y l:=J;have lm:Y l-1=j:=J;rw[lm]at hE;obtain⟨n,hn⟩:∃n:Nat,Y l+1=n:=⟨_,Q⟩
  have en:(Y l:Int)+1=(n:Int):=J;have Lm:=F lm;have HE:=F hE;clear hn hj lm hE;by_cases Ku:qk=k
  ·have d1:(qk == k)=true:=qsu Ku
   by_cases JP:65536<qb+b
   ·have f1:Fk l k b=.no 8:=by rw[HE.out,Bd Ku,Bd JP]
    rw[f1];clear f1;have Hq:=F Ku;clear Ku;go_in
    go_wp2_with(first
     | (go_at_call 128;refine gqz cC fun w1 hb1=>?_)
     | (go_at_call 75;refine(Rk _ _).mono ?_;rintro e w'⟨rfl,rfl⟩;rw[K1.out])
     | (go_at_call 72;refine(Ie _ _ _ _).mono ?_;rintro e w'⟨rfl,rfl⟩;rw[K2.out])
     | (at_make;refine WR _ Q _ _ 68 Q w 181 i0 _ 2 underlying68 Hi EJ Ep _ _ _ n Q Q Q (by rw[Eh.out];omega) (by unfold maxLen;omega) hb1.size ?_;intro w3 EW Jk;have hb3:=Yi Jk)
     | (at_builtin;refine Ws Q _ _ 68 Q w 181 i0 _ 2 16 underlying68 Hi EJ Ep Eh Q AC C8.BY C8.one _ ([]:List C8) l _ c w Q EW Q (h.keep (hb1.trans (hb3.mono hb1.size))) hnil qsm AC (Br hb1.size hb3.size) ?_;intro v4 w4 Eb hb4;have q4:=hb1.trans ((hb3.mono hb1.size).trans hb4);have e0:=AK q4 c0;have e1:=AK q4 c1))
    go_ret2;exact⟨_,Q,Own.nil,q4⟩
   ·have f1:Fk l k b=.yes (l.set j ⟨k,qb+b⟩):=by rw[HE.out,Bd Ku,AU JP]
    rw[f1];clear f1;have Hq:=F Ku;have Ajl:decide (65536<qb+b)=false:=by simp;omega
    clear Ku JP;go_in
    go_wp2_with(first
     | (go_at_call 128;refine gqz cC fun w1 hb1=>?_)
     | (go_at_call 75;refine(Rk _ _).mono ?_;rintro e w'⟨rfl,rfl⟩;rw[K1.out])
     | (go_at_call 72;refine(Ie _ _ _ _).mono ?_;rintro e w'⟨rfl,rfl⟩;rw[K2.out])
     | (at_make;refine WR _ Q _ _ 68 Q w 181 i0 _ 2 underlying68 Hi EJ Ep _ _ _ n Q Q Q (by rw[Eh.out];omega) (by unfold maxLen;omega) hb1.size ?_;intro w3 EW Jk;have hb3:=Yi Jk)
     | (at_builtin;refine Ws Q _ _ 68 Q w 181 i0 _ 2 16 underlying68 Hi EJ Ep Eh Q AC C8.BY C8.one _ ([]:List C8) l _ c w Q EW Q (h.keep (hb1.trans (hb3.mono hb1.size))) hnil qsm AC (Br hb1.size hb3.size) ?_;intro v4 w4 Eb hb4;have q4:=hb1.trans ((hb3.mono hb1.size).trans hb4);have e0:=AK q4 c0;have e1:=AK q4 c1;rw[Uy]at Eb;obtain⟨g,cap,hv4,ER,hg2⟩:=yE Eb hl0;subst hv4;have x1:E w4 ⟨g,j*2+1,Z⟩=I (U O qb):=Eb.OI Q C8.BY hq (j:=1) Q;have x2:=Eb.OJ Q (j*2+1);have x3:=Eb.TH (x':=⟨k,qb+b⟩) Q C8.BY hq (j:=1) (u:= U O (qb+b)) AC (by simp[C8.enc,Hq.out])))
    go_ret2;exact⟨_,Q,x3,q4.setCell ER _⟩
  ·have d1:(qk == k)=false:=qsu Ku
   by_cases hfu:Y l=1000
   ·have f1:Fk l k b=.no 5:=by rw[HE.out,AU Ku,Bd hfu]
    rw[f1];clear f1;have yI:((Y l:Int) == 1000)=true:=by simp;omega
    clear Ku hfu;go_in
    go_wp2_with(first
     | (go_at_call 128;refine gqz cC fun w1 hb1=>?_)
     | (go_at_call 75;refine(Rk _ _).mono ?_;rintro e w'⟨rfl,rfl⟩;rw[K1.out])
     | (go_at_call 72;refine(Ie _ _ _ _).mono ?_;rintro e w'⟨rfl,rfl⟩;rw[K2.out])
     | (at_make;refine WR _ Q _ _ 68 Q w 181 i0 _ 2 underlying68 Hi EJ Ep _ _ _ n Q Q Q (by rw[Eh.out];omega) (by unfold maxLen;omega) hb1.size ?_;intro w3 EW Jk;have hb3:=Yi Jk)
     | (at_builtin;refine Ws Q _ _ 68 Q w 181 i0 _ 2 16 underlying68 Hi EJ Ep Eh Q AC C8.BY C8.one _ ([]:List C8) l _ c w Q EW Q (h.keep (hb1.trans (hb3.mono hb1.size))) hnil qsm AC (Br hb1.size hb3.size) ?_;intro v4 w4 Eb hb4;have q4:=hb1.trans ((hb3.mono hb1.size).trans hb4);have e0:=AK q4 c0;have e1:=AK q4 c1))
    go_ret2;exact⟨_,Q,Own.nil,q4⟩
   ·have f1:Fk l k b=.yes (l++ [⟨k,b⟩]):=by rw[HE.out,AU Ku,AU hfu]
    rw[f1];clear f1;have yI:((Y l:Int) == 1000)=false:=by simp;omega
    clear Ku hfu;go_in
    go_wp2_with(first
     | (go_at_call 128;refine gqz cC fun w1 hb1=>?_)
     | (go_at_call 75;refine(Rk _ _).mono ?_;rintro e w'⟨rfl,rfl⟩;rw[K1.out])
     | (go_at_call 72;refine(Ie _ _ _ _).mono ?_;rintro e w'⟨rfl,rfl⟩;rw[K2.out])
     | (at_make;refine WR _ Q _ _ 68 Q w 181 i0 _ 2 underlying68 Hi EJ Ep _ _ _ n Q Q Q (by rw[Eh.out];omega) (by unfold maxLen;omega) hb1.size ?_;intro w3 EW Jk;have hb3:=Yi Jk)
     | (at_builtin;refine Ws Q _ _ 68 Q w 181 i0 _ 2 16 underlying68 Hi EJ Ep Eh Q AC C8.BY C8.one _ ([]:List C8) l _ c w Q EW Q (h.keep (hb1.trans (hb3.mono hb1.size))) hnil qsm AC (Br hb1.size hb3.size) ?_;intro v4 w4 Eb hb4;have q4:=hb1.trans ((hb3.mono hb1.size).trans hb4);have e0:=AK q4 c0;have e1:=AK q4 c1;rw[Uy]at Eb)
     | (at_builtin;refine Zn Q _ _ 68 Q w 181 i0 _ 2 16 underlying68 Hi EJ Ep Eh Q AC _ l ⟨k,b⟩ #[U O k,U O b] 181 Q Eb Q Q Q (C8.one _) J AC q4.size Q ?_;intro v5 w5 Ed Bh))
    go_ret2;exact⟨_,Q,Ed,q4.trans Bh⟩
end
section
variable{a b m n t:Int}{l:List C8}
def VE(n:Int):Int:=if AR n 0 512=true then 0 else 3
def Rl(n t:Int):Int:=if AR n 0 512=true then(E8 (UA n.toNat t):Int)else 0
theorem yQ{n:Nat}(t:Int):E8 (UA n t)<=n+1:=XZ (Do (yJ n t) (WE AC J))
theorem yR(h:AR n a b=false):n<a\/b<n:=by
 grind [AR]
theorem WS(h:AR n a b=true):a<=n/\n<=b:=by grind [AR]
def yS(n t:Int)(w:V)(ht1: -9223372036854775808<=t)(ht2:t<=9223372036854775807):
  AL AE 73 #[U O n,U O t] w fun e w'=>e=AN (Be #[U O (Rl n t),U O (VE n)])/\Ag w w w':=by
 cases hn:AR n 0 512
 ·have f1:Aj (Rl n t=0/\VE n=3):=F (by unfold Rl VE;rw[hn];simp)
  have cB:=yO n t w (yR hn);clear hn;go_in;go_wp2_with(go_at_call 23;refine mqv (cB) ?_);go_ret2;exact⟨by rw[f1.out.1,f1.out.2];rfl,Ae _ _⟩
 ·obtain⟨h0,h1⟩:=WS hn
  obtain⟨n,rfl⟩:=DV h0;have f1:Aj (Rl n t=(E8 (UA n t):Int)/\VE n=0):=F (by unfold Rl VE;rw[hn];simp);have l1:(AJ (UA n t)).length<=17:=eQ (eO n t) J;clear hn;go_in
  go_wp2_with(first
   | (go_at_call 23;refine(yL n t _ J ht1 ht2).mono ?_;rintro e w1⟨v,rfl,b1,hb1⟩;obtain⟨A1,c1,hv,n1⟩:=b1.nt;rw[hv])
   | (go_at_call 24;refine mqv (yP A1 c1 _ _ n1 J) ?_))
  go_ret2;exact⟨by rw[f1.out.1,f1.out.2,Bu];rfl,hb1⟩
def Q3(n t m:Int):Bool:=AR n 0 512&&AR t 0 512&&AR m 0 512
def Gt(n t:Int)(l:List C8)(m:Int):Int:=if Q3 n t m=true then CF l else 3
def Yk(n t:Int)(l:List C8)(m:Int):Int:=if 0<=n-Rl n t-PZ l-m then n-Rl n t-PZ l-m else 0
def FT(n t:Int)(l:List C8)(m:Int):Int:=if Gt n t l m=0 then Yk n t l m else 0
def yT(h:CF l=0):0<=PZ l/\PZ l<=65536000:=by
 obtain⟨h1,h2⟩:=Ns.1 h;have:=lR (fun _=>true) h2;unfold PZ;omega
theorem eR(h:Q3 n t m=false):FT n t l m=0/\Gt n t l m=3:=by
 grind [FT,Gt,Q3]
theorem yU(h:Q3 n t m=true)(h0:CF l=0):Gt n t l m=0/\FT n t l m=Yk n t l m/\CF l=0:=by
 grind [Gt,FT,Yk,CF,Q3]
theorem yV(h:Q3 n t m=true)(h0:CF l≠0):Gt n t l m=CF l/\FT n t l m=0:=by
 grind [Gt,CF,FT,Q3]
theorem yW(t:Int)(h:AR n 0 512=true):0<=Rl n t/\Rl n t<=513:=by
 grind [Rl,AR,WS,yQ]
def yX(n t m:Int)(k:Nat):Prop:=(1<=k->AR n 0 512=true)/\(2<=k->AR t 0 512=true)/\(3<=k->AR m 0 512=true)
def yZ(n t:Int)(A:Option AS)(c:Nat)(l:List C8)(m:Int)(w:V)(h:Arr 2 C8.enc w w A l)(hl:Y l<=4611686018427387904):
  AL AE 21 #[U O n,U O t,R A (Y l) c,U O m] w fun e w'=>e=AN (Be #[U O (FT n t l m),U O (Gt n t l m)])/\Ag w w w':=by
 have x0:(Instr.index 50 (Ba #[U O n,U O t,U O m]) (U O 0)).run AE w=.ok (U O n) w:=AG;have x1:(Instr.index 50 (Ba #[U O n,U O t,U O m]) (U O 1)).run AE w=.ok (U O t) w:=AG;have x2:(Instr.index 50 (Ba #[U O n,U O t,U O m]) (U O 2)).run AE w=.ok (U O m) w:=AG;go_in;go_wp2;go_loop [19] (fun i=>∃k:Nat,k<=3/\i=U O k/\yX n t m k) (fun i=>3-(intOf i).toNat);exact⟨0,J,rfl,fun h=>J,fun h=>J,fun h=>J⟩
 obtain⟨k,hk,rfl,h1,h2,h3⟩:=hrel;have h1:1<=k->Aj (AR n 0 512=true):=fun h=>F (h1 h)
 have h2:2<=k->Aj (AR t 0 512=true):=fun h=>F (h2 h)
 have h3:3<=k->Aj (AR m 0 512=true):=fun h=>F (h3 h)
 rcases(show k=0\/k=1\/k=2\/k=3 by omega)with rfl | rfl | rfl | rfl
 ·clear h1 h2 h3
  cases hx:AR n 0 512
  ·have X:=F hx
   have fin:Aj (FT n t l m=0/\Gt n t l m=3):=F (eR (by simp[Q3,hx]));clear hx;go_wp2_with(go_at_call 72;refine(Ie _ _ _ _).mono ?_;rintro e w'⟨rfl,rfl⟩;rw[X.out]);go_ret2;exact⟨by rw[fin.out.1,fin.out.2];rfl,Ae _ _⟩
  ·have X:=F hx
   clear hx;go_wp2_with(go_at_call 72;refine(Ie _ _ _ _).mono ?_;rintro e w'⟨rfl,rfl⟩;rw[X.out]);go_round;exact⟨1,J,rfl,fun _=>X.out,fun h=>J,fun h=>J⟩;(simp[intOf] <;> omega)
 ·have H1:=h1 J
  clear h1 h2 h3;cases hx:AR t 0 512
  ·have X:=F hx
   have fin:Aj (FT n t l m=0/\Gt n t l m=3):=F (eR (by simp[Q3,hx]));clear hx;go_wp2_with(go_at_call 72;refine(Ie _ _ _ _).mono ?_;rintro e w'⟨rfl,rfl⟩;rw[X.out]);go_ret2;exact⟨by rw[fin.out.1,fin.out.2];rfl,Ae _ _⟩
  ·have X:=F hx
   clear hx;go_wp2_with(go_at_call 72;refine(Ie _ _ _ _).mono ?_;rintro e w'⟨rfl,rfl⟩;rw[X.out]);go_round;exact⟨2,J,rfl,fun _=>H1.out,fun _=>X.out,fun h=>J⟩;(simp[intOf] <;> omega)
 ·have H1:=h1 J
  have H2:=h2 J;clear h1 h2 h3;cases hx:AR m 0 512
  ·have X:=F hx
   have fin:Aj (FT n t l m=0/\Gt n t l m=3):=F (eR (by simp[Q3,hx]));clear hx;go_wp2_with(go_at_call 72;refine(Ie _ _ _ _).mono ?_;rintro e w'⟨rfl,rfl⟩;rw[X.out]);go_ret2;exact⟨by rw[fin.out.1,fin.out.2];rfl,Ae _ _⟩
  ·have X:=F hx
   clear hx;go_wp2_with(go_at_call 72;refine(Ie _ _ _ _).mono ?_;rintro e w'⟨rfl,rfl⟩;rw[X.out]);go_round;exact⟨3,J,rfl,fun _=>H1.out,fun _=>H2.out,fun _=>X.out⟩;(simp[intOf] <;> omega)
 ·have H1:=h1 J
  have H2:=h2 J;have H3:=h3 J;clear h1 h2 h3;obtain⟨n0,n1⟩:=WS H1;obtain⟨t0,t1⟩:=WS H2;obtain⟨m0,m1⟩:=WS H3;have HB:Aj (Q3 n t m=true):=F (by simp[Q3,H1.out,H2.out,H3.out]);by_cases h0:CF l=0
  ·have f1:=F (yU HB h0)
   have cT:=lS A c l w h hl;rw[h0]at cT;obtain⟨tb0,tb1⟩:=yT h0;have cC:=fun w'=>yS n t w' J J
   have f2:Aj (VE n=0):=F (by unfold VE;rw[H1.out];rfl);obtain⟨k0,k1⟩:=yW t H1;simp only[f2.out]at cC;obtain⟨T,hT⟩:=Az (PZ l);obtain⟨C,hC⟩:=Az (Rl n t);rw[hT]at cT tb0 tb1;simp only[hC]at cC k0 k1;have f3:Aj (Yk n t l m=if 0<=n-C-T-m then n-C-T-m else 0):=F (by unfold Yk;rw[hT,hC]);clear hT hC h0;by_cases hm:0<n-C-T-m
   focus
    have f4:Aj (FT n t l m=n-C-T-m):=F (by rw[f1.out.2.1,f3.out,Bd J])
   rotate_left
   focus
    have f4:Aj (FT n t l m=0):=F (by rw[f1.out.2.1,f3.out];split <;> omega)
    have hm':n-C-T-m<=0:=J
   rotate_left
   all_goals
    go_wp2_with(first
     | (go_at_call 22;refine gqz cT fun w1 hb1=>?_)
     | (go_at_call 73;refine gqz (cC _) fun w2 hb2=>?_))
    go_ret2;exact⟨by rw[f1.out.1,f4.out];rfl,AH hb1 hb2⟩
  ·have f1:=F (yV HB h0)
   have cT:=lS A c l w h hl;have h0':(CF l != 0)=true:=qsu h0;clear h0;go_wp2_with(go_at_call 22;refine gqz cT fun w1 hb1=>?_);go_ret2;exact⟨by rw[f1.out.1,f1.out.2];rfl,hb1⟩
end
end Go.Proofs.YtjpidgffdkjjeaaGreat
