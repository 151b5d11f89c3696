/- Contracts and plain laws. No condition. -/
import Derived.Deep.WholeRow
import Derived.Great.Walk
import Derived.StillTailTactics
import Derived.Test.YtjpidgffdkjjeaaGreatCA
import Derived.Test.YtjpidgffdkjjeaaGreatC01
import Derived.Test.YtjpidgffdkjjeaaGreatC02
import Derived.Test.YtjpidgffdkjjeaaGreatC04
set_option linter.all false
set_option maxHeartbeats 16000000
namespace Go.Proofs.YtjpidgffdkjjeaaGreat
open Go.Proofs.Tryz
open Go.Proofs.Tryz renaming prog->AE
open List renaming length->Y
open Go.World renaming cell?->E,setCell->Ai,alloc->Ao,frozen?->Bo
open Go.Value renaming int->U,slice->R,pointer->AI,agg->Ba,tuple->Be,nilFunc->Bl,bool->Av
open Go.IntKind renaming i64->O,u64->AA,u32->BF,u8->Cd
open Option renaming none->Z,some->I
open Go.Ending renaming returned->AN
open Go.Obj renaming cells->N
open Go renaming World->V,Value->An,Calls->AL,Addr->AS
open Go.RowKit renaming Below->Ag,Hid->Aj
set_option maxRecDepth 100000
open Go.RowKit
section
variable{f:BA}{n s t:Int}
theorem xG(h:Cq [f]≠0):Ic t s n f=Cq [f]/\IE t s n f=0:=by
 grind [Ic,Cq,IE]
theorem xH(h:Cq [f]=0)(h2:¬(0<=t/\t<=512/\0<=s/\s<=t/\0<=n/\n<=s)):Ic t s n f=3/\IE t s n f=0:=by
 grind [Ic,IE,Cq]
theorem xI(h:Cq [f]=0)(h2:0<=t/\t<=512/\0<=s/\s<=t/\0<=n/\n<=s)(h3:AF f.m<=AF f.l):Ic t s n f=2/\IE t s n f=0:=by
 grind [Ic,IE,Cq,AF]
theorem lj(h:Cq [f]=0)(h2:0<=t/\t<=512/\0<=s/\s<=t/\0<=n/\n<=s)(h3:¬AF f.m<=AF f.l):Ic t s n f=0/\IE t s n f=(bs (QZ t.toNat s.toNat n.toNat (AF f.l) (AF f.m)) n.toNat t.toNat:Nat):=by
 grind [Ic,IE,bs,QZ,AF,Cq]
def xJ(t s n:Int)(f:BA)(w:V)(hf:f.In w):
  AL AE 143 #[U O t,U O s,U O n,f.val] w fun e w'=>e=AN (Be #[U O (IE t s n f),U O (Ic t s n f)])/\Ag w w w':=by
 by_cases h2:0<=t/\t<=512/\0<=s/\s<=t/\0<=n/\n<=s
 focus
  by_cases hv:Cq [f]=0
  ·by_cases h3:AF f.m<=AF f.l
   ·obtain⟨e1,e2⟩:=xI hv h2 h3
    rw[e1,e2];have hb1:=AB (AB (AB (AB (Ae w w) (N #[U O t] 3)) (N #[U O s] 3)) (N #[U O n] 3)) (N f 58);have hb0:=AB hb1 (N f 58);have cV:=Tz (I ⟨↑w+1+1+1+1,0,Z⟩) 1 [f] _ (Yc (Ao (Ao (Ao (Ao w (N #[U O t] 3)) (N #[U O s] 3)) (N #[U O n] 3)) (N f 58)) f AO) (Yd hf hb0) AO;rw[QV,hv]at cV;obtain⟨h2a,h2b,h2c,h2d,h2e,h2f⟩:=h2;unfold BA.val;clear e1 e2;go_enter Tryz.func143,Tryz.ntmps143;go_wp2_with fail;refine gqz cV fun w3 hb3=>?_;have q3:=AH hb0 hb3;have k0:E w3 ⟨w,0,Z⟩=I (U O t):=AK hb3 (by go_simp);have k1:E w3 ⟨↑w+1,0,Z⟩=I (U O s):=AK hb3 (by go_simp);have k2:E w3 ⟨↑w+1+1,0,Z⟩=I (U O n):=AK hb3 (by go_simp);have k3:E w3 ⟨↑w+1+1+1,0,Z⟩=I (R f.A (Y f.l) f.c):=AK hb3 (by go_simp);have k4:E w3 ⟨↑w+1+1+1,1,Z⟩=I (R f.C (Y f.m) f.d):=AK hb3 (by go_simp);have sn:decide (0<=t/\t<=512/\0<=s/\s<=t)=true:=by simp;omega
    have fin:=hf.on q3;have cO:=Uk f.A f.c f.l f.C f.d f.m w3 fin.n.arr fin.d.arr fin.n.len fin.n.cap fin.d.len fin.d.cap fin.n.dig fin.d.dig;obtain⟨cv,hcv,kj⟩:∃cv,Ey (AF f.l) (AF f.m)=cv/\0<=cv:=⟨_,Q,by unfold Ey;split <;> (try split) <;> omega⟩
    rw[hcv]at cO;clear cV hv hcv;go_wp2_with(first | (go_at_call 185;refine mqv (eB _ _ _) ?_;rw[sn]) | (go_at_call 137;refine gqz cO fun w4 hb4=>?_));go_ret2;exact⟨Q,AH q3 hb4⟩
   ·obtain⟨e1,e2⟩:=lj hv h2 h3
    rw[e1,e2];obtain⟨a,rfl⟩:∃a:Nat,t=a:=⟨t.toNat,J⟩
    obtain⟨b,rfl⟩:∃a:Nat,s=a:=⟨s.toNat,J⟩
    obtain⟨c,rfl⟩:∃a:Nat,n=a:=⟨n.toNat,J⟩
    exact xB a b c f w hf J J J hv J
 rotate_left
 focus
  by_cases hv:Cq [f]=0
  ·obtain⟨e1,e2⟩:=xH hv h2
   rw[e1,e2];have hb1:=AB (AB (AB (AB (Ae w w) (N #[U O t] 3)) (N #[U O s] 3)) (N #[U O n] 3)) (N f 58);have hb0:=AB hb1 (N f 58);have cV:=Tz (I ⟨↑w+1+1+1+1,0,Z⟩) 1 [f] _ (Yc (Ao (Ao (Ao (Ao w (N #[U O t] 3)) (N #[U O s] 3)) (N #[U O n] 3)) (N f 58)) f AO) (Yd hf hb0) AO;rw[QV,hv]at cV;unfold BA.val
   have eF:decide (0<=t/\t<=512/\0<=s/\s<=t)=false\/(decide (0<=t/\t<=512/\0<=s/\s<=t)=true/\n<0)\/(decide (0<=t/\t<=512/\0<=s/\s<=t)=true/\0<=n/\s<n):=by
    simp only[decide_eq_true_eq,decide_eq_false_iff_not];omega
   clear e1 e2 hv h2;rcases eF with sn | ⟨sn,hn⟩ | ⟨sn,hn,EU⟩
   all_goals(
    go_enter Tryz.func143,Tryz.ntmps143;go_wp2_with fail;refine gqz cV fun w3 hb3=>?_;have q3:=AH hb0 hb3;have k0:E w3 ⟨w,0,Z⟩=I (U O t):=AK hb3 (by go_simp);have k1:E w3 ⟨↑w+1,0,Z⟩=I (U O s):=AK hb3 (by go_simp);have k2:E w3 ⟨↑w+1+1,0,Z⟩=I (U O n):=AK hb3 (by go_simp);go_wp2_with(go_at_call 185;refine mqv (eB _ _ _) ?_;rw[sn]);go_ret2;exact⟨Q,q3⟩)
 rotate_left
 all_goals
  ·obtain⟨e1,e2⟩:=xG (t:=t) (s:=s) (n:=n) hv
   rw[e1,e2];have hb1:=AB (AB (AB (AB (Ae w w) (N #[U O t] 3)) (N #[U O s] 3)) (N #[U O n] 3)) (N f 58);have hb0:=AB hb1 (N f 58);have cV:=Tz (I ⟨↑w+1+1+1+1,0,Z⟩) 1 [f] _ (Yc (Ao (Ao (Ao (Ao w (N #[U O t] 3)) (N #[U O s] 3)) (N #[U O n] 3)) (N f 58)) f AO) (Yd hf hb0) AO;rw[QV]at cV;have hv':(Cq [f] != 0)=true:=qsu hv;unfold BA.val;clear e1 e2 hv h2;go_enter Tryz.func143,Tryz.ntmps143;go_wp2_with fail;refine gqz cV fun w3 hb3=>?_;go_wp2;go_ret2;exact⟨Q,AH hb0 hb3⟩
def Id{w y:V}{cs:Array An}{T:TypeId}(h:Ag (Ao w (N cs T)) (Ao w (N cs T)) y){g:Nat}(hg:g=↑w){j:Nat}{v:An}(hj:cs[j]?=I v):E y ⟨g,j,Z⟩=I v/\Bo y ⟨g,j,Z⟩=false:=by
 subst hg;exact⟨AK h (Cb hj),(h.frozen (p:=⟨w,j,Z⟩) AO).trans (ZM _ _ _ _ Q)⟩
def ZN:An:= Ba #[U O 0,U O 0,U O 0,U O 0,U O 0]
def VC(t s n:Int)(f:BA):An:=if Ic t s n f=0 then Ba #[U O t,U O s,U O n,U O (IE t s n f),U O (IE t s n f-n)]else ZN
theorem ln(h:Ic t s n f=0):0<=n/\n<=IE t s n f/\IE t s n f<=t/\t<=512:=by
 have h1:Cq [f]=0:=by
  grind [Cq,Ic]
 have h2:0<=t/\t<=512/\0<=s/\s<=t/\0<=n/\n<=s:=by
  grind [Ic,Cq]
 have h3:¬AF f.m<=AF f.l:=fun h3=>by grind [Ic,Cq,AF]
 rw[(lj h1 h2 h3).2];have:=xv (p:=QZ t.toNat s.toNat n.toNat (AF f.l) (AF f.m)) (lo:=n.toNat) (hi:=t.toNat) J;omega
def xK(t s n:Int)(f:BA)(w:V)(hf:f.In w):
  AL AE 95 #[U O t,U O s,U O n,f.val] w fun e w'=>e=AN (Be #[VC t s n f,U O (Ic t s n f)])/\Ag w w w':=by
 have hb0:=AB (AB (Ae w w) (N f 58)) (N #[U O 0,U O 0,U O 0,U O 0,U O 0] 175);have cB:=xJ t s n f _ (hf.on hb0);unfold BA.val at*;by_cases h0:Ic t s n f=0
 focus
  have hr:Aj (VC t s n f=Ba #[U O t,U O s,U O n,U O (IE t s n f),U O (IE t s n f-n)]):=F (by unfold VC;rw[Bd h0])
  have Fe:=ln h0;rw[h0]at cB ⊢;rw[hr.out];generalize IE t s n f=b at*;have e1:wrap64 (b-n)=b-n:=Lg _ J;clear h0 Fe;go_in;go_wp2_with fail;refine gqz cB fun w3 hb3=>?_;have f0:=Id hb3 (g:=w.heap.size+1) AO (j:=0) Q;have f1:=Id hb3 (g:=w.heap.size+1) AO (j:=1) Q;have f2:=Id hb3 (g:=w.heap.size+1) AO (j:=2) Q;have f3:=Id hb3 (g:=w.heap.size+1) AO (j:=3) Q;have f4:=Id hb3 (g:=w.heap.size+1) AO (j:=4) Q;go_wp2_with fail;refine qti ?_;refine De (v:= Be #[Ba #[U O t,U O s,U O n,U O b,U O (b-n)],U O 0]) ?_ Q ⟨rfl,?_⟩
  ·rw[Jg Q]
   go_simp
 rotate_left
 focus
  have hr:Aj (VC t s n f=ZN):=F (by unfold VC;rw[AU h0])
  have h0':(Ic t s n f != 0)=true:=qsu h0;have hi:IE t s n f=0:=by unfold IE;rw[AU h0]
  rw[hi]at cB;rw[hr.out];clear h0 hi;go_in;go_wp2_with fail;refine gqz cB fun w3 hb3=>?_;have f0:=Id hb3 (g:=w.heap.size+1) AO (j:=0) Q;have f1:=Id hb3 (g:=w.heap.size+1) AO (j:=1) Q;have f2:=Id hb3 (g:=w.heap.size+1) AO (j:=2) Q;have f3:=Id hb3 (g:=w.heap.size+1) AO (j:=3) Q;have f4:=Id hb3 (g:=w.heap.size+1) AO (j:=4) Q;go_wp2_with fail;refine qti ?_;refine De (v:= Be #[ZN,U O (Ic t s n f)]) ?_ Q ⟨rfl,?_⟩
  ·rw[Jg Q]
   unfold ZN;go_simp
 rotate_left
 all_goals
  ·exact(((((AH hb0 hb3).setCell (OD _) _).setCell (OD _) _).setCell (OD _) _).setCell (OD _) _).setCell (OD _) _
def Lh(n:Nat)(w:V)(hn:n<=9223372036854775807):
  AL AE 91 #[U O n] w fun e w'=>∃v,e=AN v/\Big w' w v n/\Ag w w w':=by
 have e1:IntKind.u64.wrap (n:Int)=(n:Int):=JL Q J;have cO:=wZ n w J;go_in;go_wp2_with(go_at_call 138;refine cO.mono ?_;rintro e w5 ⟨v,rfl,bR,Bh⟩);go_ret;exact⟨_,Q,bR,Bh⟩
def Rb(s n:Int)(f:BA):Int:=if Cq [f]≠0 then Cq [f]else if¬(0<=s/\s<=512/\0<=n/\n<=s)then 3 else if s=0 then 0 else if AF f.l*s.toNat<n.toNat*AF f.m then 18 else 0
end
section
variable{b off:Nat}{w:V}{x y z:Int}
structure Bw where
 k:Int
 c0:Int
 c1:Int
 c2:Int
 v0:Int
 v1:Int
 v2:Int
 v3:Int
 w0:Int
 w1:Int
 w2:Int
 w3:Int
 s0:Int
 s1:Int
 s2:Int
 s3:Int
 eta:Int
 dark:Int
instance:CoeOut Bw (Array An):=⟨fun z=>#[U O z.k,U O z.c0,U O z.c1,U O z.c2,U O z.v0,U O z.v1,U O z.v2,U O z.v3,U O z.w0,U O z.w1,U O z.w2,U O z.w3,U O z.s0,U O z.s1,U O z.s2,U O z.s3,U O z.eta,U O z.dark]⟩
def Bw.cs(o:Bw):Array An:=#[U O o.k,U O o.c0,U O o.c1,U O o.c2,U O o.v0,U O o.v1,U O o.v2,U O o.v3,U O o.w0,U O o.w1,U O o.w2,U O o.w3,U O o.s0,U O o.s1,U O o.s2,U O o.s3,U O o.eta,U O o.dark]
def Bw.val(o:Bw):An:= Ba o.cs
def Nj(o:Bw):Nat->List Int
 | 0=>[o.v0,o.v1,o.v2,o.v3]
 | 1=>[o.w0,o.w1,o.w2,o.w3]
 | _=>[o.s0,o.s1,o.s2,o.s3]
def Rd(o:Bw):Bool:=decide (0<=o.k/\o.k<=2)&&(DP [o.c0,o.c1,o.c2]&&(FP o.eta&&FP o.dark))
def Nk(o:Bw):Nat->Bool
 | 0=>Rd o
 | k+1=>Nk o k&&DP (Nj o k)
def WM(a b c d:Int):Bool:=a == 256&&(b == 0&&(c == 0&&d == 0))
def Jh(o:Bw):Bool:=Nk o 3&&(WM o.v0 o.v1 o.v2 o.v3&&(decide (o.k=1)||(o.c0 == 0&&(o.c1 == 0&&o.c2 == 256)&&WM o.w0 o.w1 o.w2 o.w3)))
def FG(o:Bw):Int:=if Jh o=true then 0 else 2
@[go_sem] theorem Ajd (a0 a1 a2 a3 a4 a5 a6 a7 a8 a9 Li Re:An) (w:V):(Instr.index 52 (Ba #[a0,a1,a2,a3,a4,a5,a6,a7,a8,a9,Li,Re]) (U O 0)).run AE w=.ok (Ba #[a0,a1,a2,a3]) w:=AG
@[go_sem] theorem Aje (a0 a1 a2 a3 a4 a5 a6 a7 a8 a9 Li Re:An) (w:V):(Instr.index 52 (Ba #[a0,a1,a2,a3,a4,a5,a6,a7,a8,a9,Li,Re]) (U O 1)).run AE w=.ok (Ba #[a4,a5,a6,a7]) w:=AG
@[go_sem] theorem Ajf (a0 a1 a2 a3 a4 a5 a6 a7 a8 a9 Li Re:An) (w:V):(Instr.index 52 (Ba #[a0,a1,a2,a3,a4,a5,a6,a7,a8,a9,Li,Re]) (U O 2)).run AE w=.ok (Ba #[a8,a9,Li,Re]) w:=AG
theorem lr(h0:E w ⟨b,off,Z⟩=I (U O x))(h1:E w ⟨b,off+1,Z⟩=I (U O y))(h2:E w ⟨b,off+2,Z⟩=I (U O z)):Arr 1 BD w w (I ⟨b,off,Z⟩) [x,y,z]:=fun _=>
 ⟨b,off,rfl,Ch w _ h0,fun i u hu j v hv=>by
  grind [BD]⟩
theorem WN{t:Int}(h0:E w ⟨b,off,Z⟩=I (U O x))(h1:E w ⟨b,off+1,Z⟩=I (U O y))(h2:E w ⟨b,off+2,Z⟩=I (U O z))(h3:E w ⟨b,off+3,Z⟩=I (U O t)):Arr 1 BD w w (I ⟨b,off,Z⟩) [x,y,z,t]:=fun _=>
 ⟨b,off,rfl,Ch w _ h0,fun i u hu j v hv=>by
  grind [BD]⟩
def Yf(o:Bw)(w:V):AL AE 160 #[o.val] w fun e w'=>e=AN (U O (FG o))/\Ag w w w':=by
 have hb0:=AB (AB (Ae w w) (N o.cs 54)) (N #[U O 256,U O 0,U O 0,U O 0] 51);unfold Bw.val Bw.cs at*;go_in;go_upto_region 2 with fail;obtain⟨W,hW⟩:=Az (Ao (Ao w (N o 54)) (N #[U O 256,U O 0,U O 0,U O 0] 51));have x0:E W ⟨w,0,Z⟩=I (U O o.k):=by subst hW;go_simp
 have x1:E W ⟨w,1,Z⟩=I (U O o.c0):=by subst hW;go_simp
 have x2:E W ⟨w,2,Z⟩=I (U O o.c1):=by subst hW;go_simp
 have x3:E W ⟨w,3,Z⟩=I (U O o.c2):=by subst hW;go_simp
 have x4:E W ⟨w,4,Z⟩=I (U O o.v0):=by subst hW;go_simp
 have x5:E W ⟨w,5,Z⟩=I (U O o.v1):=by subst hW;go_simp
 have x6:E W ⟨w,6,Z⟩=I (U O o.v2):=by subst hW;go_simp
 have x7:E W ⟨w,7,Z⟩=I (U O o.v3):=by subst hW;go_simp
 have x8:E W ⟨w,8,Z⟩=I (U O o.w0):=by subst hW;go_simp
 have x9:E W ⟨w,9,Z⟩=I (U O o.w1):=by subst hW;go_simp
 have x10:E W ⟨w,10,Z⟩=I (U O o.w2):=by subst hW;go_simp
 have OE:E W ⟨w,11,Z⟩=I (U O o.w3):=by subst hW;go_simp
 have x12:E W ⟨w,12,Z⟩=I (U O o.s0):=by subst hW;go_simp
 have Nm:E W ⟨w,13,Z⟩=I (U O o.s1):=by subst hW;go_simp
 have x14:E W ⟨w,14,Z⟩=I (U O o.s2):=by subst hW;go_simp
 have x15:E W ⟨w,15,Z⟩=I (U O o.s3):=by subst hW;go_simp
 have x16:E W ⟨w,16,Z⟩=I (U O o.eta):=by subst hW;go_simp
 have x17:E W ⟨w,17,Z⟩=I (U O o.dark):=by subst hW;go_simp
 have y0:E W ⟨↑w+1,0,Z⟩=I (U O 256):=by subst hW;go_simp
 have y1:E W ⟨↑w+1,1,Z⟩=I (U O 0):=by subst hW;go_simp
 have y2:E W ⟨↑w+1,2,Z⟩=I (U O 0):=by subst hW;go_simp
 have y3:E W ⟨↑w+1,3,Z⟩=I (U O 0):=by subst hW;go_simp
 rw[hW]at hb0 ⊢;clear hW;have aC:=lr x1 x2 x3;have cW:=ZF (I ⟨w,1,Z⟩) 3 3 _ W aC Q AC;have cE:=Y8 o.eta W;have cD:=Y8 o.dark W;have hh:Rd o=(decide (0<=o.k/\o.k<=2)&&(DP [o.c0,o.c1,o.c2]&&(FP o.eta&&FP o.dark))):=Q;generalize DP [o.c0,o.c1,o.c2]=h2 at*;generalize FP o.eta=h3 at*;generalize FP o.dark=h4 at*;have Hh:=F hh;clear hh;go_cut [4] (fun v wx=>v=Av (Rd o)/\wx=W)
 case first=>
  have go1:∀(b:Bool),b=(decide (0<=o.k/\o.k<=2)&&(h2&&(h3&&h4)))->Rd o=b:=fun b hb=>by rw[Hh.out,hb]
  have Go1:=F go1;clear go1;by_cases k0:0<=o.k
  ·by_cases k2:o.k<=2
   ·have kk:decide (0<=o.k/\o.k<=2)=true:=Er ⟨k0,k2⟩
    have Kk:=F kk;clear kk;cases h2 <;> cases h3 <;> cases h4
    all_goals(
     go_wp2_with(first
      | (go_at_call 209;refine mqv (cW) ?_)
      | (go_at_call 210;refine Calls.on (FD:=#[U O o.eta]) Q ?_;refine cE.mono ?_;rintro e w' ⟨rfl,rfl⟩)
      | (go_at_call 210;refine Calls.on (FD:=#[U O o.dark]) Q ?_;refine cD.mono ?_;rintro e w' ⟨rfl,rfl⟩))
     go_meet;exact⟨congrArg Value.bool (Go1.out _ (by rw[Kk.out];rfl)).symm,rfl⟩)
   ·have kk:decide (0<=o.k/\o.k<=2)=false:=Ds J
    have Kk:=F kk;clear kk;go_wp2;go_meet;exact⟨congrArg Value.bool (Go1.out _ (by rw[Kk.out];rfl)).symm,rfl⟩
  ·have kk:decide (0<=o.k/\o.k<=2)=false:=Ds J
   have Kk:=F kk;clear kk;go_wp2;go_meet;exact⟨congrArg Value.bool (Go1.out _ (by rw[Kk.out];rfl)).symm,rfl⟩
 obtain⟨rfl,rfl⟩:=hcut;go_wp2_with fail;go_loopw [4,33] (fun bv iv wr=>∃(k:Nat) (b:Bool),k<=3/\iv=U O k/\bv=Av b/\Aj (b=Nk o k)/\Ag wc wc wr) (fun _ iv _=>3-(intOf iv).toNat);exact⟨0,Rd o,J,rfl,rfl,F rfl,Ae _ _⟩
 obtain⟨k,b,hk,rfl,rfl,hB,hbr⟩:=hrel;obtain⟨w6,rfl⟩:=qgn wr;rcases(show k=0\/k=1\/k=2\/k=3 by omega)with rfl | rfl | rfl | rfl
 ·have cB:=ZF (I ⟨w6,0,Z⟩) 4 4 [o.v0,o.v1,o.v2,o.v3] (Ao w6 (N #[U O o.v0,U O o.v1,U O o.v2,U O o.v3] 51)) (WN (by go_simp) (by go_simp) (by go_simp) (by go_simp)) Q AC
  have nx:Aj (Nk o (0+1)=(b&&DP [o.v0,o.v1,o.v2,o.v3])):=F (by rw[hB.out];rfl);generalize DP [o.v0,o.v1,o.v2,o.v3]=r at*;have Fe:=AB hbr (N #[U O o.v0,U O o.v1,U O o.v2,U O o.v3] 51);simp only[show((0:Nat):Int)=0 from rfl];cases b
  ·go_wp2_with fail
   exact⟨⟨0+1,false,J,Q,Q,F (by rw[nx.out];rfl),Fe⟩,by simp[intOf]⟩
  ·go_wp2_with(go_at_call 209;refine mqv (cB) ?_)
   exact⟨⟨0+1,r,J,Q,Q,F (by rw[nx.out];rfl),Fe⟩,by simp[intOf]⟩
 ·have cB:=ZF (I ⟨w6,0,Z⟩) 4 4 [o.w0,o.w1,o.w2,o.w3] (Ao w6 (N #[U O o.w0,U O o.w1,U O o.w2,U O o.w3] 51)) (WN (by go_simp) (by go_simp) (by go_simp) (by go_simp)) Q AC
  have nx:Aj (Nk o (1+1)=(b&&DP [o.w0,o.w1,o.w2,o.w3])):=F (by rw[hB.out];rfl);generalize DP [o.w0,o.w1,o.w2,o.w3]=r at*;have Fe:=AB hbr (N #[U O o.w0,U O o.w1,U O o.w2,U O o.w3] 51);simp only[show((1:Nat):Int)=1 from rfl];cases b
  ·go_wp2_with fail
   exact⟨⟨1+1,false,J,Q,Q,F (by rw[nx.out];rfl),Fe⟩,by simp[intOf]⟩
  ·go_wp2_with(go_at_call 209;refine mqv (cB) ?_)
   exact⟨⟨1+1,r,J,Q,Q,F (by rw[nx.out];rfl),Fe⟩,by simp[intOf]⟩
 ·have cB:=ZF (I ⟨w6,0,Z⟩) 4 4 [o.s0,o.s1,o.s2,o.s3] (Ao w6 (N #[U O o.s0,U O o.s1,U O o.s2,U O o.s3] 51)) (WN (by go_simp) (by go_simp) (by go_simp) (by go_simp)) Q AC
  have nx:Aj (Nk o (2+1)=(b&&DP [o.s0,o.s1,o.s2,o.s3])):=F (by rw[hB.out];rfl);generalize DP [o.s0,o.s1,o.s2,o.s3]=r at*;have Fe:=AB hbr (N #[U O o.s0,U O o.s1,U O o.s2,U O o.s3] 51);simp only[show((2:Nat):Int)=2 from rfl];cases b
  ·go_wp2_with fail
   exact⟨⟨2+1,false,J,Q,Q,F (by rw[nx.out];rfl),Fe⟩,by simp[intOf]⟩
  ·go_wp2_with(go_at_call 209;refine mqv (cB) ?_)
   exact⟨⟨2+1,r,J,Q,Q,F (by rw[nx.out];rfl),Fe⟩,by simp[intOf]⟩
 ·have q9:=AH hb0 hbr
  have z0:=AK hbr x0;have z1:=AK hbr x1;have z2:=AK hbr x2;have z3:=AK hbr x3;have z4:=AK hbr x4;have z5:=AK hbr x5;have z6:=AK hbr x6;have z7:=AK hbr x7;have z8:=AK hbr x8;have z9:=AK hbr x9;have z10:=AK hbr x10;have z11:=AK hbr OE;have t0:=AK hbr y0;have t1:=AK hbr y1;have t2:=AK hbr y2;have t3:=AK hbr y3;have fin:Aj (Jh o=(b&&((o.v0 == 256&&(o.v1 == 0&&(o.v2 == 0&&o.v3 == 0)))&&(decide (o.k=1)||((o.c0 == 0&&(o.c1 == 0&&o.c2 == 256))&&(o.w0 == 256&&(o.w1 == 0&&(o.w2 == 0&&o.w3 == 0)))))))):=F (by rw[hB.out];rfl);have Ev:=fun w=>kL o.v0 o.v1 o.v2 o.v3 256 0 0 0 w
  have Ec:=fun w=>xd o.c0 o.c1 o.c2 0 0 256 w
  have Ew:=fun w=>kL o.w0 o.w1 o.w2 o.w3 256 0 0 0 w
  clear x0 x1 x2 x3 x4 x5 x6 x7 x8 x9 x10 OE x12 Nm x14 x15 x16 x17 y0 y1 y2 y3 cW cE cD aC Hh hB;simp only[show((3:Nat):Int)=3 from rfl];obtain⟨dv,Lj⟩:=Az ((o.v0 == 256&&(o.v1 == 0&&(o.v2 == 0&&o.v3 == 0))));obtain⟨dc,hdc⟩:=Az ((o.c0 == 0&&(o.c1 == 0&&o.c2 == 256)));obtain⟨dw,hdw⟩:=Az ((o.w0 == 256&&(o.w1 == 0&&(o.w2 == 0&&o.w3 == 0))));simp only[Lj]at Ev;simp only[hdc]at Ec;simp only[hdw]at Ew;have Yg:Aj (Jh o=(b&&(dv&&(decide (o.k=1)||(dc&&dw))))):=F (by rw[fin.out,Lj,hdc,hdw]);clear Lj hdc hdw fin;by_cases GT:o.k=1
  ·have kb:(o.k == 1)=true:=qsu GT
   have Kd:=F (Er GT);clear GT;cases b <;> cases dv
   all_goals(
    go_wp2;go_ret;exact⟨Cg (by unfold FG;rw[Yg.out,Kd.out];rfl),q9⟩)
  ·have kb:(o.k == 1)=false:=qsu GT
   have Kd:=F (Ds GT);clear GT;cases b <;> cases dv <;> cases dc <;> cases dw
   all_goals(
    go_wp2;go_ret;exact⟨Cg (by unfold FG;rw[Yg.out,Kd.out];rfl),q9⟩)
end
theorem xL{a b c d:Int}(h:DP [a,b,c,d]=true):WM a b c d=(a == 256):=by
 unfold DP FP at h
 grind [WM]
theorem xN{a b c:Int}(h:DP [a,b,c]=true):(a == 0&&(b == 0&&c == 256))=(c == 256):=by
 unfold DP FP at h
 grind
theorem xO(o:Bw):Jh o=(Rd o&&(DP [o.v0,o.v1,o.v2,o.v3]&&(DP [o.w0,o.w1,o.w2,o.w3]&&(DP [o.s0,o.s1,o.s2,o.s3]&&(o.v0 == 256&&(decide (o.k=1)||(o.c2 == 256&&o.w0 == 256))))))):=by
 have e:Nk o 3=(((Rd o&&DP [o.v0,o.v1,o.v2,o.v3])&&DP [o.w0,o.w1,o.w2,o.w3])&&DP [o.s0,o.s1,o.s2,o.s3]):=Q
 grind [Jh,Rd,DP,Nk,xL,xN]
section
variable{a c d:Int}{b:Nat}{o:Bw}{w w':V}
def Ks(o:Bw):Int:=if FG o≠0 then FG o else if o.k≠1 then 2 else if o.s2*o.w1-o.w2*o.s1<=0\/o.w2*o.s3<o.s2*o.w3 then 11 else 0
theorem lu(h:FG o=0):DP [o.v0,o.v1,o.v2,o.v3]=true/\DP [o.w0,o.w1,o.w2,o.w3]=true/\DP [o.s0,o.s1,o.s2,o.s3]=true:=by
 grind [DP,FG,xO]
theorem ZO{b:Int}(h:DP [a,b,c,d]=true):(0<=a/\a<=256)/\(0<=b/\b<=256)/\(0<=c/\c<=256)/\(0<=d/\d<=256)/\a+b+c+d=256:=by
 unfold DP FP at h
 grind
def xP(h:FG o=0):(0<=o.w1/\o.w1<=256)/\(0<=o.s1/\o.s1<=256)/\(0<=o.s2/\o.s2<=256)/\(0<=o.s3/\o.s3<=256)/\(0<=o.w2/\o.w2<=256)/\(0<=o.w3/\o.w3<=256):=by
 obtain⟨_,h1,h2⟩:=lu h;obtain⟨_,q1,q2,q3,_⟩:=ZO h1;obtain⟨_,r1,r2,r3,_⟩:=ZO h2;omega
def SE{b:Int}(ha:0<=a/\a<=256)(hb:0<=b/\b<=256):∃P,a*b=P/\0<=P/\P<=65536/\wrap64 (a*b)=P:=by
 have h1:=Int.mul_nonneg ha.1 hb.1;have h2:=Int.mul_le_mul ha.2 hb.2 hb.1 AC;exact⟨a*b,Q,h1,J,Lg _ J⟩
def CC(w:V)(b:Nat)(o:Bw):Prop:=w.heap[b]?=I (N o 54 (0,0))
def CC.on(h:CC w b o)(hb:Ag w w w'):CC w' b o:=
 (hb.block b (Bm.1 h).1).trans h
theorem CC.new(w:V)(o:Bw):CC (Ao w (N o 54)) w o:=CB w _
def CC.x0(h:CC w b o):E w ⟨b,0,Z⟩=I (U O o.k):=AX w b 0 _ _ _ h
def CC.x1(h:CC w b o):E w ⟨b,1,Z⟩=I (U O o.c0):=AX w b 1 _ _ _ h
def CC.x2(h:CC w b o):E w ⟨b,2,Z⟩=I (U O o.c1):=AX w b 2 _ _ _ h
def CC.x3(h:CC w b o):E w ⟨b,3,Z⟩=I (U O o.c2):=AX w b 3 _ _ _ h
def CC.x4(h:CC w b o):E w ⟨b,4,Z⟩=I (U O o.v0):=AX w b 4 _ _ _ h
def CC.x5(h:CC w b o):E w ⟨b,5,Z⟩=I (U O o.v1):=AX w b 5 _ _ _ h
def CC.x6(h:CC w b o):E w ⟨b,6,Z⟩=I (U O o.v2):=AX w b 6 _ _ _ h
def CC.x7(h:CC w b o):E w ⟨b,7,Z⟩=I (U O o.v3):=AX w b 7 _ _ _ h
def CC.x8(h:CC w b o):E w ⟨b,8,Z⟩=I (U O o.w0):=AX w b 8 _ _ _ h
def CC.x9(h:CC w b o):E w ⟨b,9,Z⟩=I (U O o.w1):=AX w b 9 _ _ _ h
def CC.x10(h:CC w b o):E w ⟨b,10,Z⟩=I (U O o.w2):=AX w b 10 _ _ _ h
def CC.OE(h:CC w b o):E w ⟨b,11,Z⟩=I (U O o.w3):=AX w b 11 _ _ _ h
def CC.x12(h:CC w b o):E w ⟨b,12,Z⟩=I (U O o.s0):=AX w b 12 _ _ _ h
def CC.Nm(h:CC w b o):E w ⟨b,13,Z⟩=I (U O o.s1):=AX w b 13 _ _ _ h
def CC.x14(h:CC w b o):E w ⟨b,14,Z⟩=I (U O o.s2):=AX w b 14 _ _ _ h
def CC.x15(h:CC w b o):E w ⟨b,15,Z⟩=I (U O o.s3):=AX w b 15 _ _ _ h
def CC.x16(h:CC w b o):E w ⟨b,16,Z⟩=I (U O o.eta):=AX w b 16 _ _ _ h
def CC.x17(h:CC w b o):E w ⟨b,17,Z⟩=I (U O o.dark):=AX w b 17 _ _ _ h
def TC(w:V)(g:Nat)(a b c d:Int):Prop:=E w ⟨g,0,Z⟩=I (U O a)/\E w ⟨g,1,Z⟩=I (U O b)/\E w ⟨g,2,Z⟩=I (U O c)/\E w ⟨g,3,Z⟩=I (U O d)
def TC.on{g:Nat}{b:Int}(h:TC w g a b c d)(hb:Ag w w w'):TC w' g a b c d:=⟨AK hb h.1,AK hb h.2.1,AK hb h.2.2.1,AK hb h.2.2.2⟩
def ZP(y:V)(a b c d e f g h:Int)(T:TypeId):TC (Ao (Ao y (N #[U O a,U O b,U O c,U O d] T)) (N #[U O e,U O f,U O g,U O h] T)).drew y a b c d:=by
 refine⟨?_,?_,?_,?_⟩ <;> go_simp
def ZQ(y:V)(a b c d e f g h:Int)(T:TypeId):TC (Ao (Ao y (N #[U O a,U O b,U O c,U O d] T)) (N #[U O e,U O f,U O g,U O h] T)).drew (y.heap.size+1) e f g h:=by
 refine⟨?_,?_,?_,?_⟩ <;> go_simp
def lz(o:Bw)(w:V):AL AE 161 #[o.val] w fun e w'=>e=AN (U O (Ks o))/\Ag w w w':=by
 have hb0:=AB (Ae w w) (N o.cs 54);have cK:=fun w'=>Yf o w'
 unfold Bw.val Bw.cs at*;by_cases h0:FG o=0
 ·rw[h0]at cK
  have pr:=xP h0;by_cases hk:o.k=1
  ·have eS:Aj (Ks o=if o.s2*o.w1-o.w2*o.s1<=0\/o.w2*o.s3<o.s2*o.w3 then 11 else 0):=F (by unfold Ks;rw[AU (by simp[h0]),AU (by simp[hk])])
   have Pr:=F pr;have kb:(o.k == 1)=true:=qsu hk;have kn:(o.k != 1)=false:=qrf bne_eq_false_iff_eq hk;clear h0 hk pr;go_in;go_upto_region 1 with fail;have Ci:=F (CC.new w o);obtain⟨W,hW⟩:=Az (Ao w (N o 54));rw[hW]at hb0 Ci ⊢;clear hW;go_wp2_with(refine qlr 54 Ci underlying54 ?_);refine gqz (cK _) fun w2 hb2=>?_;have q2:=AH hb0 hb2;have GF:=Ci.out.on hb2;have x0:=GF.x0;have L8:=qbw w2 fun w' hb=>(GF.on hb).x8
   have L9:=qbw w2 fun w' hb=>(GF.on hb).x9
   have L10:=qbw w2 fun w' hb=>(GF.on hb).x10
   have L11:=qbw w2 fun w' hb=>(GF.on hb).OE
   have L12:=qbw w2 fun w' hb=>(GF.on hb).x12
   have L13:=qbw w2 fun w' hb=>(GF.on hb).Nm
   have L14:=qbw w2 fun w' hb=>(GF.on hb).x14
   have L15:=qbw w2 fun w' hb=>(GF.on hb).x15
   go_upto_region 6 with fail;go_cut [4,5] (fun va vb wx=>∃g h,va=AI (I ⟨g,0,Z⟩)/\vb=AI (I ⟨h,0,Z⟩)/\TC wx g o.w0 o.w1 o.w2 o.w3/\TC wx h o.s0 o.s1 o.s2 o.s3/\Ag w2 w2 wx)
   case first=>
    go_region_held3 (fun w'=>Ag w2 w2 w')
     (first | (exact(Ae _ _).drew) | (refine AB ?_ _;assumption) | (exact AB (AB (Ae _ _).drew _) _) | (exact AB (Ae _ _).drew _))
     (fail)
    all_goals(
     go_wp2;go_meet
     case rel=>first
      | exact⟨_,_,Q,Q,ZP _ _ _ _ _ _ _ _ _ _,ZQ _ _ _ _ _ _ _ _ _ _,(AB (AB (Ae _ _) _) _).drew⟩
      | exact⟨_,_,Q,Q,ZQ _ _ _ _ _ _ _ _ _ _,ZP _ _ _ _ _ _ _ _ _ _,(AB (AB (Ae _ _) _) _).drew⟩)
   obtain⟨g,h,rfl,rfl,⟨y0,y1,y2,y3⟩,⟨z0,z1,z2,z3⟩,DT⟩:=hcut;have q3:=AH q2 DT;clear x0 cK L8 L9 L10 L11 L12 L13 L14 L15;obtain⟨p1,p2,p3,p4,p5,p6⟩:=Pr.out;obtain⟨P1,Np,a1,b1,g1⟩:=SE p3 p1;obtain⟨P2,PT,a2,b2,g2⟩:=SE p5 p2;obtain⟨P3,hP3,a3,b3,g3⟩:=SE p3 p6;obtain⟨P4,hP4,a4,b4,g4⟩:=SE p5 p4;rw[Np,PT,hP3,hP4]at eS;clear Np PT hP3 hP4 p1 p2 p3 p4 p5 p6;have ES:=F eS.out;clear eS;by_cases h1:P1<=P2 <;> by_cases h2:P4<P3
   all_goals(
    have h3:decide (P1-P2<=0)=decide (P1<=P2):=by rw[PO];simp;omega
    go_wp2;go_ret;exact⟨Cg (by rw[ES.out];simp;omega),q3⟩)
  ·have eS:Aj (Ks o=2):=F (by unfold Ks;rw[AU (by simp[h0]),Bd hk])
   have kb:(o.k == 1)=false:=qsu hk;clear h0 pr;go_in;go_upto_region 1 with fail;have Ci:=F (CC.new w o);obtain⟨W,hW⟩:=Az (Ao w (N o 54));rw[hW]at hb0 Ci ⊢;clear hW;go_wp2_with(refine qlr 54 Ci underlying54 ?_);refine gqz (cK _) fun w2 hb2=>?_;have q2:=AH hb0 hb2;have x0:=(Ci.out.on hb2).x0;go_wp2;go_ret;exact⟨Cg eS.out.symm,q2⟩
 ·have eS:Aj (Ks o=FG o):=F (by unfold Ks;rw[Bd h0])
  have hne:(FG o != 0)=true:=qrf bne_iff_ne h0;obtain⟨AM,hE⟩:=Az (FG o);rw[hE]at cK hne eS;clear h0 hE;go_in;go_upto_region 1 with fail;have Ci:=F (CC.new w o);obtain⟨W,hW⟩:=Az (Ao w (N o 54));rw[hW]at hb0 Ci ⊢;clear hW;go_wp2_with(refine qlr 54 Ci underlying54 ?_);refine gqz (cK _) fun w2 hb2=>?_;have q2:=AH hb0 hb2;go_wp2;go_ret;exact⟨Cg eS.out.symm,q2⟩
end
section
variable{f:BA}{n s:Int}
def Ji{n:Nat}(h:n<4294967296):(AJ n).length<=1:=WJ (m:=32) h AC
theorem xS(h:Cq [f]≠0):Rb s n f=Cq [f]:=by grind [Rb,Cq]
theorem xT(h:Cq [f]=0)(h2:¬(0<=s/\s<=512/\0<=n/\n<=s)):Rb s n f=3:=by grind [Rb,Cq]
theorem xU(h:Cq [f]=0)(h2:0<=s/\s<=512/\0<=n/\n<=s)(h3:s=0):Rb s n f=0:=by grind [Rb,Cq]
theorem xV(h:Cq [f]=0)(h2:0<=s/\s<=512/\0<=n/\n<=s)(h3:¬s=0):Rb s n f=if AF f.l*s.toNat<n.toNat*AF f.m then 18 else 0:=by
 grind [Rb,AF,Cq]
def xW(s n:Int)(f:BA)(w:V)(hf:f.In w):
  AL AE 30 #[U O s,U O n,f.val] w fun e w'=>e=AN (U O (Rb s n f))/\Ag w w w':=by
 have hb0:=AB (Ae w w) (N f 58);have cC:=eu f _ (hf.on hb0);unfold BA.val at*;by_cases hv:Cq [f]=0
 ·rw[hv]at cC
  by_cases h2:0<=s/\s<=512/\0<=n/\n<=s
  ·have b1:AR s 0 512=true:=by simp[AR];omega
   have b2:AR n 0 s=true:=by simp[AR];omega
   by_cases h3:s=0
   ·rw[xU hv h2 h3]
    subst h3;go_in;go_wp2_with(first | (go_at_call 88;refine gqz cC fun w3 hb3=>?_) | (go_at_call 89;refine mqv (DJ _ _ _ _) ?_;(first | rw[b1] | rw[b2])));go_ret;exact⟨Q,AH hb0 hb3⟩
   ·rw[xV hv h2 h3]
    obtain⟨S,rfl⟩:∃a:Nat,s=a:=⟨s.toNat,J⟩
    obtain⟨AP,rfl⟩:∃a:Nat,n=a:=⟨n.toNat,J⟩
    simp only[Int.toNat_natCast];obtain⟨Bi,hJ⟩:∃Bi:Int,(if AF f.l*S<AP*AF f.m then(18:Int)else 0)=Bi:=⟨_,Q⟩
    rw[hJ];have HJ:=F hJ;clear hJ;have hS:0<S:=J;have PP:S<=512:=J;have hN:AP<=S:=J;have hs0:((S:Int) == 0)=false:=by simp;omega
    clear h2 h3;go_in;go_wp2_with(first | (go_at_call 88;refine gqz cC fun w3 hb3=>?_) | (go_at_call 89;refine mqv (DJ _ _ _ _) ?_;(first | rw[b1] | rw[b2])));have q3:=AH hb0 hb3;have k0:=(Id hb3 Q (j:=0) Q).1;have k1:=(Id hb3 Q (j:=1) Q).1;have L0:=qbc k0;have L1:=qbc k1;have c1:=fun w'=>Lh AP w' J
    have c2:=fun w'=>Lh S w' J
    have l1:=Ji (n:=AP) J;have l2:=Ji (n:=S) J;have c3:=qbw w3 fun w' hb A1 OC A2 Ni (n1:Nt w' A1 OC (AJ AP)) (n2:Nt w' A2 Ni (AJ S))=>ZL ⟨A1,OC,AJ AP,A2,Ni,AJ S⟩ f w' ⟨n1,n2⟩ (hf.on (AH q3 hb))
    have ev:∀A1 OC A2 Ni,Cq [⟨A1,OC,AJ AP,A2,Ni,AJ S⟩,f]=0:=fun A1 OC A2 Ni=>by
     obtain⟨g1,g2⟩:=WL.1 hv;refine WL.2 ⟨?_,?_⟩
     ·simp at g1 ⊢
      refine⟨?_,g1⟩;unfold BA.LY;simp;omega
     ·simp at g2 ⊢
      refine⟨?_,g2⟩;unfold BA.QX;simp[Bu];omega
    have ec:∀A1 OC A2 Ni,OB ⟨A1,OC,AJ AP,A2,Ni,AJ S⟩ f=Ey (AP*AF f.m) (AF f.l*S):=fun A1 OC A2 Ni=>by
     unfold OB;rw[Bd (ev _ _ _ _),Bu,Bu]
    simp only[ev,ec]at c3;unfold BA.val at c3;clear ev ec cC
    go_region_held3 (fun w'=>Ag w3 w3 w')
     (first | (exact(Ae _ _).drew) | (refine AH ?_ hx1;assumption) | (refine AH ?_ hx2;assumption) | (refine AH ?_ hx3;assumption))
     (first | (go_at_call 91;refine Calls.on (FD:=#[U O AP]) Q ?_;refine(c1 _).mono ?_;rintro e y1⟨v1,rfl,b1,hx1⟩;obtain⟨A1,OC,CZ,n1⟩:=b1.nt;rw[CZ]) | (go_at_call 91;refine(c2 _).mono ?_;rintro e y2⟨v2,rfl,b2,hx2⟩;obtain⟨A2,Ni,hv2,n2⟩:=b2.nt;rw[hv2]) | (go_at_call 90;refine(c3 _ ?hB _ _ _ _ (n1.on hx2) n2).mono ?_;(case hB=>assumption);rintro e y3 ⟨rfl,hx3⟩))
    have q9:=AH q3 (AH (AH (AH (Ae _ _).drew hx1) hx2) hx3);clear L0 L1 c1 c2 c3;rcases D4 (AF f.l*S) (AP*AF f.m)with hlt | D8
    ·rw[XY hlt]
     have Hlt:=F hlt;clear hlt;go_wp2;go_ret;exact⟨Cg (by rw[<-HJ.out,Bd Hlt.out]),q9⟩
    ·obtain⟨cv,hcv,kj⟩:∃cv,Ey (AP*AF f.m) (AF f.l*S)=cv/\cv<=0:=⟨_,Q,by unfold Ey;split <;> (try split) <;> omega⟩
     rw[hcv];have Hge:=F D8;clear D8 hcv;go_wp2;go_ret;exact⟨Cg (by rw[<-HJ.out,AU (Nat.not_lt.2 Hge)]),q9⟩
  ·rw[xT hv h2]
   by_cases h3:0<=s/\s<=512
   ·have b1:AR s 0 512=true:=by simp[AR];omega
    have b2:AR n 0 s=false:=by simp[AR];omega
    go_in;go_wp2_with(first | (go_at_call 88;refine gqz cC fun w3 hb3=>?_) | (go_at_call 89;refine mqv (DJ _ _ _ _) ?_;(first | rw[b1] | rw[b2])));go_ret;exact⟨Q,AH hb0 hb3⟩
   ·have b1:AR s 0 512=false:=by simp[AR];omega
    go_in;go_wp2_with(first | (go_at_call 88;refine gqz cC fun w3 hb3=>?_) | (go_at_call 89;refine mqv (DJ _ _ _ _) ?_;rw[b1]));go_ret;exact⟨Q,AH hb0 hb3⟩
 ·rw[xS hv]
  have hv':(Cq [f] != 0)=true:=qsu hv;clear hv;go_in;go_wp2_with(go_at_call 88;refine gqz cC fun w3 hb3=>?_);go_ret;exact⟨Q,AH hb0 hb3⟩
end
structure BX where
 o:Bw
 slots:Int
 head:Int
 need:Int
 block:Int
 sample:Int
 eps:BA
 lim:BA
 passes:Int
 pblk:Int
 pseed:Nat
 width:Int
 margin:Int
 tries:Int
 seed:Nat
def BX.cs(s:BX):Array An:=#[U O s.o.k,U O s.o.c0,U O s.o.c1,U O s.o.c2,U O s.o.v0,U O s.o.v1,U O s.o.v2,U O s.o.v3,U O s.o.w0,U O s.o.w1,U O s.o.w2,U O s.o.w3,U O s.o.s0,U O s.o.s1,U O s.o.s2,U O s.o.s3,U O s.o.eta,U O s.o.dark,
 U O s.slots,U O s.head,U O s.need,U O s.block,U O s.sample,R s.eps.A (Y s.eps.l) s.eps.c,R s.eps.C (Y s.eps.m) s.eps.d,R s.lim.A (Y s.lim.l) s.lim.c,R s.lim.C (Y s.lim.m) s.lim.d,U O s.passes,U O s.pblk,U AA s.pseed,U O s.width,U O s.margin,U O s.tries,U AA s.seed]
def BX.val(s:BX):An:= Ba s.cs
structure BX.In(s:BX)(w:V):Prop where
 e:s.eps.In w
 l:s.lim.In w
def BX.In.on{s:BX}{w w':V}(h:s.In w)(hb:Ag w w w'):s.In w':=⟨h.e.on hb,h.l.on hb⟩
def Rf(w:Int):Bool:=w == 8||w == 16||w == 32
def Rg(s:BX):Bool:=FG s.o == 0&&(s.o.k != 1||Ks s.o == 0)
def TD(s:BX):Bool:=AR s.slots 1 4000&&(AR s.head 0 s.slots&&(AR s.need 0 4096&&(AR s.block 1 512&&AR s.sample 0 (s.block-1))))
def Uu(a b:Int):Bool:=AR a 1 6&&AR b 1 512
def TF(s:BX):Bool:=Uu s.passes s.pblk&&(Rf s.width&&(AR s.margin 0 512&&AR s.tries 1 100))
def Uv(s:BX):Bool:=Cq [s.lim] == 0&&(Cq [s.eps] == 0&&decide (AF s.eps.l<AF s.eps.m))
def TG(s:BX):Bool:=Rg s&&(TD s&&(TF s&&Uv s))
def Kt(s:BX):Int:=if TG s=true then 0 else 2
def FH(n a b:Int)(w:V):AL AE 116 #[U O n,U O a,U O b] w fun e w'=>e=AN (Av (AR n a b))/\w=w':=by
 go_in;go_wp2
 all_goals(go_ret;exact⟨JJ (by simp[AR];try omega),Q⟩)
def ZU(n:Int)(w:V):AL AE 66 #[U O n] w fun e w'=>e=AN (Av (Rf n))/\w=w':=by
 go_in;go_wp2
 all_goals(go_ret;exact⟨JJ (by simp[Rf];try omega),Q⟩)
def WP(a b:Int):Int:=if Uu a b=true then 0 else 2
def xY(a b s:Int)(w:V):AL AE 162 #[Ba #[U O a,U O b,U AA s]] w fun e w'=>e=AN (U O (WP a b))/\Ag w w w':=by
 go_in;go_wp2
 all_goals(go_ret;exact⟨Cg (by simp[WP,Uu,AR];try omega),AB (Ae _ _) _⟩)
section
variable{b:Nat}{s:BX}{w:V}
theorem WQ{P:Program}(w:V)(g off:Nat)(ty:TypeId)(cs:Array An)(d:TypeDesc)(hc:∀(j:Nat) (v:An),cs[j]?=I v->E w ⟨g,off+j,Z⟩=I v)
  (hu:P.underlying ty=I d) (hd:(match d with | .struct _ | .array _ _=>true | _=>false)=true) (hi:(P.info? ty).map (·.size)=I cs.size):(loadVar ty ⟨g,off,Z⟩).run P w=.ok (Ba cs) w:=by
 have hl:=
  run_loadCells_list (P:=P) w ⟨g,off,Z⟩ cs.toList (fun j v hv=>by
   have PH:(⟨g,off,Z⟩:AS).add j=⟨g,off+j,Z⟩:=by unfold Addr.add;grind
   grind)
 cases hq:P.info? ty with
 | none=>grind
 | some i=>
  have hs:i.size=cs.size:=by grind
  have hagg:(isAgg ty).run P w=.ok true w:=by
   unfold isAgg;rw[Sem.run_bind,run_underlying hu w];cases d <;> simp_all
  simp only[Array.length_toList,Array.toArray_toList]at hl;simp[loadVar,Sem.run_bind,hagg,sizeOf,typeInfo,hq,hs,hl]
def JN{P:Program}{ops:Array Oper}{rest:List Oper}{o:Oper}{a:Act}{w:V}{Bn:Exit->Act->V->Prop}(ty:TypeId)(x:Operand)(ho:o.op=.load ty x)
  (g off:Nat) (hx:a.eval x=AI (I ⟨g,off,Z⟩)) (cs:Array An) (d:TypeDesc) (hc:∀(j:Nat) (v:An),cs[j]?=I v->E w ⟨g,off+j,Z⟩=I v)
  (hu:P.underlying ty=I d) (hd:(match d with | .struct _ | .array _ _=>true | _=>false)=true) (hi:(P.info? ty).map (·.size)=I cs.size)
  (hw:Region.wanted o (yielded ops a.tmps)=true) (h:wpList P ops Bn rest (a.put o.dst (Ba cs)) w):wpList P ops Bn (o::rest) a w:=
 wpList_step fun K hK=>by
  rw[Bd hw];unfold Oper.wp execOp;simp only[ho,hx,Instr.loadAt,Instr.sureAddr,Sem.run_bind,Sem.run_pure,Result.andThen_ok,WQ w g off ty cs d hc hu hd hi];exact hK _ _ h
def EV(w:V)(b:Nat)(s:BX):Prop:=w.heap[b]?=I (N s.cs 62 (0,0))
def EV.on{w':V}(h:EV w b s)(hb:Ag w w w'):EV w' b s:=
 (hb.block b (Bm.1 h).1).trans h
theorem EV.new(w:V)(s:BX):EV (Ao w (N s.cs 62)) w s:=CB w _
def EV.c(h:EV w b s)(j:Nat):E w ⟨b,j,Z⟩=s.cs[j]?:=AX w b j _ _ _ h
def BX.ym(s:BX):∀(j:Nat) (v:An),s.o.cs[j]?=I v->s.cs[j]?=I v:=fun j v h=>by
 match j,h with
 | 0,h=>exact h
 | 1,h=>exact h
 | 2,h=>exact h
 | 3,h=>exact h
 | 4,h=>exact h
 | 5,h=>exact h
 | 6,h=>exact h
 | 7,h=>exact h
 | 8,h=>exact h
 | 9,h=>exact h
 | 10,h=>exact h
 | 11,h=>exact h
 | 12,h=>exact h
 | 13,h=>exact h
 | 14,h=>exact h
 | 15,h=>exact h
 | 16,h=>exact h
 | 17,h=>exact h
 | n+18,h=>exact absurd h (by simp[Bw.cs])
def EV.opt(h:EV w b s):∀(j:Nat) (v:An),s.o.cs[j]?=I v->E w ⟨b,0+j,Z⟩=I v:=fun j v hv=>by rw[EE];exact(h.c j).trans (s.ym j v hv)
end
def lH{n m:Nat}:Ey n m>=0↔¬n<m:=by
 unfold Ey;constructor
 ·intro h hlt;rw[Bd hlt]at h;omega
 ·intro h;rw[AU h];split <;> omega
def yn{f:BA}(h:Cq [f]=0):Y f.l<=64/\Y f.m<=64:=by
 have hg:f.LY=false:=by
  cases h1:f.LY with
  | false=>rfl
  | true=>unfold Cq at h;simp[h1]at h
 have:=dN.1 (eq.1 hg);exact this
def lI(s:BX)(w:V)(h:s.In w):AL AE 111 #[s.val] w fun e w'=>e=AN (U O (Kt s))/\Ag w w w':=by
 have cO:=fun w'=>Yf s.o w'
 have cS:=fun w'=>lz s.o w'
 have cL:=qbw w fun w' hb=>eu s.lim w' (h.l.on hb)
 have cE:=qbw w fun w' hb=>eu s.eps w' (h.e.on hb)
 have cC:=qbw w fun w' hb hl hm=>xR s.eps.A s.eps.c s.eps.l s.eps.C s.eps.d s.eps.m w' (h.e.on hb).n (h.e.on hb).d hl hm
 have hE:Aj (Kt s=if(Rg s&&(TD s&&(TF s&&Uv s)))=true then 0 else 2):=F Q;have q0:=AB (Ae w w) (N s.cs 62);have Ci:=EV.new w s;unfold BX.val;unfold Bw.val at cO cS;unfold BA.val at cL cE;obtain⟨E1,Lk⟩:=Az (FG s.o);obtain⟨E2,Gs⟩:=Az (Ks s.o);obtain⟨E3,hE3⟩:=Az (Cq [s.lim]);obtain⟨E4,hE4⟩:=Az (Cq [s.eps]);have hl:Aj (Rg s=((E1 == 0)&&(s.o.k != 1||(E2 == 0)))):=F (by unfold Rg;rw[Lk,Gs]);have hf:Aj (Uv s=((E3 == 0)&&((E4 == 0)&&decide (AF s.eps.l<AF s.eps.m)))):=F (by unfold Uv;rw[hE3,hE4]);have hlen:E4=0->Y s.eps.l<=64/\Y s.eps.m<=64:=fun h0=>yn (hE4.trans h0)
 simp only[Lk]at cO;simp only[Gs]at cS;simp only[hE3]at cL;simp only[hE4]at cE;have Uw:=F hlen;clear Lk Gs hE3 hE4 hlen;go_in;go_upto_region 1 with fail;obtain⟨W,hW⟩:=Az (Ao w (N s.cs 62));rw[hW]at q0 Ci ⊢;clear hW;go_cut [3] (fun v wx=>v=Av (Rg s)/\Ag W W wx)
 case first=>
  go_wp2_with(refine JN 54 _ Q w 0 Q s.o.cs _ Ci.opt underlying54 Q AG (by rfl) ?_);refine gqz (cO _) fun w1 hb1=>?_;have Nq:=Ci.on hb1;have x0:E w1 ⟨w,0,Z⟩=I (U O s.o.k):=Nq.c 0;cases b1:(E1 == 0)
  ·go_wp2_with fail
   go_meet;exact⟨congrArg Value.bool (by rw[hl.out,b1];rfl),hb1⟩
  ·cases b2:(s.o.k != 1)
   ·go_wp2_with(refine JN 54 _ Q w 0 Q s.o.cs _ Nq.opt underlying54 Q AG (by rfl) ?_)
    refine gqz (cS _) fun w2 hb2=>?_;cases b3:(E2 == 0)
    all_goals(
     go_wp2;go_meet;exact⟨congrArg Value.bool (by rw[hl.out,b1,b2,b3];rfl),AH hb1 hb2⟩)
   ·go_wp2_with fail
    go_meet;exact⟨congrArg Value.bool (by rw[hl.out,b1,b2];rfl),hb1⟩
 obtain⟨rfl,DT⟩:=hcut;obtain⟨w3,rfl⟩:=qgn wc;have EH:=Ci.on DT;have x18:E w3 ⟨w,18,Z⟩=I (U O s.slots):=EH.c 18;have Mb:E w3 ⟨w,19,Z⟩=I (U O s.head):=EH.c 19;have Nr:E w3 ⟨w,20,Z⟩=I (U O s.need):=EH.c 20;have x21:E w3 ⟨w,21,Z⟩=I (U O s.block):=EH.c 21;have x22:E w3 ⟨w,22,Z⟩=I (U O s.sample):=EH.c 22;go_upto_region 2 with fail;go_cut [4] (fun v wx=>v=Av (TD s)/\wx=w3)
 case first=>
  have hC:Aj (TD s=(AR s.slots 1 4000&&(AR s.head 0 s.slots&&(AR s.need 0 4096&&(AR s.block 1 512&&AR s.sample 0 (s.block-1)))))):=F Q;cases c1:AR s.slots 1 4000
  ·go_wp2_with(go_at_call 116;refine mqv (FH _ _ _ _) ?_;(first | rw[c1] | rw[c2] | rw[c3] | rw[c4] | rw[c5]))
   go_meet;exact⟨congrArg Value.bool (by rw[hC.out,c1];rfl),rfl⟩
  ·
   cases c2:AR s.head 0 s.slots
   ·go_wp2_with(go_at_call 116;refine mqv (FH _ _ _ _) ?_;(first | rw[c1] | rw[c2] | rw[c3] | rw[c4] | rw[c5]))
    go_meet;exact⟨congrArg Value.bool (by rw[hC.out,c1,c2];rfl),rfl⟩
   ·
    cases c3:AR s.need 0 4096
    ·go_wp2_with(go_at_call 116;refine mqv (FH _ _ _ _) ?_;(first | rw[c1] | rw[c2] | rw[c3] | rw[c4] | rw[c5]))
     go_meet;exact⟨congrArg Value.bool (by rw[hC.out,c1,c2,c3];rfl),rfl⟩
    ·
     cases c4:AR s.block 1 512
     ·go_wp2_with(go_at_call 116;refine mqv (FH _ _ _ _) ?_;(first | rw[c1] | rw[c2] | rw[c3] | rw[c4] | rw[c5]))
      go_meet;exact⟨congrArg Value.bool (by rw[hC.out,c1,c2,c3,c4];rfl),rfl⟩
     ·
      have Ez:1<=s.block/\s.block<=512:=by simpa[AR]using c4
      cases c5:AR s.sample 0 (s.block-1)
      ·go_wp2_with(go_at_call 116;refine mqv (FH _ _ _ _) ?_;(first | rw[c1] | rw[c2] | rw[c3] | rw[c4] | rw[c5]))
       go_meet;exact⟨congrArg Value.bool (by rw[hC.out,c1,c2,c3,c4,c5];rfl),rfl⟩
      ·
       go_wp2_with(go_at_call 116;refine mqv (FH _ _ _ _) ?_;(first | rw[c1] | rw[c2] | rw[c3] | rw[c4] | rw[c5]));go_meet;exact⟨congrArg Value.bool (by rw[hC.out,c1,c2,c3,c4,c5];rfl),rfl⟩
 obtain⟨rfl,rfl⟩:=hcut;clear x18 Mb Nr x21 x22;have x27:E wc ⟨w,27,Z⟩=I (U O s.passes):=EH.c 27;have x28:E wc ⟨w,28,Z⟩=I (U O s.pblk):=EH.c 28;have x29:E wc ⟨w,29,Z⟩=I (U AA s.pseed):=EH.c 29;go_upto_region 3 with fail;go_cut [5] (fun v wx=>v=Av (TF s)/\Ag wc wc wx)
 case first=>
  have hR:Aj (TF s=(Uu s.passes s.pblk&&(Rf s.width&&(AR s.margin 0 512&&AR s.tries 1 100)))):=F Q;have cP:=xY s.passes s.pblk s.pseed wc;go_wp2_with fail;refine gqz cP fun w4 hb4=>?_;have GV:=EH.on hb4;have x30:E w4 ⟨w,30,Z⟩=I (U O s.width):=GV.c 30;have x31:E w4 ⟨w,31,Z⟩=I (U O s.margin):=GV.c 31;have Ri:E w4 ⟨w,32,Z⟩=I (U O s.tries):=GV.c 32;clear x27 x28 x29 cP;cases r1:Uu s.passes s.pblk
  ·have p1:WP s.passes s.pblk=2:=by unfold WP;rw[r1];rfl
   rw[p1];go_wp2;go_meet;exact⟨congrArg Value.bool (by rw[hR.out,r1];rfl),hb4⟩
  ·have p1:WP s.passes s.pblk=0:=by unfold WP;rw[r1];rfl
   rw[p1];cases r2:Rf s.width
   ·go_wp2_with(first | (go_at_call 116;refine mqv (FH _ _ _ _) ?_;(first | rw[r3] | rw[r4])) | (go_at_call 66;refine mqv (ZU _ _) ?_;rw[r2]))
    go_meet;exact⟨congrArg Value.bool (by rw[hR.out,r1,r2];rfl),hb4⟩
   ·
    cases r3:AR s.margin 0 512
    ·go_wp2_with(first | (go_at_call 116;refine mqv (FH _ _ _ _) ?_;(first | rw[r3] | rw[r4])) | (go_at_call 66;refine mqv (ZU _ _) ?_;rw[r2]))
     go_meet;exact⟨congrArg Value.bool (by rw[hR.out,r1,r2,r3];rfl),hb4⟩
    ·
     cases r4:AR s.tries 1 100
     ·go_wp2_with(first | (go_at_call 116;refine mqv (FH _ _ _ _) ?_;(first | rw[r3] | rw[r4])) | (go_at_call 66;refine mqv (ZU _ _) ?_;rw[r2]))
      go_meet;exact⟨congrArg Value.bool (by rw[hR.out,r1,r2,r3,r4];rfl),hb4⟩
     ·
      go_wp2_with(first | (go_at_call 116;refine mqv (FH _ _ _ _) ?_;(first | rw[r3] | rw[r4])) | (go_at_call 66;refine mqv (ZU _ _) ?_;rw[r2]));go_meet;exact⟨congrArg Value.bool (by rw[hR.out,r1,r2,r3,r4];rfl),hb4⟩
 obtain⟨rfl,Bh⟩:=hcut;obtain⟨w5,rfl⟩:=qgn wc;have OH:=EH.on Bh;have q5:=AH q0 (AH DT Bh);clear x27 x28 x29 hl;have x23:E w5 ⟨w,23,Z⟩=I (R s.eps.A (Y s.eps.l) s.eps.c):=OH.c 23;have x24:E w5 ⟨w,24,Z⟩=I (R s.eps.C (Y s.eps.m) s.eps.d):=OH.c 24;have x25:E w5 ⟨w,25,Z⟩=I (R s.lim.A (Y s.lim.l) s.lim.c):=OH.c 25;have x26:E w5 ⟨w,26,Z⟩=I (R s.lim.C (Y s.lim.m) s.lim.d):=OH.c 26;go_upto_region 4 with fail;cases l1:Rg s
 ·go_wp2_with fail
  go_ret;exact⟨Cg (by rw[hE.out,l1];rfl),q5⟩
 cases l2:TD s
 ·go_wp2_with fail
  go_ret;exact⟨Cg (by rw[hE.out,l1,l2];rfl),q5⟩
 cases l3:TF s
 ·go_wp2_with fail
  go_ret;exact⟨Cg (by rw[hE.out,l1,l2,l3];rfl),q5⟩
 go_wp2_with fail;refine gqz (cL _ q5) fun w6 BV=>?_;have JO:=OH.on BV;have q6:=AH q5 BV;clear x23 x24 x25 x26;have x23:E w6 ⟨w,23,Z⟩=I (R s.eps.A (Y s.eps.l) s.eps.c):=JO.c 23;have x24:E w6 ⟨w,24,Z⟩=I (R s.eps.C (Y s.eps.m) s.eps.d):=JO.c 24;by_cases f1:E3=0
 case neg=>
  have g1:(E3 != 0)=true:=qsu f1;have g2:=F (show(E3 == 0)=false by simpa using f1);clear f1;go_wp2;go_ret;exact⟨Cg (by rw[hE.out,l1,l2,l3,hf.out,g2.out];rfl),q6⟩
 subst f1;go_wp2_with fail;refine gqz (cE _ q6) fun w7 Cl=>?_;have At7:=JO.on Cl;have q7:=AH q6 Cl;clear x23 x24;have x23:E w7 ⟨w,23,Z⟩=I (R s.eps.A (Y s.eps.l) s.eps.c):=At7.c 23;have x24:E w7 ⟨w,24,Z⟩=I (R s.eps.C (Y s.eps.m) s.eps.d):=At7.c 24;by_cases f2:E4=0
 case neg=>
  have g1:(E4 != 0)=true:=qsu f2;have g2:=F (show(E4 == 0)=false by simpa using f2);clear f2;go_wp2;go_ret;exact⟨Cg (by rw[hE.out,l1,l2,l3,hf.out,g2.out];rfl),q7⟩
 have Cm:=F (Uw.out f2);subst f2;go_wp2_with fail;refine gqz (cC _ q7 Cm.out.1 Cm.out.2) fun w8 Cv=>?_;have q8:=AH q7 Cv;clear x23 x24;obtain⟨Cr,hZ⟩:=Az (Ey (AF s.eps.l) (AF s.eps.m));rw[hZ];by_cases f3:AF s.eps.l<AF s.eps.m
 case neg=>
  have g1:decide (Cr>=0)=true:=by rw[<-hZ];exact Er (lH.2 f3)
  have g2:=F (Ds f3);clear f3 hZ;go_wp2;go_ret;exact⟨Cg (by rw[hE.out,l1,l2,l3,hf.out,g2.out];rfl),q8⟩
 have g1:decide (Cr>=0)=false:=by rw[<-hZ];exact Ds (fun h=>lH.1 h f3)
 have g2:=F (Er f3);clear f3 hZ;go_wp2;go_ret;exact⟨Cg (by rw[hE.out,l1,l2,l3,hf.out,g2.out];rfl),q8⟩
section
variable{K k n:Int}{i:Nat}{l:List Int}{row:Option Nat}
def Cs(w:V)(b s:Nat):Prop:=w.heap[b]?=I (N #[U AA s,Av true] 219 (0,0))
section
variable {w w':V} {b s:Nat}
def Cs.c0(h:Cs w b s):E w ⟨b,0,Z⟩=I (U AA s):=AX _ _ _ _ _ _ h
def Cs.c1(h:Cs w b s):E w ⟨b,1,Z⟩=I (Av true):=AX _ _ _ _ _ _ h
theorem Cs.fr(h:Cs w b s):Bo w ⟨b,0,Z⟩=false:=CJ _ _ _ _ _ h
def Cs.lt(h:Cs w b s):b<↑w:=(Bm.1 h).1
def Cs.keep(h:Cs w b s)(hg:w.grownBy w' row)(hr:row≠I b):Cs w' b s:=(hg.block b h.lt (fun e=>hr e.symm)).trans h
def Cs.on(h:Cs w b s)(hb:Ag w w w'):Cs w' b s:=h.keep (Db hb) AO
theorem Cs.new(w:V)(s:Nat):Cs (Ao w (N #[U AA s,Av true] 219)) w s:=CB w _
def Cs.next(h:Cs w b s)(x n:Nat):Cs ((Ai w ⟨b,0,Z⟩ (U AA x)).drewN n) b x/\w.grownBy ((Ai w ⟨b,0,Z⟩ (U AA x)).drewN n) (I b):=
 ⟨CM w b 0 _ _ _ h,Fj (Dt w b 0 _) (mD _ n _)⟩
end
def AfD{α:Type}{sz:Nat}{enc:α->List An}{w w':V}{A:Option AS}{l:List α}(h:Arr sz enc w w A l)(hg:w.grownBy w' row)(hne:∀a,A=I a->I a.block≠row):Arr sz enc w' w' A l:=fun hl=>by
 obtain⟨b,off,rfl,BN,hc⟩:=h hl;exact⟨b,off,Q,Ck BN hg.size,fun i x hx j u hu=>hg.cell (hc i x hx j u hu) (hne ⟨b,off,Z⟩ Q)⟩
def yN(s n:Nat)(hn:0<n)(EU:n<=65536):∃r:Nat,(C9 s:Int)%(n:Int)=(r:Int)/\(C9 s:Int).tmod (n:Int)=(r:Int)/\r=C9 s%n/\r<n:=⟨C9 s%n,AO,by rw[aJ J];simp,Q,IB _ hn⟩
def AfE(b s n:Nat)(w:V)(h:Cs w b s)(hn:0<n)(EU:n<=65536):
  AL AE 287 #[AI (I ⟨b,0,Z⟩),U O n] w fun e w'=>e=AN (Be #[U O ((C9 s%n:Nat):Int),U O 0])/\Cs w' b (Bk s)/\w.grownBy w' (I b):=by
 have cV:=fq b w h.c1;have cN:=ae b s w h.c0 h.fr h.c1;obtain⟨r,h1,h2,h3,hr⟩:=yN s n hn EU;have hN:=h.next (Bk s)
 have wr:IntKind.u64.wrap (n:Int)=(n:Int):=by
  have:=VG n;rw[this];congr 1;exact Nat.mod_eq_of_lt J
 have d1:decide ((n:Int)<1)=false:=by simp;omega
 rw[<-h3];clear h3;generalize C9 s=Bp at*;generalize Bk s=S at*;go_in
 go_wp2_with(first
  | (go_at_call 134;refine mqv (cV) ?_)
  | (go_at_call 84;refine cN.mono ?_;rintro e w1 ⟨rfl,m,BJ⟩))
 go_ret2;exact⟨Q,hN m⟩
def Ve(b s n:Nat)(w:V)(h:Cs w b s)(hn:0<n)(EU:n<=65536):
  AL AE 254 #[AI (I ⟨b,0,Z⟩),U O n] w fun e w'=>e=AN (U O ((C9 s%n:Nat):Int))/\Cs w' b (Bk s)/\w.grownBy w' (I b):=by
 have c:=AfE b s n w h hn EU;generalize C9 s%n=r at*;go_in;go_wp2_with(go_at_call 287;refine gqz c fun w1 h1=>?_);go_ret;exact⟨Q,h1⟩
def En(s:Nat)(p:Int):Bool:=decide (((C9 s%256:Nat):Int)<p)
def Vf(b s:Nat)(p:Int)(w:V)(h:Cs w b s):
  AL AE 247 #[AI (I ⟨b,0,Z⟩),U O p] w fun e w'=>e=AN (Av (En s p))/\Cs w' b (Bk s)/\w.grownBy w' (I b):=by
 have c:=Ve b s 256 w h AC AC;unfold En;generalize C9 s%256=r at*;go_in;go_wp2_with(go_at_call 254;refine gqz c fun w1 h1=>?_);go_ret;exact⟨Q,h1⟩
def EC:List Int->Int->Nat
 | [],_=>0
 | [_],_=>0
 | n::m::l,k=>if k<n then 0 else EC (m::l) (k-n)+1
theorem bW:∀(l:List Int) (k:Int),l≠[]->EC l k<Y l
 | [],_,h=>(h Q).elim
 | [_],_,_=>by simp[EC]
 | n::m::l,k,_=>by
  have:=bW (m::l) (k-n) AO
  grind [EC]
theorem AfG(h:k<n):EC (n::l) k=0:=by
 cases l with
 | nil=>rfl
 | cons m l=>grind [EC]
def bZ(h:l[i]?=I n):l.drop i=n::l.drop (i+1):=by
 obtain⟨hi,rfl⟩:=EF.1 h;exact PI hi
def AfH(h:l[i]?=I n)(inv:EC l K=i+EC (l.drop i) k)(hk:k<n):EC l K=i:=by
 rw[inv,bZ h,AfG hk];rfl
theorem AfI(h:l[i]?=I n)(inv:EC l K=i+EC (l.drop i) k)(hk:¬k<n)(hl:i+1<Y l):EC l K=(i+1:Nat)+EC (l.drop (i+1)) (k-n):=by
 rw[inv,bZ h];obtain⟨m,hm⟩:∃m,l[i+1]?=I m:=⟨_,CH hl⟩
 rw[bZ hm]
 grind [EC]
def AfJ(h:l[i]?=I n)(inv:EC l K=i+EC (l.drop i) k)(hl:i+1=Y l):EC l K=i:=by
 rw[inv,bZ h,WB J];rfl
def sy(b s:Nat)(A:Option AS)(c:Nat)(l:List Int)(w:V)(h:Cs w b s)(hA:Arr 1 BD w w A l)(hb:∀a,A=I a->a.block≠b)(hl:l≠[])(hl2:Y l<=10)(h0:∀x∈l,0<=x/\x<=256):
  AL AE 286 #[AI (I ⟨b,0,Z⟩),R A (Y l) c] w fun e w'=>e=AN (U O ((EC l ((C9 s%256:Nat):Int):Nat):Int))/\Cs w' b (Bk s)/\w.grownBy w' (I b):=by
 have cB:=Ve b s 256 w h AC AC;have hr:=IB (C9 s) (show 0<256 by decide);have YQ:=List.length_pos_iff.2 hl;generalize C9 s%256=K at*;generalize Bk s=S at*;obtain⟨ab,ao,rfl,hab,_⟩:=hA hl;have hne:=hb _ Q;clear h;go_in;go_wp2_with fail;refine cB.mono ?_;rintro e w1⟨rfl,D1,ER⟩;have ar1:=AfD hA ER (fun a ha=>by cases ha;simpa using hne);have fin:=F (JQ D1 ER);clear hA cB D1 ER hb;go_wp2_with fail;go_loop [5,12] (fun kv i=>∃(j:Nat) (k:Int),j<=Y l/\i=U O j/\kv=U O k/\0<=k/\k<=256/\Aj ((j<Y l->EC l K=j+EC (l.drop j) k)/\(j=Y l->EC l K=Y l-1))) (fun _ i=>Y l+1-(intOf i).toNat);exact⟨0,K,BM _,rfl,rfl,J,J,F ⟨fun _=>AO,fun h=>J⟩⟩
 obtain⟨j,k,hj,rfl,rfl,RG,GT,inv⟩:=hrel;rcases D4 j (Y l)with hlt | D8
 ·obtain⟨b2,o2,x,FK,_,hx,cx⟩:=ar1.int hlt (Ae _ _)
  cases FK;obtain⟨hx0,hx1⟩:=h0 x (DI hx);by_cases hc:k<x
  ·have d1:decide (k<x)=true:=qsu hc
   have hw:=F (AfH hx (inv.out.1 hlt) hc);go_wp2;go_ret;exact⟨Cg (by rw[hw.out]),fin.out⟩
  ·have d1:decide (k<x)=false:=qsu hc
   have hnx:Aj ((j+1<Y l->EC l K=(j+1:Nat)+EC (l.drop (j+1)) (k-x))/\(j+1=Y l->EC l K=Y l-1)):=F ⟨fun h=>AfI hx (inv.out.1 hlt) hc h,fun h=>by rw[AfJ hx (inv.out.1 hlt) h];omega⟩;go_wp2;exact⟨⟨j+1,k-x,J,qgm,qgm,J,J,hnx⟩,qio⟩
 ·have GD:j=Y l:=J
  subst GD;have hw:=F (inv.out.2 Q);go_wp2;go_ret;exact⟨Cg (by rw[hw.out];omega),fin.out⟩
end
def Pw(eta:Int)(s:Nat):Nat->Bool × Nat
 | 0=>(false,s)
 | n+1=>((Pw eta s n).1||En (Pw eta s n).2 eta,Bk (Pw eta s n).2)
def Ob(o:Bw)(s:Nat):Nat × Nat:=if o.k=1 then(EC [o.c0,o.c1,o.c2] ((C9 s%256:Nat):Int),Bk s)else(2,s)
def Z7(o:Bw)(c s:Nat):Nat × Nat:=(EC (Nj o c) ((C9 s%256:Nat):Int),Bk s)
def LJ(o:Bw)(s:Nat):AQ × Nat:=
 let c:=Ob o (Bk (Bk s))
 let p:=Z7 o c.1 c.2
 let z:=if o.k=2 then Pw o.eta p.2 p.1 else(true,p.2)
 (⟨((C9 s%2:Nat):Int),decide (C9 (Bk s)%2=1),(c.1:Int),(p.1:Int),z.1⟩,z.2)
structure PJ(w wi:V)(b s X AW P:Nat)(o:Bw)(c0 c1 c2 c3 c4:An):Prop where
 d:Cs wi b s
 o_:CC wi X o
 r:wi.heap[AW]?=I (N #[U O 0,Av false,U O 0,U O 0,Av false] 154 (0,0))
 p:wi.heap[P]?=I (N #[c0,c1,c2,c3,c4] 154 (0,0))
 g:w.grownBy wi (I b)
 lb:b<↑w/\w.heap.size<=X/\X<AW/\AW<P
section
variable {w wi w':V} {b s s' X AW P:Nat} {o:Bw} {c0 c1 c2 c3 c4:An}
def PJ.lt(h:PJ w wi b s X AW P o c0 c1 c2 c3 c4):P<↑wi:=(Bm.1 h.p).1
def PJ.step(h:PJ w wi b s X AW P o c0 c1 c2 c3 c4)(D:Cs w' b s')(hg:wi.grownBy w' (I b)):PJ w w' b s' X AW P o c0 c1 c2 c3 c4:=by
 have h1:=h.lt;have h2:=h.lb;exact⟨D,(hg.block _ J qsm).trans h.o_,(hg.block _ J qsm).trans h.r,(hg.block _ J qsm).trans h.p,Fj h.g hg,h2⟩
theorem PJ.NK(h:PJ w wi b s X AW P o c0 c1 c2 c3 c4){Bp:Nat}(hY:Bp=AW\/Bp=P)(j:Nat)(v:An)(hg0:w.grownBy w' (I b)):w.grownBy (Ai w' ⟨Bp,j,Z⟩ v) (I b):=by
 have h1:=h.lt;have h2:=h.lb;have hg:=Dt w' Bp j v;exact⟨hg.os.trans hg0.os,hg.tape.trans hg0.tape,hg.output.trans hg0.output,Br hg0.size hg.size,fun k hk hn=>(hg.block k (Ck hk hg0.size) (by grind)).trans (hg0.block k hk hn)⟩
def PJ.set(h:PJ w wi b s X AW P o c0 c1 c2 c3 c4)(j:Nat)(v:An){d0 d1 d2 d3 d4:An}(he:(#[c0,c1,c2,c3,c4]:Array An).setIfInBounds j v=#[d0,d1,d2,d3,d4]):PJ w (Ai wi ⟨P,j,Z⟩ v) b s X AW P o d0 d1 d2 d3 d4:=by
 have h1:=h.lt;have h2:=h.lb;have hg:=Dt wi P j v;exact⟨h.d.keep hg qsm,(hg.block _ J qsm).trans h.o_,(hg.block _ J qsm).trans h.r,by rw[<-he];exact CM wi _ j _ _ _ h.p,h.NK (.inr Q) j v h.g,h2⟩
def PJ.cell(h:PJ w wi b s X AW P o c0 c1 c2 c3 c4)(j:Nat):E wi ⟨P,j,Z⟩=(#[c0,c1,c2,c3,c4]:Array An)[j]?:=AX _ _ _ _ _ _ h.p
theorem PJ.fr(h:PJ w wi b s X AW P o c0 c1 c2 c3 c4)(j:Nat):Bo wi ⟨P,j,Z⟩=false:=CJ _ _ _ _ _ h.p
def PJ.Z8(h:PJ w wi b s X AW P o c0 c1 c2 c3 c4)(j:Nat):E wi ⟨AW,j,Z⟩=(#[U O 0,Av false,U O 0,U O 0,Av false]:Array An)[j]?:=AX _ _ _ _ _ _ h.r
def PJ.rfr(h:PJ w wi b s X AW P o c0 c1 c2 c3 c4)(j:Nat):Bo wi ⟨AW,j,Z⟩=false:=CJ _ _ _ _ _ h.r
def PJ.fin(h:PJ w wi b s X AW P o c0 c1 c2 c3 c4)(v0 v1 v2 v3 v4:An):Cs (Ai (Ai (Ai (Ai (Ai wi ⟨AW,0,Z⟩ v0) ⟨AW,1,Z⟩ v1) ⟨AW,2,Z⟩ v2) ⟨AW,3,Z⟩ v3) ⟨AW,4,Z⟩ v4) b s/\w.grownBy (Ai (Ai (Ai (Ai (Ai wi ⟨AW,0,Z⟩ v0) ⟨AW,1,Z⟩ v1) ⟨AW,2,Z⟩ v2) ⟨AW,3,Z⟩ v3) ⟨AW,4,Z⟩ v4) (I b):=by
 have h2:=h.lb;have ne:I AW≠I b:=by simp;omega
 refine⟨((((h.d.keep (Dt _ AW 0 v0) ne).keep (Dt _ AW 1 v1) ne).keep (Dt _ AW 2 v2) ne).keep (Dt _ AW 3 v3) ne).keep (Dt _ AW 4 v4) ne,?_⟩;exact h.NK (.inl Q) 4 v4 (h.NK (.inl Q) 3 v3 (h.NK (.inl Q) 2 v2 (h.NK (.inl Q) 1 v1 (h.NK (.inl Q) 0 v0 h.g))))
theorem PJ.new(w:V)(b s:Nat)(o:Bw)(h:Cs w b s)(v0 v1 v2 v3 v4:An):PJ w (Ao (Ao (Ao w (N o.cs 54)) (N #[U O 0,Av false,U O 0,U O 0,Av false] 154)) (N #[v0,v1,v2,v3,v4] 154)) b s w (w.heap.size+1) (w.heap.size+1+1) o v0 v1 v2 v3 v4:=by
 have B1:=AB (Ae w w) (N o.cs 54);have B2:=AB B1 (N #[U O 0,Av false,U O 0,U O 0,Av false] 154);have B3:=AB B2 (N #[v0,v1,v2,v3,v4] 154);refine⟨h.on B3,?_,?_,?_,(Db B3).but _,⟨h.lt,Bg _,J,J⟩⟩
 ·exact(Vg _ _ qsm).trans (Uq w _ _)
 ·exact(Vg _ _ AO).trans (Ur w _ _)
 ·have e:(Ao (Ao w (N o.cs 54)) (N #[U O 0,Av false,U O 0,U O 0,Av false] 154)).heap.size=w.heap.size+1+1:=AO
  rw[<-e];exact CB _ _
end
def AfK{w:V}{b:Nat}{o:Bw}(h:CC w b o)(c:Nat)(hc:c<3):Arr 1 BD w w (I ⟨b,4+4*c,Z⟩) (Nj o c):=by
 rcases(show c=0\/c=1\/c=2 by omega)with rfl | rfl | rfl
 ·exact WN h.x4 h.x5 h.x6 h.x7
 ·exact WN h.x8 h.x9 h.x10 h.OE
 ·exact WN h.x12 h.Nm h.x14 h.x15
theorem Wj(o:Bw)(c:Nat):(Nj o c).length=4:=by unfold Nj;split <;> rfl
theorem sA{l:List Int}(h:DP l=true):∀x∈l,0<=x/\x<=256:=fun x hx=>by
 unfold DP at h
 grind [FP]
theorem iO{o:Bw}(h:Jh o=true):(0<=o.k/\o.k<=2)/\DP [o.c0,o.c1,o.c2]=true/\∀c,DP (Nj o c)=true:=by
 unfold Jh Nk Nk Nk Nk Rd at h;simp only[Bool.and_eq_true,decide_eq_true_eq]at h;refine⟨h.1.1.1.1.1,h.1.1.1.1.2.1,fun c=>?_⟩
 match c with
 | 0=>grind
 | 1=>grind
 | c+2=>exact h.1.2
def AfL{o:Bw}(h:Jh o=true)(c:Nat):∀x∈Nj o c,0<=x/\x<=256:=sA ((iO h).2.2 c)
def AfM{o:Bw}(h:Jh o=true):∀x∈[o.c0,o.c1,o.c2],0<=x/\x<=256:=sA (iO h).2.1
def PJ.AfN{w wi:V}{b s X AW P:Nat}{o:Bw}{c0 c1 c2 c3 c4:An}(h:PJ w wi b s X AW P o c0 c1 c2 c3 c4)(v0 v1 v2 v3 v4:An):(Ai (Ai (Ai (Ai (Ai wi ⟨AW,0,Z⟩ v0) ⟨AW,1,Z⟩ v1) ⟨AW,2,Z⟩ v2) ⟨AW,3,Z⟩ v3) ⟨AW,4,Z⟩ v4).heap[AW]?=I (N #[v0,v1,v2,v3,v4] 154 (0,0)):=by
 have h0:=CM wi AW 0 _ _ v0 h.r;have h1:=CM _ AW 1 _ _ v1 h0;have h2:=CM _ AW 2 _ _ v2 h1;have h3:=CM _ AW 3 _ _ v3 h2;exact CM _ AW 4 _ _ _ h3
theorem AfO{o:Bw}{s r1 s1 r2 s2 c s4 ph s7 s9:Nat}{bt z:Bool}(h1:C9 s%2=r1)(h2:Bk s=s1)(h3:C9 s1%2=r2)(h4:Bk s1=s2)(h5:((r2:Int) == 1)=bt)(h6:Ob o s2=(c,s4))(h7:EC (Nj o c) ((C9 s4%256:Nat):Int)=ph)(h8:Bk s4=s7)
  (h9:(if o.k=2 then Pw o.eta s7 ph else(true,s7))=(z,s9)):LJ o s=(⟨(r1:Int),bt,(c:Int),(ph:Int),z⟩,s9):=by
 subst h1 h2 h3 h4 h7 h8
 have e5:decide (C9 (Bk s)%2=1)=bt:=by
  rw[<-h5,PO]
  grind
 unfold LJ Z7;simp only[h6];rw[h9,e5]
def AfP:(prog.info? 154).map (·.size)=I 5:=AG
def AfQ(b s:Nat)(o:Bw)(w:V)(h:Cs w b s)(ho:Jh o=true):AL AE 243 #[o.val,AI (I ⟨b,0,Z⟩)] w fun e w'=>
  e=AN (Ba #[U O (LJ o s).1.basis,Av (LJ o s).1.bit,U O (LJ o s).1.cls,U O (LJ o s).1.ph,Av (LJ o s).1.seen])/\Cs w' b (LJ o s).2/\w.grownBy w' (I b):=by
 obtain⟨AF,hV⟩:=Az (LJ o s);rw[hV];have HV:=F hV;clear hV;unfold Bw.val Bw.cs;have J0:=PJ.new w b s o h (U O 0) (Av false) (U O 2) (U O 0) (Av true);unfold Bw.cs at J0;go_in;go_wp2_with fail;obtain⟨y0,hy0⟩:=Az (Ao (Ao (Ao w (N o 54)) (N #[U O 0,Av false,U O 0,U O 0,Av false] 154)) (N #[U O 0,Av false,U O 2,U O 0,Av true] 154));rw[hy0]at J0 ⊢;clear hy0;obtain⟨P,hP⟩:=Az (w.heap.size+1+1);rw[hP]at J0 ⊢;obtain⟨AW,hR⟩:=Az (w.heap.size+1);rw[hR]at J0 ⊢;obtain⟨X,hX⟩:=Az (w.heap.size);rw[hX]at J0 ⊢;clear hP hR hX;refine(Ve b s 2 _ J0.d AC AC).mono ?_;rintro e w1⟨rfl,D1,g1⟩;have J1:=J0.step D1 g1;have k1:E w1 ⟨P,0,Z⟩=I (U O 0):=J1.cell 0;have f1:=J1.fr 0;clear J0 D1 g1;obtain⟨r1,hr1⟩:=Az (C9 s%2);obtain⟨s1,hs1⟩:=Az (Bk s);rw[hr1];rw[hs1]at J1;have HR1:=F hr1;have HS1:=F hs1;clear hr1 hs1;go_wp2_with fail;have J2:=J1.set 0 (U O r1) Q;obtain⟨y2,hy2⟩:=Az (Ai w1 ⟨P,0,Z⟩ (U O r1));rw[hy2]at J2 ⊢;clear hy2 J1 k1 f1;refine(Ve b s1 2 _ J2.d AC AC).mono ?_;rintro e w3⟨rfl,D3,g3⟩;have J3:=J2.step D3 g3;have k3:E w3 ⟨P,1,Z⟩=I (Av false):=J3.cell 1;have f3:=J3.fr 1;clear J2 D3 g3;obtain⟨r2,hr2⟩:=Az (C9 s1%2);obtain⟨s2,hs2⟩:=Az (Bk s1);rw[hr2];rw[hs2]at J3;have PM:=F hr2;have HS2:=F hs2;clear hr2 hs2;obtain⟨bt,hbt⟩:=Az (((r2:Int) == 1));have HB:=F hbt;clear hbt;have AfR:=HB.out;go_upto_region 4 with fail;clear AfR;have J4:=J3.set 1 (Av bt) Q;obtain⟨y4,hy4⟩:=Az (Ai w3 ⟨P,1,Z⟩ (Av bt));rw[hy4]at J4 ⊢;clear hy4 J3 k3 f3;have o4:=J4.o_.x0;have k4:E y4 ⟨P,2,Z⟩=I (U O 2):=J4.cell 2;have f4:=J4.fr 2;obtain⟨⟨RG,hk2⟩,_,_⟩:=iO ho;go_upto_if 17 with fail;go_cut [] (fun wx=>∃c s4:Nat,Aj (Ob o s2=(c,s4))/\c<3/\PJ w wx b s4 X AW P o (U O r1) (Av bt) (U O c) (U O 0) (Av true))
 case first=>
  cases hk:(o.k == 1)
  ·have DG:Aj (Ob o s2=(2,s2)):=F (by unfold Ob;rw[AU (qsu hk)])
   go_wp2;go_meet;exact⟨2,s2,DG,AC,J4⟩
  ·have aC:=lr J4.o_.x1 J4.o_.x2 J4.o_.x3
   have cW:=sy b s2 (I ⟨X,1,Z⟩) 3 _ y4 J4.d aC (fun a ha=>by cases ha;have:=J4.lb;simp;omega) AO AO (AfM ho);have DG:Aj (Ob o s2=(EC [o.c0,o.c1,o.c2] ((C9 s2%256:Nat):Int),Bk s2)):=F (by unfold Ob;rw[Bd (qsu hk)]);have hlt:EC [o.c0,o.c1,o.c2] ((C9 s2%256:Nat):Int)<3:=bW _ _ AO;generalize EC [o.c0,o.c1,o.c2] ((C9 s2%256:Nat):Int)=c at*;clear o4 k4 f4;go_wp2_with fail;refine cW.mono ?_;rintro e w5⟨rfl,D5,g5⟩;have J5:=J4.step D5 g5;have k5:E w5 ⟨P,2,Z⟩=I (U O 2):=J5.cell 2;have f5:=J5.fr 2;have J6:=J5.set 2 (U O c) Q;clear J4 J5 cW D5 g5;go_wp2;go_meet
   case rel=>exact⟨c,Bk s2,DG,hlt,J6⟩
 case rest=>
  clear o4 k4 f4 J4 y4;obtain⟨c,s4,DG,hc3,J4⟩:=hcut;have hcc:(0:Int)<=(c:Int)/\(c:Int)<3:=J;have hci:(c:Int).toNat=c:=AO;have k4:E wc ⟨P,2,Z⟩=I (U O c):=J4.cell 2;have cW:=sy b s4 (I ⟨X,4+4*c,Z⟩) 4 (Nj o c) wc J4.d (AfK J4.o_ c hc3) (fun a ha=>by cases ha;have:=J4.lb;simp;omega) (by intro h;have:=Wj o c;rw[h]at this;cases this) (by rw[Wj];decide) (AfL ho c);rw[Wj,Om 4 c]at cW;have hlt:EC (Nj o c) ((C9 s4%256:Nat):Int)<4:=by rw[<-Wj o c];exact bW _ _ (by intro h;have:=Wj o c;rw[h]at this;cases this)
  obtain⟨ph,Gd⟩:=Az (EC (Nj o c) ((C9 s4%256:Nat):Int));obtain⟨s7,hs7⟩:=Az (Bk s4);rw[Gd,hs7]at cW;rw[Gd]at hlt;have HPH:=F Gd;have HS7:=F hs7;clear Gd hs7;go_wp2_with fail;refine cW.mono ?_;rintro e w7⟨rfl,D7,g7⟩;have J7:=J4.step D7 g7;have k7:E w7 ⟨P,3,Z⟩=I (U O 0):=J7.cell 3;have f7:=J7.fr 3;clear J4 cW D7 g7 k4;go_upto_region 7 with fail;have J8:=J7.set 3 (U O ph) Q;obtain⟨y8,hy8⟩:=Az (Ai w7 ⟨P,3,Z⟩ (U O ph));rw[hy8]at J8 ⊢;clear hy8 J7 k7 f7;have o8:=J8.o_.x0;have k8:E y8 ⟨P,4,Z⟩=I (Av true):=J8.cell 4;have f8:=J8.fr 4;go_upto_if 33 with fail;go_cut [] (fun wx=>∃(z:Bool) (s9:Nat),Aj ((if o.k=2 then Pw o.eta s7 ph else(true,s7))=(z,s9))/\PJ w wx b s9 X AW P o (U O r1) (Av bt) (U O c) (U O ph) (Av z))
  case first=>
   cases hk:(o.k == 2)
   ·have NE:Aj ((if o.k=2 then Pw o.eta s7 ph else(true,s7))=(true,s7)):=F (AU (qsu hk))
    go_wp2;go_meet;exact⟨true,s7,NE,J8⟩
   ·have NE:Aj ((if o.k=2 then Pw o.eta s7 ph else(true,s7))=Pw o.eta s7 ph):=F (Bd (qsu hk))
    go_upto_region 9 with fail;have J9:=J8.set 4 (Av false) Q;obtain⟨y9,hy9⟩:=Az (y8.setCell ⟨P,4,Z⟩ (Av false));rw[hy9]at J9 ⊢;clear hy9 J8 k8 f8 o8;have l9:E y9 ⟨P,3,Z⟩=I (U O ph):=J9.cell 3;go_wp2_with fail;go_loopw [6,37] (fun t i wr=>∃(j:Nat) (u:An) (z:Bool) (s9:Nat),t=u/\i=U O j/\j<=ph/\Aj (Pw o.eta s7 j=(z,s9))/\PJ w wr b s9 X AW P o (U O r1) (Av bt) (U O c) (U O ph) (Av z)) (fun _ i _=>ph-(intOf i).toNat);exact⟨0,_,false,s7,rfl,rfl,BM _,F rfl,J9⟩
    clear J9 l9;obtain⟨j,u,z,s9,rfl,rfl,hj,hz,Bi⟩:=hrel;rcases D4 j ph with GD | D8
    ·have cC:=Vf b s9 o.eta wr Bi.d
     have cx:=Bi.o_.x16;have hz2:Aj (Pw o.eta s7 (j+1)=(z||En s9 o.eta,Bk s9)):=F (by rw[Pw,hz.out]);obtain⟨q,hq⟩:=Az (En s9 o.eta);rw[hq]at cC hz2;clear hq;go_wp2_with fail;refine cC.mono ?_;rintro e Bs⟨rfl,D10,g10⟩;have J10:=Bi.step D10 g10;have k10:E Bs ⟨P,4,Z⟩=I (Av z):=J10.cell 4;have f10:=J10.fr 4;have J11:=J10.set 4 (Av (z||q)) Q;clear Bi J10 cC cx D10 g10;cases z <;> cases q
     all_goals(
      go_wp2_with fail;exact⟨⟨j+1,_,_,Bk s9,Q,qgm,J,hz2,J11⟩,qio⟩)
    ·obtain rfl:j=ph:=J
     go_wp2;go_meet
     case rel=>exact⟨z,s9,F (NE.out.trans hz),Bi⟩
  case rest=>
   clear k8 f8 o8 J8 y8;obtain⟨z,s9,hz,Bi⟩:=hcut;have z0:E wc ⟨P,0,Z⟩=I (U O r1):=Bi.cell 0;have z1:E wc ⟨P,1,Z⟩=I (Av bt):=Bi.cell 1;have z2:E wc ⟨P,2,Z⟩=I (U O c):=Bi.cell 2;have z3:E wc ⟨P,3,Z⟩=I (U O ph):=Bi.cell 3;have z4:E wc ⟨P,4,Z⟩=I (Av z):=Bi.cell 4;have q0:E wc ⟨AW,0,Z⟩=I (U O 0):=Bi.Z8 0;have q1:E wc ⟨AW,1,Z⟩=I (Av false):=Bi.Z8 1;have q2:E wc ⟨AW,2,Z⟩=I (U O 0):=Bi.Z8 2;have q3:E wc ⟨AW,3,Z⟩=I (U O 0):=Bi.Z8 3;have q4:E wc ⟨AW,4,Z⟩=I (Av false):=Bi.Z8 4;have f0:=Bi.rfr 0;have f1:=Bi.rfr 1;have f2:=Bi.rfr 2;have f3:=Bi.rfr 3;have f4:=Bi.rfr 4;have JR:=Bi.AfN (U O r1) (Av bt) (U O c) (U O ph) (Av z);have JF:=Bi.fin (U O r1) (Av bt) (U O c) (U O ph) (Av z);clear Bi;go_wp2_with fail;have hv:=F (AfO HR1 HS1 PM HS2 HB DG HPH HS7 hz);refine qti ?_;have hW:=HV.out.symm.trans hv;subst hW;refine De (v:= Ba #[U O r1,Av bt,U O c,U O ph,Av z]) ?_ Q ⟨rfl,JF.1,JF.2⟩;exact WX Q _ _ AW _ _ _ _ Q JR underlying154 Q AfP
structure C7 where
 ph:Nat
 basis:Int
 bit:Bool
 br:Bool
instance:CoeOut C7 (Array An):=⟨fun z=>#[U O z.ph,U O z.basis,Av z.bit,Av z.br]⟩
def C7.enc(x:C7):List An:=[U O x.ph,U O x.basis,Av x.bit,Av x.br]
def C7.BY(x:C7):Y x.enc=4:=Q
def C7.ok(x:C7):Bool:=AR x.basis 0 1&&decide (x.ph<=3)
def IW:C7:=⟨0,0,false,false⟩
def LK(a:Int)(s:Nat):Nat->Nat × Nat
 | 0=>(0,s)
 | n+1=>((LK a s n).1+(if En (LK a s n).2 a=true then 1 else 0),Bk (LK a s n).2)
theorem AfS(a:Int)(s:Nat):∀n,(LK a s n).1<=n
 | 0=>Bg _
 | n+1=>by have:=AfS a s n;rw[LK];simp only;split <;> omega
def Vh(i:Nat)(x:C7)(s:Nat):C7 × Nat × List CA:=
 let b:Int:=((C9 s%2:Nat):Int)
 let t:Bool × Nat:=if b=x.basis then(x.bit,Bk s)else(decide (C9 (Bk s)%2=1),Bk (Bk s))
 (⟨1,b,t.1,false⟩,t.2,[⟨i,1,b,t.1⟩])
def FN(r:C5)(i:Nat)(x:C7)(s:Nat):C7 × Nat × List CA:=
 if r.k=7 then(⟨0,r.a,decide (r.b=1),true⟩,s,[⟨i,3,r.a,decide (r.b=1)⟩])
 else if x.br=true then(x,s,[])
 else if r.k=1 then(⟨x.ph-(LK r.a s x.ph).1,x.basis,x.bit,false⟩,(LK r.a s x.ph).2,[])
 else if r.k=2 then(if 0<x.ph then(⟨x.ph,x.basis,x.bit != En s r.a,false⟩,Bk s,[])else(x,s,[]))
 else if r.k=6 then(if x.ph=1 then(⟨if En s r.a=true then 0 else 1,x.basis,x.bit,false⟩,Bk s,[])else(x,s,[]))
 else if r.k=5 then(if 2<=x.ph then(⟨x.ph-1,x.basis,x.bit,false⟩,s,[⟨i,2,x.basis,x.bit⟩])else(x,s,[]))
 else if r.k=4 then(if x.ph=0 then(x,s,[])else if En s r.a=true then Vh i x (Bk s)else(x,Bk s,[]))
 else(x,s,[])
def Sk(r:C5)(i:Nat):Bool:=decide (r.k<4)||(decide (r.f<=(i:Int))&&decide ((i:Int)<=r.t))
def Py(r:C5)(i:Nat)(z:C7 × Nat × List CA):C7 × Nat × List CA:=
 if Sk r i=true then((FN r i z.1 z.2.1).1,(FN r i z.1 z.2.1).2.1,z.2.2++ (FN r i z.1 z.2.1).2.2)else z
def JG(l:List C5)(i:Nat)(z:C7 × Nat × List CA)(k:Nat):C7 × Nat × List CA:=(l.take k).foldl (fun z r=>Py r i z) z
def U3(x:C7):C7:=if 0<x.ph\/x.br=true then x else IW
def Ti(p:AQ):C7:=⟨p.ph.toNat,p.basis,p.bit,false⟩
def CQ(l:List C5)(p:List AQ)(s:Nat):Nat->List C7 × Nat × List CA
 | 0=>([],s,[])
 | k+1=>match p[k]? with
  | none=>CQ l p s k
  | some x=>
   let z:=JG l k (Ti x,(CQ l p s k).2.1,(CQ l p s k).2.2) (Y l)
   ((CQ l p s k).1++ [U3 z.1],z.2.1,z.2.2)
def QG(eta:Int)(same bit:Bool)(s:Nat):Nat->Bool × Bool × Nat
 | 0=>(false,false,s)
 | n+1=>
  let z:=QG eta same bit s n
  if En z.2.2 eta=true then
   if same=true then(z.1 || !bit,z.2.1||bit,Bk z.2.2)
   else(z.1||decide (C9 (Bk z.2.2)%2=0),z.2.1||decide (C9 (Bk z.2.2)%2=1),Bk (Bk z.2.2))
  else(z.1,z.2.1,Bk z.2.2)
def Tj(a b:Bool):Int:=(if a=true then 1 else 0)+(if b=true then 2 else 0)
def IX(eta dark:Int)(x:C7)(s:Nat):Bf × Nat:=
 let b:Int:=((C9 s%2:Nat):Int)
 if x.br=true then(⟨b,if b=x.basis then(if x.bit=true then 2 else 1)else 0⟩,Bk s)
 else
  let z:=QG eta (decide (b=x.basis)) x.bit (Bk s) x.ph
  (⟨b,Tj (z.1||En z.2.2 dark) (z.2.1||En (Bk z.2.2) dark)⟩,Bk (Bk z.2.2))
def PA(l:List C7)(sh:Int)(j:Nat):C7:=if 0<=(j:Int)-sh then(l[((j:Int)-sh).toNat]?).getD IW else IW
def Eu(eta dark:Int)(l:List C7)(sh:Int)(s:Nat):Nat->List Bf × Nat
 | 0=>([],s)
 | k+1=>let z:=IX eta dark (PA l sh k) (Eu eta dark l sh s k).2
  ((Eu eta dark l sh s k).1++ [z.1],z.2)
def Fb(o:Bw)(s:Nat):Nat->List AQ × Nat
 | 0=>([],s)
 | k+1=>((Fb o s k).1++ [(LJ o (Fb o s k).2).1],(LJ o (Fb o s k).2).2)
def Iw:List C5->Int
 | []=>0
 | r::l=>if r.k=3 then r.a*(1-2*r.b)else Iw l
theorem Z9(o:Bw)(s:Nat):∀n,(Fb o s n).1.length=n
 | 0=>rfl
 | n+1=>by rw[Fb];simp[Z9 o s n]
theorem Za(eta dark:Int)(l:List C7)(sh:Int)(s:Nat):∀n,(Eu eta dark l sh s n).1.length=n
 | 0=>rfl
 | n+1=>by rw[Eu];simp[Za eta dark l sh s n]
theorem ce(l:List C5)(p:List AQ)(s:Nat):∀n,n<=Y p->(CQ l p s n).1.length=n
 | 0,_=>rfl
 | n+1,h=>by
  rw[CQ,CH J];simp[ce l p s n J]
theorem AfT(o:Bw)(s:Nat):(LJ o s).1.ok=true:=by
 have h2:=IB (C9 s) (show 0<2 by decide)
 have hc:(Ob o (Bk (Bk s))).1<3:=by
  unfold Ob
  grind [EC,C9,Bk]
 have hp:(Z7 o (Ob o (Bk (Bk s))).1 (Ob o (Bk (Bk s))).2).1<4:=by
  unfold Z7;rw[<-Wj o (Ob o (Bk (Bk s))).1];exact bW _ _ (by grind [Nj,Ob,Bk,C9,Wj])
 unfold AQ.ok LJ
 grind [AR,Ob,Bk,Z7,Pw,C9]
theorem iP(o:Bw)(s:Nat):∀n,(Fb o s n).1.all AQ.ok=true
 | 0=>rfl
 | n+1=>by rw[Fb,Su,iP o s n];simp[AfT]
def AfW(n:Nat):AR ((n%2:Nat):Int) 0 1=true:=by
 have:=IB n (show 0<2 by decide);simp[AR];omega
def AfX(r:C5)(i:Nat)(x:C7)(s:Nat)(hr:DU r=true)(hx:x.ok=true):(FN r i x s).1.ok=true:=by
 have hx2:AR x.basis 0 1=true/\x.ph<=3:=by
  unfold C7.ok at hx;rw[Bool.and_eq_true]at hx;exact⟨hx.1,by simpa using hx.2⟩
 have mk:∀(ph:Nat) (b:Int) (t u:Bool),AR b 0 1=true->ph<=3->C7.ok ⟨ph,b,t,u⟩=true:=fun ph b t u h1 h2=>by
  unfold C7.ok;rw[Bool.and_eq_true];exact⟨h1,by simpa using h2⟩
 unfold FN;by_cases h7:r.k=7
 ·rw[Bd h7]
  refine mk _ _ _ _ ?_ J;unfold DU at hr;rw[AU J,AU J,AU J,AU J,Bd h7]at hr;simp only[Bool.and_eq_true,Us,Bool.or_eq_true,beq_iff_eq]at hr;have:=hr.1.2;simp[AR];omega
 rw[AU h7];by_cases hb:x.br=true
 ·rw[Bd hb];exact hx
 rw[AU hb];by_cases h1:r.k=1
 ·rw[Bd h1];exact mk _ _ _ _ hx2.1 J
 rw[AU h1];by_cases h2:r.k=2
 ·rw[Bd h2];split
  ·exact mk _ _ _ _ hx2.1 hx2.2
  ·exact hx
 rw[AU h2];by_cases h6:r.k=6
 ·rw[Bd h6];split
  ·refine mk _ _ _ _ hx2.1 ?_;split <;> omega
  ·exact hx
 rw[AU h6];by_cases h5:r.k=5
 ·rw[Bd h5];split
  ·exact mk _ _ _ _ hx2.1 J
  ·exact hx
 rw[AU h5];by_cases h4:r.k=4
 ·rw[Bd h4];split
  ·exact hx
  ·split
   ·unfold Vh;exact mk _ _ _ _ (AfW _) J
   ·exact hx
 rw[AU h4];exact hx
theorem iQ(l:List C5)(hl:l.all DU=true)(i:Nat)(z:C7 × Nat × List CA)(hz:z.1.ok=true):∀k,(JG l i z k).1.ok=true
 | 0=>by simpa[JG]using hz
 | k+1=>by
  have ih:=iQ l hl i z hz k;unfold JG at ih ⊢;rw[GU,List.foldl_append];cases h:l[k]? with
  | none=>simpa using ih
  | some r=>
   simp only[Option.toList,List.foldl_cons,List.foldl_nil];unfold Py;split
   ·exact AfX r i _ _ (EA.1 hl r (DI h)) ih
   ·exact ih
def sF{l:List C5}{k:Nat}{r:C5}(i:Nat)(z:C7 × Nat × List CA)(h:l[k]?=I r):JG l i z (k+1)=Py r i (JG l i z k):=by
 unfold JG;rw[GU,List.foldl_append,h];rfl
def sG{p:AQ}(h:p.ok=true):(Ti p).ok=true:=by
 unfold AQ.ok at h;unfold C7.ok Ti;simp only[AR,Bool.and_eq_true,decide_eq_true_eq]at h ⊢;omega
def AfY{x:C7}(h:x.ok=true):(U3 x).ok=true:=by
 unfold U3;split
 ·exact h
 ·rfl
theorem iR(l:List C5)(hl:l.all DU=true)(p:List AQ)(hp:p.all AQ.ok=true)(s:Nat):∀n,(CQ l p s n).1.all C7.ok=true
 | 0=>rfl
 | n+1=>by
  rw[CQ];cases h:p[n]? with
  | none=>exact iR l hl p hp s n
  | some x=>
   simp only;rw[Su,iR l hl p hp s n];simp only[List.all_cons,List.all_nil,Bool.and_true,Bool.true_and];exact AfY (iQ l hl n _ (sG (EA.1 hp x (DI h))) _)
def iS{l:List C5}{p:List AQ}{s k:Nat}{x:AQ}(h:p[k]?=I x):CQ l p s (k+1) =
  ((CQ l p s k).1++ [U3 (JG l k (Ti x,(CQ l p s k).2.1,(CQ l p s k).2.2) (Y l)).1],(JG l k (Ti x,(CQ l p s k).2.1,(CQ l p s k).2.2) (Y l)).2.1,(JG l k (Ti x,(CQ l p s k).2.1,(CQ l p s k).2.2) (Y l)).2.2):=by
 rw[CQ,h]
theorem sH:∀{l:List C5},l.all DU=true->AR (Iw l) (-16) 16=true
 | [],_=>by decide
 | r::l,h=>by
  simp only[List.all_cons,Bool.and_eq_true]at h;unfold Iw;split
  ·rename_i h3
   have hr:=h.1;unfold DU at hr;rw[AU J,Bd h3]at hr;simp only[Bool.and_eq_true,Us,Bool.or_eq_true,beq_iff_eq,decide_eq_true_eq]at hr;have h4:=hr.1.1.2;have h5:=hr.1.2;have h6:=hr.2;rcases h4 with h4 | h4 <;> rw[h4]at h5 ⊢ <;> simp[AR] <;> omega
  ·exact sH h.2
open Go.Shelf
section
variable{B B0:Nat}{Bp X:V}{v:An}
section
attribute [local go_sem] Oper.semAt_some
def sI(X Bp:V):Prop:=∀k s,Cs X k s->Cs Bp k s
def MS(B:Nat)(X Bp:V):Prop:=∃row,X.grownBy Bp row/\∀k,row=I k->B<=k/\∃s,Cs X k s
def AfZ(B:Nat)(W:V)(o:Obj):MS B W (Ao W o):=⟨Z,JH W o Z,AO⟩
theorem Af0{b s:Nat}(hB:B<=b)(hD:Cs X b s)(hg:X.grownBy Bp (I b)):MS B X Bp:=⟨I b,hg,fun k h=>by grind⟩
theorem MS.below{B':Nat}{x:V}(h:MS B X Bp)(hx:Ag B' x X)(hs:x.heap.size<=X.heap.size)(hB:B'<=B)(hx2:B'<=↑x):Ag B' x Bp:=by
 obtain⟨row,hg,hr⟩:=h;exact hx.grown hg J (fun k hk=>by grind)
theorem MS.row(h:MS B0 X Bp){k:Nat}{cs:Array An}{T:TypeId}{fr:Nat × Nat}(hk:X.heap[k]?=I (N cs T fr))(hT:T≠219):Bp.heap[k]?=I (N cs T fr):=by
 obtain⟨row,hg,hr⟩:=h;refine(hg.block k (Bm.1 hk).1 (fun e=>?_)).trans hk
 grind [Cs]
def MS.others(h:MS B0 X Bp):KeepsOthers X Bp:=by
 obtain⟨row,hg,hr⟩:=h;refine KeepsOthers.of_grownBy hg (fun j o hj ho=>?_);obtain⟨_,s,hs⟩:=hr j hj;unfold Cs at hs;rw[ho]at hs;cases hs
 rfl
def MS.boxed(h:MS B0 X Bp){t:TypeId}(hv:Boxed X B t v)(ht:t≠219):Boxed Bp B t v:=h.row hv ht
theorem MS.own(h:MS B0 X Bp){α:Type}{base e sz:Nat}{enc:α->List An}{l:List α}(hv:Go.Proofs.YtjpidgffdkjjeaaGreat.Own X base e sz enc v l)(he:e≠219):Go.Proofs.YtjpidgffdkjjeaaGreat.Own Bp base e sz enc v l:=by
 obtain⟨row,hg,hr⟩:=h;refine hv.keep hg ?_;rcases hv.2 with⟨rfl,_⟩ | ⟨g,cap,cur,rfl,_,hgb,_⟩
 ·exact .inl Q
 ·refine .inr fun e'=>?_
  obtain⟨_,s,hs⟩:=hr g (by simpa[Value.ownBlock]using e'.symm)
  grind [Cs,Own]
def iU{AY:Fence}{n:Nat}{P:Program}{ops:Array Oper}{rest:List Oper}{o:Oper}{a:Act}{w:V}{Bn:Exit->Act->V->Prop}(hgd:o.guard=Z)(ty:TypeId)(x:Operand)(ho:o.op=.load ty x)
  (g:Nat) (hx:a.eval x=AI (I ⟨g,0,Z⟩)) (t:TypeId) (cs:Array An) (fr:Nat × Nat) (d:TypeDesc) (hg:w.heap[g]?=I (N cs t fr))
  (hu:P.underlying ty=I d) (hd:(match d with | .struct _ | .array _ _=>true | _=>false)=true) (hi:(P.info? ty).map (·.size)=I cs.size)
  (h:wpListIn AY n P ops Bn rest (a.put o.dst (Ba cs)) w):wpListIn AY n P ops Bn (o::rest) a w:=by
 refine wpListIn_plain hgd fun K hK=>?_
 unfold Oper.wpIn;refine⟨by simp[Oper.about,ho],?_⟩;rw[Oper.semAt_plain AY _ _ (by rw[ho];intro c hc';cases hc')];unfold execOp;simp only[ho,hx,Instr.loadAt,Instr.sureAddr,Sem.run_bind,Sem.run_pure,Result.andThen_ok,run_loadVar_row w g t ty cs fr d hg hu hd hi];exact hK _ _ h
def AQ.val(x:AQ):An:= Ba x
def Af1(o:Bw)(n:Int)(s:Nat)(w:V):AL AE 214 #[o.val,U O n,U AA s] w fun e w'=>
  e=AN (.func (.func 242) #[] #[AI (I ⟨↑w+2,0,Z⟩),AI (I ⟨↑w+1,0,Z⟩),AI (I ⟨w,0,Z⟩)])/\
   w'=Ao (Ao (Ao w (N o.cs 54)) (N #[U O n] 3)) (N #[U AA s] 22):=by
 unfold Bw.val Bw.cs;go_in;go_wp2;go_ret;simp
def Af2(l sb nb ob n s:Nat)(o:Bw)(W:V)(Bi:List AQ->V->Prop)(ho:Jh o=true)(hn:n<=4096)
  (hY:∀(pre:List AQ) (x:AQ) (W:V),Bi pre W->Y pre<4096->YieldAt Fence.wide 8 AE l #[x.val] W fun e W'=>e=AN (Av true)/\Bi (pre++ [x]) W'/\sI W W')
  (B:Nat) (hB:B<=↑W) (hS:∀pre X Bp,Bi pre X->MS B X Bp->Bi pre Bp)
  (hI:∀pre W,Bi pre W->E W ⟨sb,0,Z⟩=I (U AA s)/\E W ⟨nb,0,Z⟩=I (U O n)/\CC W ob o)
  (h0:Bi [] W):
  CallsIn Fence.wide 9 AE 242 #[.func (.yield l) #[] #[],AI (I ⟨sb,0,Z⟩),AI (I ⟨nb,0,Z⟩),AI (I ⟨ob,0,Z⟩)] W fun e W'=>(∃v,e=AN v)/\Bi (Fb o s n).1 W':=by
 have hF:∀f,Fence.wide.fn f:=fun _=>trivial
 obtain⟨c1,c2,c3⟩:=hI _ _ h0;refine callsIn_of_wp func242 Q trivial ?_ Q;simp only[Tryz.ntmps242,List.size_toArray,List.length_cons,List.length_nil,Nat.reduceAdd,Nat.reduceSub,Array.replicate_succ,Array.replicate_zero,List.push_toArray,List.append_toArray,List.nil_append,List.cons_append];have HY:=F hY;have HS:=F hS;have HI:=F hI;clear hY hS hI
 gi_wp2_with fail
 refine(JU.2 (TJ s W)).mono ?_;rintro e w1⟨rfl,BJ⟩;have hJ1:Bi [] w1:=by rw[BJ];exact HS.out _ _ _ h0 (AfZ _ _ _)
 have hD1:Cs w1 W s:=qrf BJ (Cs.new W s);obtain⟨_,c2,_⟩:=HI.out _ _ hJ1;clear BJ h0 c1 c3
 gi_wp2_with fail
 gi_loopw [9] (fun i wr=>∃k:Nat,k<=n/\i=U O k/\Bi (Fb o s k).1 wr/\Cs wr W (Fb o s k).2) (fun i _=>n-(intOf i).toNat)
 case atStart=>exact⟨0,BM _,rfl,hJ1,hD1⟩
 case round=>
  clear hJ1 hD1 c2;obtain⟨k,hk,rfl,hJ,hD⟩:=hrel;rcases D4 k n with hlt | D8
  ·obtain⟨c1,c2,c3⟩:=HI.out _ _ hJ
   have At:=F c3;have cP:=AfQ W (Fb o s k).2 o wr hD ho;unfold Bw.val Bw.cs at cP;have st:Aj (Fb o s (k+1)=((Fb o s k).1++ [(LJ o (Fb o s k).2).1],(LJ o (Fb o s k).2).2)):=F Q;have arm:Aj (∀w2,wr.grownBy w2 (I W.heap.size)->Bi (Fb o s k).1 w2):=F (fun w2 hg=>HS.out _ _ _ hJ (Af0 hB hD hg));have hEl:(Fb o s k).1.length<4096:=by rw[Z9];omega
   clear hD hJ c1 c2 c3;generalize Fb o s k=AM at*
   gi_wp2_with (refine iU Q 54 _ Q ob Q 54 _ (0,0) _ At underlying54 Q AG ?_)
   refine(JU.2 cP).mono ?_;rintro e w2⟨rfl,D2,g2⟩;have hJ2:=arm.out w2 g2;obtain⟨fn2,fI,fJ,fK,hy2,FV⟩:=HY.out AM.1 (LJ o AM.2).1 w2 hJ2 hEl;obtain⟨_,c2,_⟩:=HI.out _ _ hJ2;unfold AQ.val at hy2;clear cP hJ2 g2
   gi_wp2_with fail
   refine FV.mono ?_;rintro e W3⟨rfl,hJ3,hk3⟩;have D3:=hk3 _ _ D2;obtain⟨_,c2,_⟩:=HI.out _ _ hJ3;clear FV hy2 D2 hk3
   gi_wp2_with fail
   exact⟨⟨k+1,J,qgm,qrf st.out hJ3,qrf st.out D3⟩,qio⟩
  ·obtain rfl:k=n:=J
   gi_wp2
   go_end0;exact⟨⟨_,Q⟩,hJ⟩
end
end
section
variable{B By k n ob s:Nat}{Bp X w:V}{o:Bw}{pre:List AQ}{row:Option Nat}{v:An}
section
attribute [local go_sem] Oper.semAt_some
def cg(hg:X.grownBy Bp row)(hr:∀r,row=I r->∃o:Obj,X.heap[r]?=I o/\o.isCells=false){cs:Array An}{T:TypeId}{fr:Nat × Nat}(hk:X.heap[k]?=I (N cs T fr)):Bp.heap[k]?=I (N cs T fr):=by
 refine(hg.block k (Bm.1 hk).1 (fun e=>?_)).trans hk;obtain⟨o,ho,hc⟩:=hr k e.symm;rw[hk]at ho;cases ho;cases hc
def Af4(hg:X.grownBy Bp row)(hr:∀r,row=I r->∃o:Obj,X.heap[r]?=I o/\o.isCells=false){α:Type}{base e sz:Nat}{enc:α->List An}{l:List α}(hv:Go.Proofs.YtjpidgffdkjjeaaGreat.Own X base e sz enc v l):Go.Proofs.YtjpidgffdkjjeaaGreat.Own Bp base e sz enc v l:=by
 refine hv.keep hg ?_;rcases hv.2 with⟨rfl,_⟩ | ⟨g,cap,cur,rfl,_,hgb,_⟩
 ·exact .inl Q
 ·refine .inr fun e'=>?_
  obtain⟨o,ho,hc⟩:=hr g (by simpa[Value.ownBlock]using e'.symm);rw[hgb]at ho;cases ho;cases hc
theorem Af5{W w1:V}{n₀:Nat}{t e:TypeId}{size:Nat}{xs:List An}{tmp:Obj}(v':An)(hv:Boxed W B t v)(hrow:W.ownsRow n₀ e size v k xs)(iV:(Ao W tmp).grownBy w1 v.ownBlock)
  {j:Nat} {cs:Array An} {T:TypeId} {fr:Nat × Nat} (hk:W.heap[j]?=I (N cs T fr)) (h1:T≠e) (h2:T≠t):(Ai w1 ⟨B,0,Z⟩ v').heap[j]?=I (N cs T fr):=by
 have hlt:=(Bm.1 hk).1;have a1:(Ao W tmp).heap[j]?=I (N cs T fr):=(TM _ _ _ hlt).trans hk
 have a2:w1.heap[j]?=I (N cs T fr):=by
  refine(iV.block j qsm (fun e'=>?_)).trans a1;rcases hrow.2 with⟨rfl,_⟩ | ⟨g,cap,cur,rfl,_,hgb,_⟩
  ·simp[Value.ownBlock]at e'
  ·obtain rfl:j=g:=by simpa[Value.ownBlock]using e'
   grind
 have hne:j≠B:=fun e'=>by
  subst e';have:=(show W.heap[j]?=_ from hv)
  grind
 exact(Fd w1 ⟨B,0,Z⟩ v' j hne).trans a2
structure EmI(w:V)(ob By:Nat)(o:Bw)(n s:Nat)(pre:List AQ)(W:V):Prop where
 out:∃v,Boxed W By 80 v/\Go.Proofs.YtjpidgffdkjjeaaGreat.Own W w 154 5 AQ.enc v pre
 op:CC W ob o
 nb:Boxed W (ob+1) 3 (U O n)
 sb:Boxed W (ob+2) 22 (U AA s)
def EmI.sJ(h:EmI w ob By o n s pre X)(hg:X.grownBy Bp row)(hr:∀r,row=I r->∃o:Obj,X.heap[r]?=I o/\o.isCells=false):EmI w ob By o n s pre Bp:=by
 obtain⟨⟨v,h1,h2⟩,h3,h4,h5⟩:=h;exact⟨⟨v,cg hg hr h1,Af4 hg hr h2⟩,cg hg hr h3,cg hg hr h4,cg hg hr h5⟩
def EmI.st(h:EmI w ob By o n s pre X)(hd:MS B X Bp):EmI w ob By o n s pre Bp:=by
 obtain⟨⟨v,h1,h2⟩,h3,h4,h5⟩:=h;exact⟨⟨v,hd.boxed h1 AC,hd.own h2 AC⟩,hd.row h3 AC,hd.row h4 AC,hd.row h5 AC⟩
def Af6:(prog.info? 154).map (fun i=>(i.zero,i.size,i.bytes))=I (I (Ba #[U O 0,Av false,U O 0,U O 0,Av false]),5,40):=AG
theorem Af7(o:Bw)(n s:Nat)(w:V)(ho:Jh o=true)(hn:n<=4096):
  CallsIn Fence.wide 10 AE 170 #[o.val,U O n,U AA s] w fun e w'=>∃v,e=AN (Be #[v,U O 0])/\Go.Proofs.YtjpidgffdkjjeaaGreat.Own w' w 154 5 AQ.enc v (Fb o s n).1/\Ag w w w':=by
 have hF:∀f,Fence.wide.fn f:=fun _=>trivial
 obtain⟨i0,hi,hz0,hz1,hz2⟩:=IA Af6;have Hi:=F hi;have EJ:=F hz0;have Ep:=F hz1;have Eh:=F hz2;clear hi hz0 hz1 hz2;have d1:decide ((n:Int)<0)=false:=AO;have d2:decide (4096<(n:Int))=false:=by simp;omega
 have Ci:=F (CC.new w o);have hb0:=AB (Ae w w) (N o.cs 54);have cC:=Yf o (Ao w (N o.cs 54));have e0:FG o=0:=by unfold FG;rw[Bd ho]
 rw[e0]at cC;unfold Bw.val Bw.cs at*;refine callsIn_of_wp_marks func170 Q trivial ?_ Q;simp only[Tryz.ntmps170,List.size_toArray,List.length_cons,List.length_nil,Nat.reduceAdd,Nat.reduceSub,Array.replicate_succ,Array.replicate_zero,List.push_toArray,List.append_toArray,List.nil_append,List.cons_append]
 gi_wp2_with (refine iU Q 54 _ Q w Q 54 _ (0,0) _ Ci underlying54 Q AG ?_)
 refine(JU.2 cC).mono ?_;rintro e w1⟨rfl,hb1⟩;have Nq:=Ci.out.on hb1;have q1:=AH hb0 hb1;clear cC Ci hb0 hb1;have Fy:=F (Nq.on (AB (Ae w1 w1) (N #[R Z 0 0] 80)));have B2:=Boxed.new w1 80 (R Z 0 0);have q2:=AB q1 (N #[R Z 0 0] 80)
 gi_wp2_with (refine iU Q 54 _ Q w Q 54 _ (0,0) _ Fy underlying54 Q AG ?_)
 refine(JU.2 (Af1 o n s _)).mono ?_;rintro e w3⟨rfl,hw3⟩;obtain⟨By,hO⟩:=Az (w1.heap.size);have Nw:(Ao w1 (N #[R Z 0 0] 80)).heap.size=By+1:=by simp[hO]
 have b3:Ag (Ao w1 (N #[R Z 0 0] 80)) (Ao w1 (N #[R Z 0 0] 80)) w3:=by
  rw[hw3];exact AB (AB (AB (Ae _ _) _) _) _
 have q3:=AH q2 b3
 have I3:EmI w (By+1) By o n s [] w3:=by
  refine⟨⟨_,?_,Own.nil⟩,?_,?_,?_⟩
  ·rw[<-hO];exact B2.kept (Db b3) AO
  ·have:=CC.new (Ao w1 (N #[R Z 0 0] 80)) o
   rw[Nw]at this;rw[hw3];exact this.on (AB (AB (Ae _ _) _) _)
  ·have:=Boxed.new (Ao (Ao w1 (N #[R Z 0 0] 80)) (N o.cs 54)) 3 (U O n)
   rw[World.size_alloc,Nw]at this;rw[hw3];exact this.alloc _
  ·have:=Boxed.new (Ao (Ao (Ao w1 (N #[R Z 0 0] 80)) (N o.cs 54)) (N #[U O n] 3)) 22 (U AA s)
   rw[World.size_alloc,World.size_alloc,Nw]at this;rw[hw3];exact this
 have hOw:↑w<=By:=qrb hO q1.size;rw[Nw];rw[hO];clear hw3 b3 Nw B2 Fy Nq q2 hO
 gi_wp2_with fail
 refine Af3 (α:=AQ) Q J (gf:=242) (lb:=#[AI (I ⟨By+1+2,0,Z⟩),AI (I ⟨By+1+1,0,Z⟩),AI (I ⟨By+1,0,Z⟩)]) Q trivial (enters_of func242 AG Q)
  (Rq:=fun x=>#[x.val]) (Kp:=sI) (St:=MS w) (OK:=fun pre _=>Y pre<4096) (xs:=(Fb o s n).1)
  (fun pre W=>EmI w (By+1) By o n s pre W/\Ag w w W)
  ?seq (fun h k a b hab=>k a b (h a b hab)) ?putk (fun _ _ h=>h.others) (fun _=>rfl)
  (OwnFrom.and (fun _ X Bp row hs hg hr=>hs.sJ hg (fun r e=>(hr r e).2)) (ownFrom_below (Bg _) q3.size))
  (fun _ X Bp h k=>⟨h.1.st k,k.below h.2 h.2.size (Bg _) (Bg _)⟩) ⟨I3,q3⟩
  (fun x W=>{tmps:=#[Ba o,U O n,U AA s,AI (I ⟨w,0,Z⟩),undef,undef,R Z 0 0,U O 0,U O 0,AI (I ⟨By,0,Z⟩),AI (I ⟨W,0,Z⟩),Ba o,U O 0,U O 0,Av false,undef,U O n,Av false,Av false,U O n,Av false,Av false,Ba o,U O n,U AA s,.func (.func 242) #[] #[AI (I ⟨By+1+2,0,Z⟩),AI (I ⟨By+1+1,0,Z⟩),AI (I ⟨By+1,0,Z⟩)],Ba x,undef,undef,undef,undef,undef],defers:=[]}) (fun x W=>Ao W (N x 154)) (fun x W=>⟨KeepsOthers.alloc _ _,fun k a h=>h.keep (row:=Z) (JH _ _ _) AO⟩)
  (fun pre x W h=>⟨h.1.sJ (JH _ _ Z) AO,AB h.2 _⟩) ?assign ?body ?done
 case seq=>
  intro l Bi W hbW hJs hJI hY h0;exact Af2 l (By+1+2) (By+1+1) (By+1) n s o W Bi ho hn hY w ((hJI _ _ h0).2.size) hJs (fun pre W hj=>⟨(hJI _ _ hj).1.sb.cell,(hJI _ _ hj).1.nb.cell,(hJI _ _ hj).1.op⟩) h0
 case putk=>
  intro W l o1 o2 hl ho1 Qe k a hk;unfold Cs at hk ⊢;exact(World.putObj_heap_other (show k≠l from fun e=>by subst e;rw[ho1]at hk;cases hk;cases Qe)).trans hk
 case assign=>
  intro l x W K hK;unfold AQ.val
  gi_wp2
  exact hK
 case body=>
  rintro l pre x W W' ⟨hE,hb⟩ hlen⟨hsz,sK,⟨hE',hb'⟩⟩;have hrow:=sK W _ _ _ (World.alloc_heap_new W _);obtain⟨⟨v,hv,JP⟩,h3,h4,h5⟩:=hE';have y0:E W' ⟨W,0,Z⟩=I (U O x.basis):=AX _ _ _ _ _ _ hrow;have y1:E W' ⟨W,1,Z⟩=I (Av x.bit):=AX _ _ _ _ _ _ hrow;have y2:E W' ⟨W,2,Z⟩=I (U O x.cls):=AX _ _ _ _ _ _ hrow;have y3:E W' ⟨W,3,Z⟩=I (U O x.ph):=AX _ _ _ _ _ _ hrow;have y4:E W' ⟨W,4,Z⟩=I (Av x.seen):=AX _ _ _ _ _ _ hrow;have yv:=hv.cell;have hby:(Y pre+1)*40<=140737488355328:=J;have hbw:=hb'.size
  have hnews:∀j u,(AQ.enc x)[j]?=I u->E (Ao W' (N x 154)) ((⟨W',0,Z⟩:AS).add j)=I u:=fun j u hu=>by
   have PH:(⟨W',0,Z⟩:AS).add j=⟨W',j,Z⟩:=by unfold Addr.add;split <;> simp_all
   rw[PH];exact Cb (by rw[<-hu];simp[AQ.enc])
  have Pn:Y pre+1<=maxLen:=by unfold maxLen;omega
  have Af8:=XO JP (N x 154);have Ap:=F (fun(v':An) (w4:V) (h1:w4.ownsRow w 154 5 v' (Y pre+1) (pre.flatMap AQ.enc++ AQ.enc x)) (h2:(Ao W' (N x 154)).grownBy w4 v.ownBlock)=>Boxed.appended (n₀:=w.heap.size) (B:=By) hv AC JP hbw hOw h1 h2);have Rw:=F (fun(w4:V) (u:An) (h2:(Ao W' (N x 154)).grownBy w4 v.ownBlock) (j:Nat) (cs:Array An) (T:TypeId) (fr:Nat × Nat) (hk:W'.heap[j]?=I (N cs T fr)) (h3:T≠154) (h4:T≠80)=>Af5 u hv JP h2 hk h3 h4);clear hlen JP hE sK hsz
  gi_wp2_with (gi_at_builtin;refine wpListIn_append_own _ Q _ _ 80 Q w 154 i0 _ 5 40 underlying80 Hi EJ Ep Eh Q AC v (Y pre) (pre.flatMap AQ.enc) Q Af8 ⟨W',0,Z⟩ 1 1 (AQ.enc x) Q Q hnews (AQ.one x) Pn hby qsm ?_;intro v' w4 ho4 hg4 _;obtain⟨g',cap',rfl⟩:=ownsRow_succ ho4;obtain⟨e1,e2,e3,e4,e5⟩:=Ap.out _ _ ho4 hg4;have hc1:=e1.cell;have PR:=e1.frozen)
  refine⟨e4.from _,fun k a h=>Rw.out _ _ hg4 k _ _ _ h AC AC,⟨⟨_,e2,Own.snoc e3⟩,Rw.out _ _ hg4 _ _ _ _ h3 AC AC,Rw.out _ _ hg4 _ _ _ _ h4 AC AC,Rw.out _ _ hg4 _ _ _ _ h5 AC AC⟩,hb'.trans e5⟩
 case done=>
  intro D W hD ⟨⟨⟨v,hv,JP⟩,h3,h4,h5⟩,hb⟩ hK;have yv:=hv.cell
  gi_wp2
  refine⟨AO,.inl ⟨_,_,rfl,run_takeDeferred hK,?_⟩⟩;exact⟨_,results_tmp2 Q _ _ _,v,Q,ownsRow_putObj JP _ hK Q,hb.trans (belowK_b (w:=w) (Bg _) W D _ _ (by have:=q3.size;omega) hK Q Q)⟩
def Af9(o:Bw)(n s:Nat)(w:V)(ho:Jh o=true)(hn:n<=4096):
  AL AE 170 #[o.val,U O n,U AA s] w fun e w'=>∃v,e=AN (Be #[v,U O 0])/\Go.Proofs.YtjpidgffdkjjeaaGreat.Own w' w 154 5 AQ.enc v (Fb o s n).1/\Ag w w w':=
 JU.1 (Af7 o n s w ho hn)
end
end
def Vi(w:V)(B AM:Nat)(ns:List CA):Prop:=∃v,Boxed w AM 309 v/\Go.Proofs.YtjpidgffdkjjeaaGreat.Own w B 165 4 CA.enc v ns
structure Ex(B b X AM:Nat)(W W':V):Prop where
 bel:Ag B W W'
 row:∀(k:Nat) (cs:Array An) (T:TypeId) (fr:Nat × Nat),W.heap[k]?=I (N cs T fr)->k≠b->k≠X->k≠AM->T≠165->W'.heap[k]?=I (N cs T fr)
def Ex.refl(B b X AM:Nat)(W:V):Ex B b X AM W W:=⟨Ae _ _,fun _ _ _ _ h _ _ _ _=>h⟩
def Ex.trans{B b X AM:Nat}{W W' W2:V}(h:Ex B b X AM W W')(k:Ex B b X AM W' W2):Ex B b X AM W W2:=⟨h.bel.trans k.bel,fun i cs T fr hi h1 h2 h3 h4=>k.row i cs T fr (h.row i cs T fr hi h1 h2 h3 h4) h1 h2 h3 h4⟩
def Aga{α:Type}{w:V}{B e z:Nat}{enc:α->List An}{v:An}{l:List α}{x:α}(h:Go.Proofs.YtjpidgffdkjjeaaGreat.Own w B e z enc v (l++ [x])):∃g cap,v=R (I ⟨g,0,Z⟩) (Y l+1) cap:=by
 unfold Go.Proofs.YtjpidgffdkjjeaaGreat.Own at h;rw[KZ]at h;exact ownsRow_succ h
theorem Agb{W w1:V}{n₀ B:Nat}{e:TypeId}{size:Nat}{v:An}{k:Nat}{xs:List An}{tmp:Obj}(v':An)(hrow:W.ownsRow n₀ e size v k xs)(iV:(Ao W tmp).grownBy w1 v.ownBlock)
  {j:Nat} {cs:Array An} {T:TypeId} {fr:Nat × Nat} (hk:W.heap[j]?=I (N cs T fr)) (h1:T≠e) (hne:j≠B):(Ai w1 ⟨B,0,Z⟩ v').heap[j]?=I (N cs T fr):=by
 have hlt:=(Bm.1 hk).1;have a1:(Ao W tmp).heap[j]?=I (N cs T fr):=(TM _ _ _ hlt).trans hk
 have a2:w1.heap[j]?=I (N cs T fr):=by
  refine(iV.block j qsm (fun e'=>?_)).trans a1;rcases hrow.2 with⟨rfl,_⟩ | ⟨g,cap,cur,rfl,_,hgb,_⟩
  ·simp[Value.ownBlock]at e'
  ·obtain rfl:j=g:=by simpa[Value.ownBlock]using e'
   grind
 exact(Fd w1 ⟨B,0,Z⟩ v' j hne).trans a2
def Agc{W w':V}{r:Option Nat}(h:W.drew.grownBy w' r):W.grownBy w' r:=⟨h.os,h.tape,h.output,h.size,h.block⟩
def Agd:(prog.info? 165).map (fun i=>(i.zero,i.size,i.bytes))=I (I (Ba #[U O 0,U O 0,U O 0,Av false]),4,32):=AG
def iW(B b X AM:Nat)(ns:List CA)(x:CA)(w:V)(h:Vi w B AM ns)(hE:B<=AM)(hB:B<=↑w)(hl:Y ns<=1000000):
  AL AE 345 #[AI (I ⟨AM,0,Z⟩),Ba x] w fun e w'=>(∃v,e=AN v)/\Vi w' B AM (ns++ [x])/\Ex B b X AM w w':=by
 obtain⟨v,hv,ho⟩:=h;go_in;go_upto_region 1 with fail;obtain⟨W,hW⟩:=Az (Ao w (N x 165));have hs:W.heap.size=w.heap.size+1:=by rw[<-hW];simp
 have CZ:Boxed W AM 309 v:=by rw[<-hW];exact hv.alloc _
 have ho1:Go.Proofs.YtjpidgffdkjjeaaGreat.Own W B 165 4 CA.enc v ns:=by rw[<-hW];exact ho.alloc _
 have y1:=CZ.cell;have n0:E W ⟨w,0,Z⟩=I (U O x.slot):=qrb hW (Cb Q);have n1:E W ⟨w,1,Z⟩=I (U O x.how):=qrb hW (Cb Q);have n2:E W ⟨w,2,Z⟩=I (U O x.basis):=qrb hW (Cb Q);have n3:E W ⟨w,3,Z⟩=I (Av x.bit):=qrb hW (Cb Q)
 have K0:Ex B b X AM w W:=by
  rw[<-hW];exact⟨(Ae B w).alloc hB _,fun k cs T fr hk _ _ _ _=>(TM _ _ _ (Bm.1 hk).1).trans hk⟩
 rw[hW];clear hW hv ho;have hby:(Y ns+1)*32<=140737488355328:=J;have hBW:B<=↑W:=J;clear hs;have CU:=ho1.alloc (N x 165);have Ap:=F (fun(v':An) (w4:V) (h1:Go.Proofs.YtjpidgffdkjjeaaGreat.Own w4 B 165 4 CA.enc v' (ns++ [x])) (h2:(Ao W (N x 165)).grownBy w4 v.ownBlock)=>Boxed.appended (n₀:=B) (B:=AM) CZ AC ho1 hBW hE h1 h2);have Rw:=F (fun(w4:V) (u:An) (h2:(Ao W (N x 165)).grownBy w4 v.ownBlock) (j:Nat) (cs:Array An) (T:TypeId) (fr:Nat × Nat) (hk:W.heap[j]?=I (N cs T fr)) (h3:T≠165) (h4:j≠AM)=>Agb u ho1 h2 hk h3 h4);have y2:=(CZ.alloc (N x 165)).cell;go_region_law (refine qsG underlying82 Agd ns x CU (fun j u hu=>Cb (by rw[<-hu];simp[CA.enc])) (CA.one x) hby qsm ?_;intro v' w4 o4 b4 g4;obtain⟨g',cap',rfl⟩:=Aga o4;replace g4:=Agc g4;obtain⟨e1,e2,e3,e4,e5⟩:=Ap.out _ _ o4 g4;have c4:=e1.cell;have JB:=e1.frozen)
 all_goals(
  go_end0;exact⟨⟨_,Q⟩,⟨_,e2,e3⟩,K0.trans ⟨e5,fun k cs T fr hk _ _ h3 h4=>Rw.out _ _ g4 k cs T fr hk h4 h3⟩⟩)
structure Cy(B:Nat)(w:V)(b X AM:Nat)(x:C7)(s:Nat)(ns:List CA):Prop where
 d:Cs w b s
 l:w.heap[X]?=I (N x 315 (0,0))
 e:Vi w B AM ns
 lb:B<=b/\B<=X/\B<=AM/\B<=↑w
section
variable {B:Nat} {w w':V} {b X AM s s':Nat} {x x':C7} {ns:List CA}
def Cy.c0(h:Cy B w b X AM x s ns):E w ⟨X,0,Z⟩=I (U O x.ph):=AX _ _ _ _ _ _ h.l
def Cy.c1(h:Cy B w b X AM x s ns):E w ⟨X,1,Z⟩=I (U O x.basis):=AX _ _ _ _ _ _ h.l
def Cy.c2(h:Cy B w b X AM x s ns):E w ⟨X,2,Z⟩=I (Av x.bit):=AX _ _ _ _ _ _ h.l
def Cy.c3(h:Cy B w b X AM x s ns):E w ⟨X,3,Z⟩=I (Av x.br):=AX _ _ _ _ _ _ h.l
theorem Cy.fr(h:Cy B w b X AM x s ns)(j:Nat):Bo w ⟨X,j,Z⟩=false:=CJ _ _ _ _ _ h.l
theorem Cy.xb(h:Cy B w b X AM x s ns):X≠b:=fun e=>by
 have h1:=h.l;have h2:=h.d
 grind [Cs]
theorem Cy.eb(h:Cy B w b X AM x s ns):AM≠b:=fun e=>by
 obtain⟨v,h1,_⟩:=h.e;have h2:=h.d;unfold Cs at h2;unfold Boxed at h1
 grind
theorem Cy.ex(h:Cy B w b X AM x s ns):AM≠X:=fun e=>by
 obtain⟨v,h1,_⟩:=h.e;have h2:=h.l;unfold Boxed at h1
 grind
def Cy.lt(h:Cy B w b X AM x s ns):b<↑w/\X<↑w/\AM<↑w:=by
 obtain⟨v,h1,_⟩:=h.e;exact⟨h.d.lt,(Bm.1 h.l).1,h1.lt⟩
theorem Vi.grown{row:Option Nat}(h:Vi w B AM ns)(hg:w.grownBy w' row)(h1:I AM≠row)(h2:∀k,row=I k->∃cs T fr,w.heap[k]?=I (N cs T fr)/\T≠165):Vi w' B AM ns:=by
 obtain⟨v,hv,ho⟩:=h;refine⟨v,hv.kept hg h1,ho.keep hg ?_⟩;rcases ho.2 with⟨rfl,_⟩ | ⟨g,cap,cur,rfl,_,hgb,_⟩
 ·exact .inl Q
 ·refine .inr fun e'=>?_
  obtain⟨cs,T,fr,hk,hT⟩:=h2 g (by simpa[Value.ownBlock]using e'.symm)
  grind
theorem Cy.draw(h:Cy B w b X AM x s ns)(hd:Cs w' b s')(hg:w.grownBy w' (I b)):Cy B w' b X AM x s' ns/\Ex B b X AM w w':=by
 have h1:=h.xb;have h2:=h.eb;have h3:=h.lt;have h4:=h.lb;refine⟨⟨hd,(hg.block X h3.2.1 (by grind)).trans h.l,h.e.grown hg (by grind) (fun k hk=>?_),by grind [Cs]⟩,⟨(Ae B w).grown hg h4.2.2.2 (fun k hk=>by grind),fun k cs T fr hk h5 _ _ _=>(hg.block k (Bm.1 hk).1 (by grind)).trans hk⟩⟩;cases hk;exact⟨_,_,_,h.d,AC⟩
def Cy.alloc(h:Cy B w b X AM x s ns)(o:Obj):Cy B (Ao w o) b X AM x s ns/\Ex B b X AM w (Ao w o):=by
 have hg:=JH w o Z;have h4:=h.lb;refine⟨⟨h.d.keep hg AO,(hg.block X h.lt.2.1 AO).trans h.l,h.e.grown hg AO AO,by have:=hg.size;omega⟩,⟨(Ae B w).alloc h4.2.2.2 _,fun k cs T fr hk _ _ _ _=>(hg.block k (Bm.1 hk).1 AO).trans hk⟩⟩
theorem Cy.drew(h:Cy B w b X AM x s ns):Cy B w.drew b X AM x s ns/\Ex B b X AM w w.drew:=by
 obtain⟨v,h1,h2⟩:=h.e;exact⟨⟨h.d,h.l,⟨v,h1,h2.keep (row:=Z) ⟨rfl,rfl,rfl,Bg _,fun _ _ _=>rfl⟩ (by grind)⟩,h.lb⟩,⟨(Ae B w).drew,fun _ _ _ _ h _ _ _ _=>h⟩⟩
theorem Cy.set(h:Cy B w b X AM x s ns)(j:Nat)(v:An)(he:(#[U O x.ph,U O x.basis,Av x.bit,Av x.br]:Array An).setIfInBounds j v=#[U O x'.ph,U O x'.basis,Av x'.bit,Av x'.br]):Cy B (Ai w ⟨X,j,Z⟩ v) b X AM x' s ns/\Ex B b X AM w (Ai w ⟨X,j,Z⟩ v):=by
 have hg:=Dt w X j v;have h1:=h.xb;have h2:=h.ex;have h4:=h.lb;refine⟨⟨h.d.keep hg (by grind),by rw[<-he];exact CM w X j _ _ v h.l,h.e.grown hg (by grind) (fun k hk=>?_),by have:=hg.size;omega⟩,⟨(Ae B w).grown hg h4.2.2.2 (fun k hk=>by grind),fun k cs T fr hk _ h5 _ _=>(hg.block k (Bm.1 hk).1 (by grind)).trans hk⟩⟩;cases hk;exact⟨_,_,_,h.l,AC⟩
def Cy.aV(h:Cy B w b X AM x s ns)(x':C7):Cy B (Ai (Ai (Ai (Ai w ⟨X,0,Z⟩ (U O x'.ph)) ⟨X,1,Z⟩ (U O x'.basis)) ⟨X,2,Z⟩ (Av x'.bit)) ⟨X,3,Z⟩ (Av x'.br)) b X AM x' s ns/\
  Ex B b X AM w (Ai (Ai (Ai (Ai w ⟨X,0,Z⟩ (U O x'.ph)) ⟨X,1,Z⟩ (U O x'.basis)) ⟨X,2,Z⟩ (Av x'.bit)) ⟨X,3,Z⟩ (Av x'.br)):=by
 obtain⟨a1,b1⟩:=h.set (x':=⟨x'.ph,x.basis,x.bit,x.br⟩) 0 (U O x'.ph) Q;obtain⟨a2,b2⟩:=a1.set (x':=⟨x'.ph,x'.basis,x.bit,x.br⟩) 1 (U O x'.basis) Q;obtain⟨a3,b3⟩:=a2.set (x':=⟨x'.ph,x'.basis,x'.bit,x.br⟩) 2 (Av x'.bit) Q;obtain⟨a4,b4⟩:=a3.set (x':=x') 3 (Av x'.br) Q;exact⟨a4,((b1.trans b2).trans b3).trans b4⟩
end
def Fc(B b X AM:Nat)(w:V)(ns:List CA)(z:C7 × Nat × List CA):Ending->V->Prop:=fun e w'=>(∃v,e=AN v)/\Cy B w' b X AM z.1 z.2.1 (ns++ z.2.2)/\Ex B b X AM w w'
theorem Fc.mk{B b X AM:Nat}{w w':V}{ns:List CA}{x:C7}{s:Nat}{v:An}(h:Cy B w' b X AM x s ns)(k:Ex B b X AM w w'):Fc B b X AM w ns (x,s,[]) (AN v) w':=⟨⟨v,Q⟩,by grind,k⟩
def Wk(w:V)(r:C5):(Ao w (N r 196)).heap[w.heap.size]?=I (N r 196 (0,0)):=World.alloc_heap_new w _
def Age(B b X AM s:Nat)(r:C5)(x:C7)(ns:List CA)(w:V)(h:Cy B w b X AM x s ns)(hb:x.br=false)(hp:x.ph<=3):
  AL AE 246 #[r.val,AI (I ⟨X,0,Z⟩),AI (I ⟨b,0,Z⟩)] w (Fc B b X AM w ns (⟨x.ph-(LK r.a s x.ph).1,x.basis,x.bit,false⟩,(LK r.a s x.ph).2,[])):=by
 unfold C5.val;have hr:=Wk w r;obtain⟨J0,K0⟩:=h.alloc (N r 196);have lts:=h.lt;go_in;have y0:=J0.c0;go_wp2_with fail;clear y0;go_loopw [10] (fun i wr=>∃(j q s':Nat),j<=x.ph/\q<=j/\i=U O j/\Aj (LK r.a s j=(q,s'))/\Cy B wr b X AM ⟨x.ph-q,x.basis,x.bit,false⟩ s' ns/\Ex B b X AM (Ao w (N r 196)) wr) (fun i _=>x.ph-(intOf i).toNat);exact⟨0,0,s,BM _,Bg _,rfl,F rfl,qrb hb J0,Ex.refl _ _ _ _ _⟩
 clear J0;obtain⟨j,q,s',hj,hq,rfl,hz,Bi,K⟩:=hrel;rcases D4 j x.ph with hlt | D8
 ·have hrw:=K.row _ _ _ _ hr J J J AC
  have y3:E wr ⟨w,3,Z⟩=I (U O r.a):=AX _ _ _ _ _ _ hrw;have cC:=Vf b s' r.a wr Bi.d;have hst:Aj (LK r.a s (j+1)=(q+(if En s' r.a=true then 1 else 0),Bk s')):=F (by rw[LK,hz.out]);obtain⟨u,hu⟩:=Az (En s' r.a);rw[hu]at cC hst;clear hu;go_wp2_with fail;refine cC.mono ?_;rintro e w2⟨rfl,D2,g2⟩;obtain⟨J2,K2⟩:=Bi.draw D2 g2;have K3:=K.trans K2;clear cC y3 Bi K K2 D2 g2;have y0:=J2.c0;have f0:=J2.fr 0;cases u
  ·go_wp2_with fail
   exact⟨⟨j+1,q,Bk s',J,J,qgm,hst,J2,K3⟩,qio⟩
  ·have hc:((x.ph-q:Nat):Int)-1=((x.ph-(q+1):Nat):Int):=J
   obtain⟨J4,K4⟩:=J2.set (x':=⟨x.ph-(q+1),x.basis,x.bit,false⟩) 0 (U O ((x.ph-(q+1):Nat):Int)) Q;have K5:=K3.trans K4;clear J2 K3 K4;go_wp2_with fail;exact⟨⟨j+1,q+1,Bk s',J,J,qgm,hst,J4,K5⟩,qio⟩
 ·obtain rfl:j=x.ph:=J
  go_wp2;go_end0;rw[hz.out];exact Fc.mk Bi (K0.trans K)
def Agf(B b X AM s:Nat)(r:C5)(x:C7)(ns:List CA)(w:V)(h:Cy B w b X AM x s ns)(hb:x.br=false)(hp:x.ph<=3):
  AL AE 248 #[r.val,AI (I ⟨X,0,Z⟩),AI (I ⟨b,0,Z⟩)] w (Fc B b X AM w ns (if 0<x.ph then(⟨x.ph,x.basis,x.bit != En s r.a,false⟩,Bk s,[])else(x,s,[]))):=by
 unfold C5.val;have hr:=Wk w r;obtain⟨J0,K0⟩:=h.alloc (N r 196);have y0:=J0.c0;have y3:E (Ao w (N r 196)) ⟨w,3,Z⟩=I (U O r.a):=AX _ _ _ _ _ _ hr;by_cases Gd:0<x.ph
 ·rw[Bd Gd]
  have d1:decide ((0:Int)<(x.ph:Int))=true:=by simp;omega
  have cC:=Vf b s r.a _ J0.d;obtain⟨u,hu⟩:=Az (En s r.a);rw[hu]at cC ⊢;clear hu;go_in;go_wp2_with fail;refine cC.mono ?_;rintro e w2⟨rfl,D2,g2⟩;obtain⟨J2,K2⟩:=J0.draw D2 g2;have K3:=K0.trans K2;clear cC y3 y0 J0 K0 K2 D2 g2 hr h;have y0:=J2.c2;have f0:=J2.fr 2;cases u
  ·have e1:Aj ((⟨x.ph,x.basis,x.bit != false,false⟩:C7)=x):=F (by obtain⟨a1,a2,a3,a4⟩:=x;simp only at hb;subst hb;cases a3 <;> rfl)
   go_wp2;go_end0;rw[e1.out];exact Fc.mk J2 K3
  ·obtain⟨J4,K4⟩:=J2.set (x':=⟨x.ph,x.basis,!x.bit,false⟩) 2 (Av (!x.bit)) (by rw[hb];rfl)
   have K5:=K3.trans K4;have e2:Aj ((x.bit != true)=(!x.bit)):=F (by cases x.bit <;> rfl);clear J2 K3 K4;go_wp2;go_end0;rw[e2.out];exact Fc.mk J4 K5
 ·rw[AU Gd]
  have d1:decide ((0:Int)<(x.ph:Int))=false:=by simp;omega
  go_in;go_wp2;go_end0;exact Fc.mk J0 K0
def Agg(B b X AM s:Nat)(r:C5)(x:C7)(ns:List CA)(w:V)(h:Cy B w b X AM x s ns):
  AL AE 249 #[r.val,AI (I ⟨X,0,Z⟩),AI (I ⟨b,0,Z⟩)] w (Fc B b X AM w ns (x,s,[])):=by
 unfold C5.val;obtain⟨J0,K0⟩:=h.alloc (N r 196);go_in;go_wp2;go_end0
 first | exact Fc.mk J0 K0 | exact Fc.mk h (Ex.refl _ _ _ _ _)
def Agh(B b X AM s:Nat)(r:C5)(x:C7)(ns:List CA)(w:V)(h:Cy B w b X AM x s ns)(hb:x.br=false)(hp:x.ph<=3):
  AL AE 250 #[r.val,AI (I ⟨X,0,Z⟩),AI (I ⟨b,0,Z⟩)] w (Fc B b X AM w ns (if x.ph=1 then(⟨if En s r.a=true then 0 else 1,x.basis,x.bit,false⟩,Bk s,[])else(x,s,[]))):=by
 unfold C5.val;have hr:=Wk w r;obtain⟨J0,K0⟩:=h.alloc (N r 196);have y0:=J0.c0;have y3:E (Ao w (N r 196)) ⟨w,3,Z⟩=I (U O r.a):=AX _ _ _ _ _ _ hr;by_cases Gd:x.ph=1
 ·rw[Bd Gd]
  have d1:((x.ph:Int) == 1)=true:=by simp;omega
  have cC:=Vf b s r.a _ J0.d;obtain⟨u,hu⟩:=Az (En s r.a);rw[hu]at cC ⊢;clear hu;obtain⟨Cr,hZ⟩:∃Cr:Nat,(if u=true then 0 else 1)=Cr:=⟨_,Q⟩
  rw[hZ];have HZ:=F hZ;clear hZ;go_in;go_wp2_with fail;refine cC.mono ?_;rintro e w2⟨rfl,D2,g2⟩;obtain⟨J2,K2⟩:=J0.draw D2 g2;have K3:=K0.trans K2;clear cC y3 y0 J0 K0 K2 D2 g2 hr h;have y0:=J2.c0;have f0:=J2.fr 0;cases u
  ·go_wp2_with fail
   go_end0;have e1:(⟨Cr,x.basis,x.bit,false⟩:C7)=x:=by obtain⟨a1,a2,a3,a4⟩:=x;simp only at hb Gd;subst hb Gd;rw[<-HZ.out];rfl
   rw[e1];exact Fc.mk J2 K3
  ·have hz0:Cr=0:=HZ.out.symm
   subst hz0;obtain⟨J4,K4⟩:=J2.set (x':=⟨0,x.basis,x.bit,false⟩) 0 (U O 0) (by rw[hb];rfl);have K5:=K3.trans K4;clear J2 K3 K4 HZ;go_wp2;go_end0;exact Fc.mk J4 K5
 ·rw[AU Gd]
  have d1:((x.ph:Int) == 1)=false:=by simp;omega
  go_in;go_wp2;go_end0;exact Fc.mk J0 K0
def cu(AY:Nat)(hE:∀(args:Array An) (y:V),(callFunc AY args).run AE y=.ok (.enter AY args) y)(cb B b X AM s:Nat)(r:C5)(x:C7)(ns:List CA)(w:V)(sl:Int)(i1:An)(Cr:C7 × Nat × List CA)(h:Cy B w b X AM x s ns)(hcb:Boxed w cb 349 (.func (.func AY) #[] #[]))
  (hc:x.br=false->∀w',Cy B w' b X AM x s ns->AL AE AY #[r.val,AI (I ⟨X,0,Z⟩),AI (I ⟨b,0,Z⟩)] w' (Fc B b X AM w' ns Cr)):
  AL AE 245 #[r.val,U O sl,AI (I ⟨X,0,Z⟩),AI (I ⟨b,0,Z⟩),i1,AI (I ⟨cb,0,Z⟩)] w (Fc B b X AM w ns (if x.br=true then(x,s,[])else Cr)):=by
 unfold C5.val at*;have hr:=Wk w r;obtain⟨J0,K0⟩:=h.alloc (N r 196);have y:=fun j=>AX (Ao w (N r 196)) w j _ _ _ hr
 have y0:=y 0;have y1:=y 1;have y2:=y 2;have y3:=y 3;have y4:=y 4;clear y;have z3:=J0.c3;have zc:=(hcb.alloc (N r 196)).cell;clear hr;cases hbr:x.br
 ·have c:=hc hbr _ J0
  rw[hbr]at z3;rw[AU AO];clear hc;go_in;go_wp2_with fail
  try rw[hE,Oper.upon_enter]
  refine c.mono ?_;rintro e w2⟨⟨v,rfl⟩,J2,K2⟩;clear c z3 zc y0 y1 y2 y3 y4;go_wp2;go_end0;exact⟨⟨_,Q⟩,J2,K0.trans K2⟩
 ·rw[hbr]at z3
  rw[Bd Q];clear hc;go_in;go_wp2;go_end0;exact Fc.mk J0 K0
section
variable{B AM X b s:Nat}{ns:List CA}{w w':V}{x:C7}
def U4(AM:Nat):An:= .iface 307 (AI (I ⟨AM,0,Z⟩))
def Agi(AM:Nat)(w:V):(method (prog.types.size+Made.depth) 307 (AI (I ⟨AM,0,Z⟩)) "waveplate/optics.hear").run AE w=.ok (345,AI (I ⟨AM,0,Z⟩)) w:=AG
@[go_sem] theorem AjP (n AM:Nat) (w:V) (hn:n=prog.types.size+Made.depth):(method n 307 (AI (I ⟨AM,0,Z⟩)) "waveplate/optics.hear").run AE w=.ok (345,AI (I ⟨AM,0,Z⟩)) w:=qrf hn (Agi AM w)
def Cy.hear{ms:List CA}(h:Cy B w b X AM x s ns)(h2:Vi w' B AM ms)(k:Ex B AM AM AM w w'):Cy B w' b X AM x s ms/\Ex B b X AM w w':=by
 have h3:=h.eb;have h4:=h.ex;have h5:=h.lb;have h6:=k.bel.size;exact⟨⟨k.row b _ _ _ h.d h3.symm h3.symm h3.symm AC,k.row X _ _ _ h.l h4.symm h4.symm h4.symm AC,h2,J⟩,⟨k.bel,fun i cs T fr hi _ _ he hT=>k.row i cs T fr hi he he he hT⟩⟩
theorem Fc.one{n:CA}{v:An}(h:Cy B w' b X AM x s (ns++ [n]))(k:Ex B b X AM w w'):Fc B b X AM w ns (x,s,[n]) (AN v) w':=⟨⟨v,Q⟩,h,k⟩
def Agj(B b X AM s i:Nat)(r:C5)(x:C7)(ns:List CA)(w:V)(h:Cy B w b X AM x s ns)(hp:x.ph<=3)(hn:Y ns<=1000000):
  AL AE 252 #[r.val,U O i,AI (I ⟨X,0,Z⟩),AI (I ⟨b,0,Z⟩),U4 AM] w (Fc B b X AM w ns (if x.br=true then(x,s,[])else if x.ph=0 then(x,s,[])else if En s r.a=true then Vh i x (Bk s)else(x,Bk s,[]))):=by
 unfold C5.val U4;have hr:=Wk w r;obtain⟨J0,K0⟩:=h.alloc (N r 196);have y0:=J0.c0;have yb:=J0.c3;have y3:E (Ao w (N r 196)) ⟨w,3,Z⟩=I (U O r.a):=AX _ _ _ _ _ _ hr;obtain⟨Cr,hZ⟩:=Az ((if x.br=true then(x,s,[])else if x.ph=0 then(x,s,[])else if En s r.a=true then Vh i x (Bk s)else(x,Bk s,[])));rw[hZ];have HZ:=F hZ;clear hZ;rcases(Bool.eq_false_or_eq_true x.br).symm with hbr | hbr
 ·rw[hbr]at yb
  by_cases Gd:x.ph=0
  ·have hz:(x,s,[])=Cr:=by rw[<-HZ.out,AU (by rw[hbr];simp),Bd Gd]
   subst hz;have d1:((x.ph:Int) == 0)=true:=by simp;omega
   go_in;go_wp2;go_end0;exact Fc.mk J0 K0
  ·have d1:((x.ph:Int) == 0)=false:=by simp;omega
   have cC:=Vf b s r.a _ J0.d;obtain⟨u,hu⟩:=Az (En s r.a)
   have hz:(if u=true then Vh i x (Bk s)else(x,Bk s,[]))=Cr:=by
    have h9:=HZ.out;rw[AU (show¬x.br=true by rw[hbr];simp),AU Gd,hu]at h9;exact h9
   rw[hu]at cC;have Hz:=F hz;clear hu hz HZ;go_in;go_wp2_with fail;refine cC.mono ?_;rintro e w2⟨rfl,D2,g2⟩;obtain⟨J2,K2⟩:=J0.draw D2 g2;have K3:=K0.trans K2;clear cC y3 y0 J0 K0 K2 D2 g2 hr h yb;have y2:=J2.c2;cases u
   ·have hz:=Hz.out
    rw[AU AO]at hz;subst hz;go_wp2_with fail;refine qti ?_;refine De (results_none Q _ _ _) Q ?_;exact Fc.mk J2 K3
   ·have hz:=Hz.out
    rw[Bd Q]at hz;have HZ:=F hz;clear hz Hz;go_wp2_with fail;obtain⟨Jd,Kd⟩:=J2.drew;have cB:=Ve b (Bk s) 2 w2.drew Jd.d AC AC;obtain⟨q,hq⟩:=Az (C9 (Bk s)%2);obtain⟨s2,hs2⟩:=Az (Bk (Bk s));rw[hq,hs2]at cB;have Hq:=F hq;have Hs2:=F hs2;clear hq hs2;go_cut [10,11] (fun v10 v11 wx=>v10=U O q/\v11=Av x.bit/\Cy B wx b X AM x s2 ns/\Ex B b X AM w wx)
    case first=>
     go_region_with (go_at_call 254;refine cB.mono ?_;rintro e w3⟨rfl,D3,g3⟩;obtain⟨J3,K4⟩:=Jd.draw D3 g3;have y5:=J3.c2;have K5:=(K3.trans Kd).trans K4)
     all_goals(
      go_wp2;go_meet
      case rel=>exact⟨rfl,rfl,J3,K5⟩)
    case rest=>
     clear cB Jd Kd J2 K3 y2;obtain⟨rfl,rfl,Bi,K⟩:=hcut;have y1:=Bi.c1;obtain⟨xb,MT⟩:=Az (x.basis);rw[MT]at y1;have Hxb:=F MT;clear MT;go_upto_if 41 with fail;go_cut [11] (fun v wx=>∃(t:Bool) (s3:Nat),v=Av t/\Aj ((if(q:Int)=x.basis then(x.bit,s2)else(decide (C9 s2%2=1),Bk s2))=(t,s3))/\Cy B wx b X AM x s3 ns/\Ex B b X AM w wx)
     case first=>
      by_cases Qv:(q:Int)=xb
      ·have ht:Aj ((if(q:Int)=x.basis then(x.bit,s2)else(decide (C9 s2%2=1),Bk s2))=(x.bit,s2)):=F (Bd (Qv.trans Hxb.out.symm))
       have d2:((q:Int) != xb)=false:=qsu Qv;rw[d2];clear d2 Qv;go_wp2;go_meet;exact⟨_,_,rfl,ht,Bi,K⟩
      ·have d2:((q:Int) != xb)=true:=qsu Qv
       have cB:=Ve b s2 2 wc Bi.d AC AC;obtain⟨q2,Et⟩:=Az (C9 s2%2);have d3:((q2:Int) == 1)=decide (C9 s2%2=1):=by rw[Et,PO];simp;omega
       rw[Et]at cB;have ht:Aj ((if(q:Int)=x.basis then(x.bit,s2)else(decide (C9 s2%2=1),Bk s2))=(decide (C9 s2%2=1),Bk s2)):=F (AU (qrf Hxb.out Qv));generalize decide (C9 s2%2=1)=t2 at*;rw[d2];clear Qv Et d2;go_wp2_with fail;refine cB.mono ?_;rintro e w5⟨rfl,D5,g5⟩;obtain⟨J5,K5⟩:=Bi.draw D5 g5;go_wp2;go_meet
       case rel=>exact⟨_,_,rfl,ht,J5,K.trans K5⟩
     case rest=>
      clear y1 Bi K;obtain⟨t,s3,rfl,ht,Bi,K⟩:=hcut;have f0:=Bi.fr 0;have f1:=Bi.fr 1;have f2:=Bi.fr 2;have f3:=Bi.fr 3;have y0:=Bi.c0;have y1:=Bi.c1;have y2:=Bi.c2;have y3:=Bi.c3;obtain⟨J4,K4⟩:=Bi.aV ⟨1,(q:Int),t,false⟩;have hK:=K.trans K4;clear K K4 Bi;go_wp2_with fail;refine(iW B AM AM AM ns ⟨(i:Int),1,(q:Int),t⟩ _ J4.e J4.lb.2.2.1 J4.lb.2.2.2 hn).mono ?_;rintro e w9⟨⟨v9,rfl⟩,hE9,K9⟩;go_wp2;go_end0
      have hz:Vh i x (Bk s)=(⟨1,(q:Int),t,false⟩,s3,[⟨(i:Int),1,(q:Int),t⟩]):=by
       unfold Vh;simp only;rw[Hq.out,Hs2.out,ht.out]
      rw[<-HZ.out,hz];obtain⟨J9,NB⟩:=J4.hear hE9 K9;exact Fc.one J9 (hK.trans NB)
 ·have hz:(x,s,[])=Cr:=by rw[<-HZ.out,Bd hbr]
  subst hz;rw[hbr]at yb;go_in;go_wp2;go_end0;exact Fc.mk J0 K0
end
@[go_sem] theorem AjR {P:Program} {w:V} {a:AS} {m:Mode} (fn:Fn) (x y:Array An):(store a (.func fn x y) m).run P w=stored P w a (.func fn x y) m:=run_store P w a _ m Q
@[go_sem] theorem AjS {P:Program} {w:V} {a:AS} {m:Mode}:(store a Bl m).run P w=stored P w a Bl m:=run_store P w a _ m Q
def Agn{w x:V}{g:Nat}{T:TypeId}{z0 z1 z2 z3 z4 z5 z6 z7:An}(v0 v1 v2 v3 v4 v5 v6 v7:An)(h:w.heap[g]?=I (N #[z0,z1,z2,z3,z4,z5,z6,z7] T (0,0))):
  (Ai (Ai (Ai (Ai (Ai (Ai (Ai (Ai w ⟨g,0,Z⟩ v0) ⟨g,1,Z⟩ v1) ⟨g,2,Z⟩ v2) ⟨g,3,Z⟩ v3) ⟨g,4,Z⟩ v4) ⟨g,5,Z⟩ v5) ⟨g,6,Z⟩ v6) ⟨g,7,Z⟩ v7).heap[g]?=I (N #[v0,v1,v2,v3,v4,v5,v6,v7] T (0,0))/\(∀k,k≠g->(Ai (Ai (Ai (Ai (Ai (Ai (Ai (Ai w ⟨g,0,Z⟩ v0) ⟨g,1,Z⟩ v1) ⟨g,2,Z⟩ v2) ⟨g,3,Z⟩ v3) ⟨g,4,Z⟩ v4) ⟨g,5,Z⟩ v5) ⟨g,6,Z⟩ v6) ⟨g,7,Z⟩ v7).heap[k]?=w.heap[k]?)/\(∀B,Ag B x w->B<=g->Ag B x (Ai (Ai (Ai (Ai (Ai (Ai (Ai (Ai w ⟨g,0,Z⟩ v0) ⟨g,1,Z⟩ v1) ⟨g,2,Z⟩ v2) ⟨g,3,Z⟩ v3) ⟨g,4,Z⟩ v4) ⟨g,5,Z⟩ v5) ⟨g,6,Z⟩ v6) ⟨g,7,Z⟩ v7)):=by
 have h0:(Ai w ⟨g,0,Z⟩ v0).heap[g]?=I (N #[v0,z1,z2,z3,z4,z5,z6,z7] T (0,0)):=CM _ _ 0 _ _ v0 h;have h1:(Ai (Ai w ⟨g,0,Z⟩ v0) ⟨g,1,Z⟩ v1).heap[g]?=I (N #[v0,v1,z2,z3,z4,z5,z6,z7] T (0,0)):=CM _ _ 1 _ _ v1 h0;have h2:(Ai (Ai (Ai w ⟨g,0,Z⟩ v0) ⟨g,1,Z⟩ v1) ⟨g,2,Z⟩ v2).heap[g]?=I (N #[v0,v1,v2,z3,z4,z5,z6,z7] T (0,0)):=CM _ _ 2 _ _ v2 h1;have h3:(Ai (Ai (Ai (Ai w ⟨g,0,Z⟩ v0) ⟨g,1,Z⟩ v1) ⟨g,2,Z⟩ v2) ⟨g,3,Z⟩ v3).heap[g]?=I (N #[v0,v1,v2,v3,z4,z5,z6,z7] T (0,0)):=CM _ _ 3 _ _ v3 h2;have h4:(Ai (Ai (Ai (Ai (Ai w ⟨g,0,Z⟩ v0) ⟨g,1,Z⟩ v1) ⟨g,2,Z⟩ v2) ⟨g,3,Z⟩ v3) ⟨g,4,Z⟩ v4).heap[g]?=I (N #[v0,v1,v2,v3,v4,z5,z6,z7] T (0,0)):=CM _ _ 4 _ _ v4 h3;have h5:(Ai (Ai (Ai (Ai (Ai (Ai w ⟨g,0,Z⟩ v0) ⟨g,1,Z⟩ v1) ⟨g,2,Z⟩ v2) ⟨g,3,Z⟩ v3) ⟨g,4,Z⟩ v4) ⟨g,5,Z⟩ v5).heap[g]?=I (N #[v0,v1,v2,v3,v4,v5,z6,z7] T (0,0)):=CM _ _ 5 _ _ v5 h4;have h6:(Ai (Ai (Ai (Ai (Ai (Ai (Ai w ⟨g,0,Z⟩ v0) ⟨g,1,Z⟩ v1) ⟨g,2,Z⟩ v2) ⟨g,3,Z⟩ v3) ⟨g,4,Z⟩ v4) ⟨g,5,Z⟩ v5) ⟨g,6,Z⟩ v6).heap[g]?=I (N #[v0,v1,v2,v3,v4,v5,v6,z7] T (0,0)):=CM _ _ 6 _ _ v6 h5;have h7:(Ai (Ai (Ai (Ai (Ai (Ai (Ai (Ai w ⟨g,0,Z⟩ v0) ⟨g,1,Z⟩ v1) ⟨g,2,Z⟩ v2) ⟨g,3,Z⟩ v3) ⟨g,4,Z⟩ v4) ⟨g,5,Z⟩ v5) ⟨g,6,Z⟩ v6) ⟨g,7,Z⟩ v7).heap[g]?=I (N #[v0,v1,v2,v3,v4,v5,v6,v7] T (0,0)):=CM _ _ 7 _ _ v7 h6;refine⟨h7,fun k hk=>?_,fun B hb hB=>?_⟩
 ·rw[Fd _ _ _ k hk,Fd _ _ _ k hk,Fd _ _ _ k hk,Fd _ _ _ k hk,Fd _ _ _ k hk,Fd _ _ _ k hk,Fd _ _ _ k hk,Fd _ _ _ k hk]
 ·have b0:=hb.setCell (p:=⟨g,0,Z⟩) hB v0
  have b1:=b0.setCell (p:=⟨g,1,Z⟩) hB v1;have b2:=b1.setCell (p:=⟨g,2,Z⟩) hB v2;have b3:=b2.setCell (p:=⟨g,3,Z⟩) hB v3;have b4:=b3.setCell (p:=⟨g,4,Z⟩) hB v4;have b5:=b4.setCell (p:=⟨g,5,Z⟩) hB v5;have b6:=b5.setCell (p:=⟨g,6,Z⟩) hB v6;have b7:=b6.setCell (p:=⟨g,7,Z⟩) hB v7;exact b7
def Ago:(prog.info? 312).map (·.size)=I 8:=AG
def cU(f:Nat)(w:V):AL AE 244 #[.func (.func f) #[] #[]] w fun e w'=>e=AN (.func (.func 245) #[] #[AI (I ⟨w,0,Z⟩)])/\w'=Ao w (N #[.func (.func f) #[] #[]] 349):=by
 go_in;go_wp2;go_ret;exact⟨Q,Q⟩
def MU(c:Nat):An:= .func (.func 245) #[] #[AI (I ⟨c,0,Z⟩)]
def iX(c1 c2 c3 c6:Nat):An:= Ba #[Bl,MU c1,MU c2,MU c3,.func (.func 252) #[] #[],.func (.func 251) #[] #[],MU c6,.func (.func 253) #[] #[]]
structure iY(w:V)(c1 c2 c3 c6:Nat):Prop where
 b1:Boxed w c1 349 (.func (.func 246) #[] #[])
 b2:Boxed w c2 349 (.func (.func 248) #[] #[])
 b3:Boxed w c3 349 (.func (.func 249) #[] #[])
 b6:Boxed w c6 349 (.func (.func 250) #[] #[])
def Agp(w:V):AL AE 215 #[] w fun e w'=>∃c1 c2 c3 c6,e=AN (iX c1 c2 c3 c6)/\iY w' c1 c2 c3 c6/\Ag w w w':=by
 unfold iX MU;go_in;go_wp2_with fail;obtain⟨w0,h0⟩:∃w0,w0=Ao w (N #[Bl,Bl,Bl,Bl,Bl,Bl,Bl,Bl] 312):=⟨_,Q⟩
 have R0:w0.heap[w.heap.size]?=I (N #[Bl,Bl,Bl,Bl,Bl,Bl,Bl,Bl] 312 (0,0)):=by rw[h0];exact World.alloc_heap_new _ _
 have q0:Ag w w w0:=by rw[h0];exact AB (Ae _ _) _
 rw[<-h0];clear h0;have sz0:=(Bm.1 R0).1;refine gqz (cU _ w0) fun w1 h1=>?_;have B1:Boxed w1 w0 349 (.func (.func 246) #[] #[]):=by rw[h1];exact Boxed.new _ _ _
 have R1:w1.heap[w.heap.size]?=I (N #[Bl,Bl,Bl,Bl,Bl,Bl,Bl,Bl] 312 (0,0)):=by rw[h1];exact(TM _ _ _ (Bm.1 R0).1).trans R0
 have q1:Ag w w w1:=by rw[h1];exact AB q0 _
 clear h1 R0 q0;go_wp2_with fail;have sz1:=(Bm.1 R1).1;refine gqz (cU _ w1) fun w2 h2=>?_;have B2:Boxed w2 w1 349 (.func (.func 248) #[] #[]):=by rw[h2];exact Boxed.new _ _ _
 replace B1:=(by rw[h2];exact B1.alloc _:Boxed w2 w0 _ _)
 have R2:w2.heap[w.heap.size]?=I (N #[Bl,Bl,Bl,Bl,Bl,Bl,Bl,Bl] 312 (0,0)):=by rw[h2];exact(TM _ _ _ (Bm.1 R1).1).trans R1
 have q2:Ag w w w2:=by rw[h2];exact AB q1 _
 clear h2 R1 q1;go_wp2_with fail;have Nw:=(Bm.1 R2).1;refine gqz (cU _ w2) fun w3 h3=>?_;have B3:Boxed w3 w2 349 (.func (.func 249) #[] #[]):=by rw[h3];exact Boxed.new _ _ _
 replace B1:=(by rw[h3];exact B1.alloc _:Boxed w3 w0 _ _)
 replace B2:=(by rw[h3];exact B2.alloc _:Boxed w3 w1 _ _)
 have R3:w3.heap[w.heap.size]?=I (N #[Bl,Bl,Bl,Bl,Bl,Bl,Bl,Bl] 312 (0,0)):=by rw[h3];exact(TM _ _ _ (Bm.1 R2).1).trans R2
 have q3:Ag w w w3:=by rw[h3];exact AB q2 _
 clear h3 R2 q2;go_wp2_with fail;have Kr:=(Bm.1 R3).1;refine gqz (cU _ w3) fun w4 h4=>?_;have B4:Boxed w4 w3 349 (.func (.func 250) #[] #[]):=by rw[h4];exact Boxed.new _ _ _
 replace B1:=(by rw[h4];exact B1.alloc _:Boxed w4 w0 _ _)
 replace B2:=(by rw[h4];exact B2.alloc _:Boxed w4 w1 _ _)
 replace B3:=(by rw[h4];exact B3.alloc _:Boxed w4 w2 _ _)
 have R4:w4.heap[w.heap.size]?=I (N #[Bl,Bl,Bl,Bl,Bl,Bl,Bl,Bl] 312 (0,0)):=by rw[h4];exact(TM _ _ _ (Bm.1 R3).1).trans R3
 have q4:Ag w w w4:=by rw[h4];exact AB q3 _
 clear h4 R3 q3;have sz:w0.heap.size≠w.heap.size/\w1.heap.size≠w.heap.size/\w2.heap.size≠w.heap.size/\w3.heap.size≠w.heap.size:=⟨UY sz0,UY sz1,UY Nw,UY Kr⟩
 have f0:Bo w4 ⟨w,0,Z⟩=false:=CJ _ _ _ _ _ R4;have z0:E w4 ⟨w,0,Z⟩=I Bl:=AX _ _ _ _ _ _ R4;have f1:Bo w4 ⟨w,1,Z⟩=false:=CJ _ _ _ _ _ R4;have z1:E w4 ⟨w,1,Z⟩=I Bl:=AX _ _ _ _ _ _ R4;have f2:Bo w4 ⟨w,2,Z⟩=false:=CJ _ _ _ _ _ R4;have z2:E w4 ⟨w,2,Z⟩=I Bl:=AX _ _ _ _ _ _ R4;have f3:Bo w4 ⟨w,3,Z⟩=false:=CJ _ _ _ _ _ R4;have z3:E w4 ⟨w,3,Z⟩=I Bl:=AX _ _ _ _ _ _ R4;have f4:Bo w4 ⟨w,4,Z⟩=false:=CJ _ _ _ _ _ R4;have z4:E w4 ⟨w,4,Z⟩=I Bl:=AX _ _ _ _ _ _ R4;have f5:Bo w4 ⟨w,5,Z⟩=false:=CJ _ _ _ _ _ R4;have z5:E w4 ⟨w,5,Z⟩=I Bl:=AX _ _ _ _ _ _ R4;have f6:Bo w4 ⟨w,6,Z⟩=false:=CJ _ _ _ _ _ R4;have z6:E w4 ⟨w,6,Z⟩=I Bl:=AX _ _ _ _ _ _ R4;have f7:Bo w4 ⟨w,7,Z⟩=false:=CJ _ _ _ _ _ R4;have z7:E w4 ⟨w,7,Z⟩=I Bl:=AX _ _ _ _ _ _ R4;go_wp2_with fail;obtain⟨s1,s2,s3⟩:=Agn (x:=w) Bl (MU w0) (MU w1) (MU w2) (.func (.func 252) #[] #[]) (.func (.func 251) #[] #[]) (MU w3) (.func (.func 253) #[] #[]) R4;have n0:=sz.1;have n1:=sz.2.1;have n2:=sz.2.2.1;have n3:=sz.2.2.2;unfold MU at s1 s2 s3;refine qti ?_;refine De (v:= Ba #[Bl,.func (.func 245) #[] #[AI (I ⟨w0,0,Z⟩)],.func (.func 245) #[] #[AI (I ⟨w1,0,Z⟩)],.func (.func 245) #[] #[AI (I ⟨w2,0,Z⟩)],.func (.func 252) #[] #[],.func (.func 251) #[] #[],.func (.func 245) #[] #[AI (I ⟨w3,0,Z⟩)],.func (.func 253) #[] #[]]) ?_ Q ⟨w0,w1,w2,w3,rfl,⟨(s2 _ n0).trans B1,(s2 _ n1).trans B2,(s2 _ n2).trans B3,(s2 _ n3).trans B4⟩,s3 _ q4 (Bg _)⟩;exact WX Q _ _ w _ _ _ _ Q s1 underlying312 Q Ago
end Go.Proofs.YtjpidgffdkjjeaaGreat
