/- Contracts and plain laws. No condition. -/
import Derived.Test.YtjpidgffdkjjeaaGreatCA
import Derived.Test.YtjpidgffdkjjeaaGreatC05
import Derived.Test.YtjpidgffdkjjeaaGreatC07
import Derived.Test.YtjpidgffdkjjeaaGreatC10
set_option linter.all false
set_option maxHeartbeats 16000000
namespace Go.Proofs.YtjpidgffdkjjeaaGreat
open Go.Proofs.Tryz
open Go.Proofs.Tryz renaming prog->AE
open List renaming length->Y
open Go.World renaming cell?->E,setCell->Ai,alloc->Ao,frozen?->Bo
open Go.Value renaming int->U,slice->R,pointer->AI,agg->Ba,tuple->Be,nilFunc->Bl,bool->Av
open Go.IntKind renaming i64->O,u64->AA,u32->BF,u8->Cd
open Option renaming none->Z,some->I
open Go.Ending renaming returned->AN
open Go.Obj renaming cells->N
open Go renaming World->V,Value->An,Calls->AL,Addr->AS
open Go.RowKit renaming Below->Ag,Hid->Aj
set_option maxRecDepth 100000
open Go.RowKit
section
variable{b:Nat}{w:V}
structure Gn where
 a0:Int
 h0:Int
 x0:Int
 a1:Int
 h1:Int
 x1:Int
 a2:Int
 h2:Int
 x2:Int
instance:CoeOut Gn (Array An):=⟨fun z=>#[U O z.a0,U O z.h0,U O z.x0,U O z.a1,U O z.h1,U O z.x1,U O z.a2,U O z.h2,U O z.x2]⟩
def Gn.val(g:Gn):An:= Ba g
def GG(a h x:Int):Prop:=0<=x/\x<=h/\h<=a/\a<=4096
instance (a h x:Int):Decidable (GG a h x):=by unfold GG;infer_instance
def ZR(g:Gn):Nat->Prop
 | 0=>True
 | 1=>GG g.a0 g.h0 g.x0
 | 2=>GG g.a0 g.h0 g.x0/\GG g.a1 g.h1 g.x1
 | _=>GG g.a0 g.h0 g.x0/\GG g.a1 g.h1 g.x1/\GG g.a2 g.h2 g.x2
def ZS(g:Gn):Nat->Prop
 | 0=>True
 | 1=>g.a0≠0
 | 2=>g.a0≠0/\g.a1≠0
 | _=>g.a0≠0/\g.a1≠0/\g.a2≠0
def Dw(o:Bw)(g:Gn):Int:=if Ks o≠0 then Ks o else if¬(GG g.a0 g.h0 g.x0/\GG g.a1 g.h1 g.x1/\GG g.a2 g.h2 g.x2)then 2 else if¬(g.a0≠0/\g.a1≠0/\g.a2≠0)then 9 else 0
theorem eG{a h x:Int}(h0:¬GG a h x):x<0\/(¬x<0/\h<x)\/(¬x<0/\¬h<x/\a<h)\/(¬x<0/\¬h<x/\¬a<h/\4096<a):=by
 grind [GG]
@[go_sem] theorem Ajg (b0 b1 b2 b3 b4 b5 b6 b7 b8:An) (w:V):(Instr.index 375 (Ba #[b0,b1,b2,b3,b4,b5,b6,b7,b8]) (U O 0)).run AE w=.ok (Ba #[b0,b1,b2]) w:=AG
@[go_sem] theorem Ajh (b0 b1 b2 b3 b4 b5 b6 b7 b8:An) (w:V):(Instr.index 375 (Ba #[b0,b1,b2,b3,b4,b5,b6,b7,b8]) (U O 1)).run AE w=.ok (Ba #[b3,b4,b5]) w:=AG
@[go_sem] theorem Aji (b0 b1 b2 b3 b4 b5 b6 b7 b8:An) (w:V):(Instr.index 375 (Ba #[b0,b1,b2,b3,b4,b5,b6,b7,b8]) (U O 2)).run AE w=.ok (Ba #[b6,b7,b8]) w:=AG
def FQ(w:V)(b:Nat)(g:Gn):Prop:=w.heap[b]?=I (N g 375 (0,0))
def FQ.on{w':V}{g:Gn}(h:FQ w b g)(hb:Ag w w w'):FQ w' b g:=
 (hb.block b (Bm.1 h).1).trans h
def FQ.y0{g:Gn}(h:FQ w b g):E w ⟨b,0,Z⟩=I (U O g.a0):=AX w b 0 _ _ _ h
def FQ.y1{g:Gn}(h:FQ w b g):E w ⟨b,1,Z⟩=I (U O g.h0):=AX w b 1 _ _ _ h
def FQ.y2{g:Gn}(h:FQ w b g):E w ⟨b,2,Z⟩=I (U O g.x0):=AX w b 2 _ _ _ h
def FQ.y3{g:Gn}(h:FQ w b g):E w ⟨b,3,Z⟩=I (U O g.a1):=AX w b 3 _ _ _ h
def FQ.y4{g:Gn}(h:FQ w b g):E w ⟨b,4,Z⟩=I (U O g.h1):=AX w b 4 _ _ _ h
def FQ.y5{g:Gn}(h:FQ w b g):E w ⟨b,5,Z⟩=I (U O g.x1):=AX w b 5 _ _ _ h
def FQ.y6{g:Gn}(h:FQ w b g):E w ⟨b,6,Z⟩=I (U O g.a2):=AX w b 6 _ _ _ h
def FQ.y7{g:Gn}(h:FQ w b g):E w ⟨b,7,Z⟩=I (U O g.h2):=AX w b 7 _ _ _ h
def FQ.y8{g:Gn}(h:FQ w b g):E w ⟨b,8,Z⟩=I (U O g.x2):=AX w b 8 _ _ _ h
def lB(o:Bw)(g:Gn)(w:V):AL AE 309 #[o.val,g.val] w fun e w'=>e=AN (U O (Dw o g))/\Ag w w w':=by
 have hb0:=AB (AB (Ae w w) (N o 54)) (N g 375);have cK:=fun w'=>lz o w'
 have Gp:CC (Ao (Ao w (N o 54)) (N g 375)) w o:=Uq w _ _;have IG:FQ (Ao (Ao w (N o 54)) (N g 375)) (w.heap.size+1) g:=Ur w _ _;unfold Bw.val Bw.cs at*;unfold Gn.val;obtain⟨AM,hE⟩:=Az (Ks o);have gE:Dw o g=if AM≠0 then AM else if¬(GG g.a0 g.h0 g.x0/\GG g.a1 g.h1 g.x1/\GG g.a2 g.h2 g.x2)then 2 else if¬(g.a0≠0/\g.a1≠0/\g.a2≠0)then 9 else 0:=by rw[<-hE];rfl
 rw[hE]at cK;have GE:=F gE;clear hE gE;have Ci:=F Gp;have G5:=F IG;clear Gp IG;go_in;go_upto_region 1 with fail;obtain⟨W,hW⟩:=Az (Ao (Ao w (N o 54)) (N g 375));rw[hW]at hb0 Ci G5 ⊢;clear hW;go_wp2_with(refine qlr 54 Ci underlying54 ?_);refine gqz (cK _) fun w2 hb2=>?_;have q2:=AH hb0 hb2;have Gt2:=F (G5.out.on hb2);by_cases hE0:AM=0
 ·subst hE0
  go_wp2_with(refine qlr 375 Gt2 underlying375 ?_);go_loopw [16] (fun iv wr=>∃k:Nat,k<=3/\iv=U O k/\Aj (ZR g k)/\Ag w2 w2 wr) (fun iv _=>3-(intOf iv).toNat);exact⟨0,J,rfl,F trivial,Ae _ _⟩
  obtain⟨k,hk,rfl,OF,hbr⟩:=hrel;obtain⟨w6,rfl⟩:=qgn wr;have q6:=AH q2 hbr;rcases(show k=0\/k=1\/k=2\/k=3 by omega)with rfl | rfl | rfl | rfl
  ·have Fe:=AB hbr (N #[U O g.a0,U O g.h0,U O g.x0] 374)
   have qn:=AB q6 (N #[U O g.a0,U O g.h0,U O g.x0] 374);simp only[show((0:Nat):Int)=0 from rfl];by_cases BI:GG g.a0 g.h0 g.x0
   ·have nx:Aj (ZR g (0+1)):=F ((fun h=>h) BI)
    obtain⟨e1,e2,e3,e4⟩:=BI;go_wp2_with fail;exact⟨⟨0+1,J,Q,nx,Fe⟩,by simp[intOf]⟩
   ·have E2:Aj (Dw o g=2):=F (by rw[GE.out,AU AO,Bd (fun h=>BI h.1)])
    rcases eG BI with h1 | ⟨h1,h2⟩ | ⟨h1,h2,h3⟩ | ⟨h1,h2,h3,h4⟩
    all_goals(
     clear BI;go_wp2;go_ret;exact⟨Cg E2.out.symm,qn⟩)
  ·have Fe:=AB hbr (N #[U O g.a1,U O g.h1,U O g.x1] 374)
   have qn:=AB q6 (N #[U O g.a1,U O g.h1,U O g.x1] 374);simp only[show((1:Nat):Int)=1 from rfl];by_cases BI:GG g.a1 g.h1 g.x1
   ·have nx:Aj (ZR g (1+1)):=F ((fun h=>⟨OF.out,h⟩) BI)
    obtain⟨e1,e2,e3,e4⟩:=BI;go_wp2_with fail;exact⟨⟨1+1,J,Q,nx,Fe⟩,by simp[intOf]⟩
   ·have E2:Aj (Dw o g=2):=F (by rw[GE.out,AU AO,Bd (fun h=>BI h.2.1)])
    rcases eG BI with h1 | ⟨h1,h2⟩ | ⟨h1,h2,h3⟩ | ⟨h1,h2,h3,h4⟩
    all_goals(
     clear BI;go_wp2;go_ret;exact⟨Cg E2.out.symm,qn⟩)
  ·have Fe:=AB hbr (N #[U O g.a2,U O g.h2,U O g.x2] 374)
   have qn:=AB q6 (N #[U O g.a2,U O g.h2,U O g.x2] 374);simp only[show((2:Nat):Int)=2 from rfl];by_cases BI:GG g.a2 g.h2 g.x2
   ·have nx:Aj (ZR g (2+1)):=F ((fun h=>⟨OF.out.1,OF.out.2,h⟩) BI)
    obtain⟨e1,e2,e3,e4⟩:=BI;go_wp2_with fail;exact⟨⟨2+1,J,Q,nx,Fe⟩,by simp[intOf]⟩
   ·have E2:Aj (Dw o g=2):=F (by rw[GE.out,AU AO,Bd (fun h=>BI h.2.2)])
    rcases eG BI with h1 | ⟨h1,h2⟩ | ⟨h1,h2,h3⟩ | ⟨h1,h2,h3,h4⟩
    all_goals(
     clear BI;go_wp2;go_ret;exact⟨Cg E2.out.symm,qn⟩)
  ·have Gt6:=F (Gt2.out.on hbr)
   have HA:Aj (GG g.a0 g.h0 g.x0/\GG g.a1 g.h1 g.x1/\GG g.a2 g.h2 g.x2):=OF;simp only[show((3:Nat):Int)=3 from rfl];go_wp2_with(refine qlr 375 Gt6 underlying375 ?_);go_loopw [43] (fun iv wr=>∃k:Nat,k<=3/\iv=U O k/\Aj (ZS g k)/\Ag w6 w6 wr) (fun iv _=>3-(intOf iv).toNat);exact⟨0,J,rfl,F trivial,Ae _ _⟩
   obtain⟨k,hk,rfl,hso,FR⟩:=hrel;obtain⟨w8,rfl⟩:=qgn wr;have q8:=AH q6 FR;rcases(show k=0\/k=1\/k=2\/k=3 by omega)with rfl | rfl | rfl | rfl
   ·have Fe:=AB FR (N #[U O g.a0,U O g.h0,U O g.x0] 374)
    have qn:=AB q8 (N #[U O g.a0,U O g.h0,U O g.x0] 374);simp only[show((0:Nat):Int)=0 from rfl];by_cases hz:g.a0=0
    ·have E9:Aj (Dw o g=9):=F (by rw[GE.out,AU AO,AU (by simp[HA.out]),Bd (fun h=>h.1 hz)])
     have hzb:(g.a0 == 0)=true:=qsu hz;clear hz;go_wp2;go_ret;exact⟨Cg E9.out.symm,qn⟩
    ·have nx:Aj (ZS g (0+1)):=F ((fun h=>h) hz)
     have hzb:(g.a0 == 0)=false:=qsu hz;clear hz;go_wp2_with fail;exact⟨⟨0+1,J,Q,nx,Fe⟩,by simp[intOf]⟩
   ·have Fe:=AB FR (N #[U O g.a1,U O g.h1,U O g.x1] 374)
    have qn:=AB q8 (N #[U O g.a1,U O g.h1,U O g.x1] 374);simp only[show((1:Nat):Int)=1 from rfl];by_cases hz:g.a1=0
    ·have E9:Aj (Dw o g=9):=F (by rw[GE.out,AU AO,AU (by simp[HA.out]),Bd (fun h=>h.2.1 hz)])
     have hzb:(g.a1 == 0)=true:=qsu hz;clear hz;go_wp2;go_ret;exact⟨Cg E9.out.symm,qn⟩
    ·have nx:Aj (ZS g (1+1)):=F ((fun h=>⟨hso.out,h⟩) hz)
     have hzb:(g.a1 == 0)=false:=qsu hz;clear hz;go_wp2_with fail;exact⟨⟨1+1,J,Q,nx,Fe⟩,by simp[intOf]⟩
   ·have Fe:=AB FR (N #[U O g.a2,U O g.h2,U O g.x2] 374)
    have qn:=AB q8 (N #[U O g.a2,U O g.h2,U O g.x2] 374);simp only[show((2:Nat):Int)=2 from rfl];by_cases hz:g.a2=0
    ·have E9:Aj (Dw o g=9):=F (by rw[GE.out,AU AO,AU (by simp[HA.out]),Bd (fun h=>h.2.2 hz)])
     have hzb:(g.a2 == 0)=true:=qsu hz;clear hz;go_wp2;go_ret;exact⟨Cg E9.out.symm,qn⟩
    ·have nx:Aj (ZS g (2+1)):=F ((fun h=>⟨hso.out.1,hso.out.2,h⟩) hz)
     have hzb:(g.a2 == 0)=false:=qsu hz;clear hz;go_wp2_with fail;exact⟨⟨2+1,J,Q,nx,Fe⟩,by simp[intOf]⟩
   ·have E0:Aj (Dw o g=0):=F (by rw[GE.out,AU AO,AU (by simp[HA.out]),AU (fun hn=>hn hso)])
    simp only[show((3:Nat):Int)=3 from rfl];go_wp2;go_ret;exact⟨Cg E0.out.symm,q8⟩
 ·have E1:Aj (Dw o g=AM):=F (by rw[GE.out,Bd hE0])
  have hne:(AM != 0)=true:=qrf bne_iff_ne hE0;clear hE0;go_wp2;go_ret;exact⟨Cg E1.out.symm,q2⟩
end
structure Min where
 kind:Nat
 eta:Nat
 dark:Nat
 photons:Nat
 slots:Nat
 head:Nat
 block:Nat
 sample:Nat
 passes:Nat
 size:Nat
 width:Nat
 margin:Nat
 eps:Nat
 limit:Nat
 tries:Nat
 loss:Nat
 noise:Nat
 resend:Nat
 seed:Nat
 light:Nat
instance:CoeOut Min (Array An):=⟨fun z=>#[U Cd z.kind,U Cd z.eta,U Cd z.dark,U Cd z.photons,U Cd z.slots,U Cd z.head,U Cd z.block,U Cd z.sample,U Cd z.passes,U Cd z.size,U Cd z.width,U Cd z.margin,U Cd z.eps,U Cd z.limit,U Cd z.tries,U Cd z.loss,U Cd z.noise,U Cd z.resend,U AA z.seed,U AA z.light]⟩
structure Min.Ok(m:Min):Prop where
 eta:m.eta<256
 dark:m.dark<256
 slots:m.slots<256
 eps:m.eps<256
 resend:m.resend<256
 seed:m.seed<18446744073709551616
 light:m.light<18446744073709551616
def Min.cs(m:Min):Array An:=#[U Cd m.kind,U Cd m.eta,U Cd m.dark,U Cd m.photons,U Cd m.slots,U Cd m.head,U Cd m.block,U Cd m.sample,U Cd m.passes,U Cd m.size,U Cd m.width,U Cd m.margin,U Cd m.eps,U Cd m.limit,U Cd m.tries,U Cd m.loss,U Cd m.noise,U Cd m.resend,U AA m.seed,U AA m.light]
def Min.val(m:Min):An:= Ba m.cs
structure Min.U8(m:Min):Prop where
 kind:m.kind<256
 photons:m.photons<256
 head:m.head<256
 block:m.block<256
 sample:m.sample<256
 passes:m.passes<256
 size:m.size<256
 width:m.width<256
 margin:m.margin<256
 limit:m.limit<256
 tries:m.tries<256
 loss:m.loss<256
 noise:m.noise<256
structure G7 where
 k:Int
 a:Int
 b:Int
 n:Nat
def G7.enc(x:G7):List An:=[U O x.k,U O x.a,U O x.b,.int .u16 (x.n:Int)]
def G7.BY(x:G7):Y x.enc=4:=Q
def wd3(k:Nat):Nat:=if k=0 then 8 else if k=1 then 16 else 32
def Min.W(m:Min):Nat:=wd3 (m.width%3)
def Min.two(m:Min):Int:=((m.photons%100:Nat):Int)
def Min.opt(m:Min):Bw:=
 if m.kind%3=2 then⟨1,20,60,176,256,0,0,0,120,130,6,0,20,196,40,0,256-m.eta,m.dark⟩
 else⟨if m.kind%3=1 then 2 else 0,0,0,256,256,0,0,0,256,0,0,0,0,256-m.two,m.two,0,256-m.eta,m.dark⟩
structure Hlf where
 A:Option AS
 a:Nat
 B:Option AS
 b:Nat
 C:Option AS
 c:Nat
 D:Option AS
 d:Nat
def Min.Dx(m:Min)(f:Hlf):BX:=
 ⟨m.opt,60+(m.slots:Int),((m.head%40:Nat):Int),0,1+((m.block%48:Nat):Int),((m.sample%(1+m.block%48):Nat):Int),⟨f.A,f.a,[1],f.B,f.b,[2+m.eps]⟩,⟨f.C,f.c,[m.limit%5],f.D,f.d,[10]⟩,
  1+((m.passes%3:Nat):Int),1+((m.size%24:Nat):Int),m.light,(m.W:Int),((m.margin%6:Nat):Int),1+((m.tries%5:Nat):Int),m.seed⟩
theorem Min.wd(m:Min):m.W=8\/m.W=16\/m.W=32:=by
 unfold Min.W wd3
 grind
theorem Min.lF{m:Min}(h:m.Ok):FG m.opt=0:=by
 have h1:=h.eta;have h2:=h.dark
 have e:Jh m.opt=true:=by
  unfold Min.opt;split
  ·simp[Jh,Nk,Rd,Nj,DP,FP,WM]
   omega
  ·have h3:m.two<100/\0<=m.two:=by grind [Min.two]
   split
   all_goals(
    simp[Jh,Nk,Rd,Nj,DP,FP,WM];omega)
 unfold FG
 grind
theorem Min.ye{m:Min}(h:m.Ok)(hk:m.opt.k=1):Ks m.opt=0:=by
 grind [Ks,Min.opt,Min.lF]
theorem Min.yg(m:Min)(f:Hlf):Uv (m.Dx f)=true:=by
 have e1:Cq [(m.Dx f).lim]=0:=by
  unfold Cq;simp[Min.Dx,BA.LY,BA.QX,Oz]
 have e2:Cq [(m.Dx f).eps]=0:=by
  unfold Cq;simp[Min.Dx,BA.LY,BA.QX,Oz]
 grind [Uv,Min.Dx,Cq,Oz]
theorem Min.yh{m:Min}(h:m.Ok)(f:Hlf):Kt (m.Dx f)=0:=by
 have h1:Rg (m.Dx f)=true:=by
  grind [Rg,Min.Dx,Min.lF,Min.ye]
 have h2:TD (m.Dx f)=true:=by
  have hs:=h.slots;have h3:m.sample%(1+m.block%48)<1+m.block%48:=IB _ J;unfold TD Min.Dx
  grind [AR,Min.opt,Min.W,Rg,Min.Dx]
 have h3:TF (m.Dx f)=true:=by
  have hw:Rf (m.W:Int)=true:=by rcases m.wd with e | e | e <;> rw[e] <;> rfl
  unfold TF Uu Min.Dx;simp only[hw];simp[AR];omega
 unfold Kt TG;rw[Bd (by rw[h1,h2,h3,m.yg f];rfl)]
def Min.rules(m:Min):List C5:=[⟨1,0,0,((m.loss%128:Nat):Int),0⟩,⟨2,0,0,((m.noise%64:Nat):Int),0⟩]++ if 127<m.resend then[⟨4,0,511,2*((m.resend:Int)-127),0⟩]else[]
theorem Min.yi{m:Min}(h:m.Ok):LZ m.rules=0/\m.rules.all DU=true/\Y m.rules<=32:=by
 have hr:=h.resend;have h1:Y m.rules<=32:=by grind [Min.rules]
 have h2:m.rules.all DU=true:=by
  unfold Min.rules;split
  ·simp only[List.cons_append,List.nil_append,List.all_cons,List.all_nil,Bool.and_true,Bool.and_eq_true]
   refine⟨?_,?_,?_⟩
   ·simp[DU,FP];omega
   ·simp[DU,FP];omega
   ·simp[DU,FP,WO];omega
  ·simp only[List.append_nil,List.all_cons,List.all_nil,Bool.and_true,Bool.and_eq_true]
   refine⟨?_,?_⟩
   ·simp[DU,FP];omega
   ·simp[DU,FP];omega
 have h3:PW m.rules<=1:=by
  grind [PW,Min.rules,DU]
 grind [LZ,Min.rules,DU,PW]
open Go.Maps
section
variable{base lo z:Nat}{it:It}{row:Option Nat}{t:TypeId}{u v':An}{w:V}{β:Type}
def gN(c:Cas)(hc:c.Ok)(w:V):AL AE 274 #[Ba c,U O c.n] w fun e w'=>e=AN (U O 0)/\Ag w w w':=by
 have cK:∀w,AL AE 162 #[Ba c] w fun e w'=>e=AN (U O 0)/\Ag w w w':=fun w=>by
  have h1:=hc.P;have h2:=hc.K;go_in;go_wp2
  all_goals(go_ret;exact⟨Cg J,AB (Ae _ _) _⟩)
 have b1:=AB (Ae w w) (N c 60);have c1:=cK (Ao w (N c 60));have hn:=hc.n;clear hc cK;go_in;go_wp2_with(go_at_call 162;refine gqz c1 fun w2 hb2=>?_);go_ret;exact⟨Q,b1.trans (hb2.mono b1.size)⟩
theorem NK(x:V)(b o:Nat)(v:An):x.grownBy (x.setCell ⟨b,o,Z⟩ v) (I b):=
 ⟨(Ae 0 x |>.setCell (BM _) v).os,(Ae 0 x |>.setCell (BM _) v).tape,(Ae 0 x |>.setCell (BM _) v).output,(Ae 0 x |>.setCell (BM _) v).size,fun j _ hn=>Fd x _ _ j (by grind)⟩
structure OZ{α:Type}(w:V)(lo:Nat)(T e:TypeId)(sz:Nat)(enc:α->List An)(v:An)(items:List It)(L:List (List α)):Prop where
 len:Y items=Y L
 own:Own w lo T 1 (fun x=>[It.enc x]) v items
 row:∀(k:Nat) (it:It) (l:List α),items[k]?=I it->L[k]?=I l->Own w lo e sz enc it.enc l
def AbD(w:V)(T e:TypeId)(row:Option Nat):Prop:=∀k,row=I k->∀cs,w.heap[k]?≠I (N cs T (0,0))/\w.heap[k]?≠I (N cs e (0,0))
section
variable {α:Type} {w w':V} {lo:Nat} {T e:TypeId} {sz:Nat} {enc:α→List An} {v v':An} {items:List It} {L:List (List α)}
theorem UP{ec:β->List An}{l:List β}(h:Own w base t z ec u l)(hg:w.grownBy w' row)(hr:∀k,row=I k->∀cs,w.heap[k]?≠I (N cs t (0,0))):Own w' base t z ec u l:=h.keep hg (by
 cases hv:u.ownBlock with
 | none=>grind
 | some x=>
  grind [Own,Qr])
def OZ.grown(h:OZ w lo T e sz enc v items L)(hg:w.grownBy w' row)(hr:AbD w T e row):OZ w' lo T e sz enc v items L:=
 ⟨h.len,UP h.own hg (fun k hk cs=>(hr k hk cs).1),fun k it l h1 h2=>UP (h.row k it l h1 h2) hg (fun k hk cs=>(hr k hk cs).2)⟩
def OZ.below(h:OZ w lo T e sz enc v items L)(hb:Ag w w w'):OZ w' lo T e sz enc v items L:=h.grown (Db hb) (fun k hk=>by cases hk)
theorem OZ.push(hTe:T≠e)(h:OZ w lo T e sz enc v items L){l:List α}(hg:w.grownBy w' v.ownBlock)(ho:Own w' lo T 1 (fun x=>[It.enc x]) v' (items++ [it]))(hr:Own w lo e sz enc it.enc l):OZ w' lo T e sz enc v' (items++ [it]) (L++ [l]):=by
 have off:∀k,v.ownBlock=I k->∀cs,w.heap[k]?≠I (N cs e (0,0)):=fun k hk cs hc=>by
  obtain⟨Mw,h2⟩:=Qr h.own hk
  grind
 refine⟨by simp[h.len],ho,fun k x l' h1 h2=>?_⟩;rcases D4 k (Y items)with hk | hk
 ·rw[Xe hk]at h1
  rw[Xe (by rw[<-h.len];exact hk)]at h2;exact UP (h.row k x l' h1 h2) hg off
 ·have:=(EF.1 h1).1
  simp at this;obtain rfl:k=Y items:=J;rw[XN (Bg _),Lc]at h1;rw[XN (by rw[h.len];omega),h.len,Lc]at h2
  grind [Own,It.enc,UP]
def Own.lift{b b':Nat}{ec:β->List An}{l:List β}(h:Own w b t z ec u l)(hb:b'<=b):Own w b' t z ec u l:=RH h hb
end
def VS(c:Cas)(ov kv bv:An)(mb:Nat):Array An:=#[Av true,U O c.P,U O c.K,U AA c.sd,ov,kv,bv,.map (I mb),R Z 0 0,
 U O 0,Av false,U O 0,U O 0,Av false,U O 0,U O 0,U O 0,Av false,U O 0,U O 0,U O 0,Av false]
def Cas.UQ(c:Cas)(p:Nat):List (List Int):=(List.range p).map c.ord
def Cas.UR(c:Cas)(p:Nat):List (List Ca):=(List.range p).map c.blk
def Cas.AbE(c:Cas)(p:Nat):c.UQ (p+1)=c.UQ p++ [c.ord p]:=by simp[Cas.UQ,List.range_succ]
def Cas.AbF(c:Cas)(p:Nat):c.UR (p+1)=c.UR p++ [c.blk p]:=by simp[Cas.UR,List.range_succ]
structure IL(w:V)(c:Cas)(b:List Bool)(base lo g mb:Nat)(bv ov kv:An)(io ik:List It)(p q:Nat):Prop where
 row:w.heap[g]?=I (N (VS c ov kv bv mb) 247 (0,0))
 bits:Own w 0 4 1 C4 bv b
 kn:FX w mb []
 ord:OZ w lo 37 3 1 BD ov io (c.UQ p)
 blk:OZ w lo 381 245 3 Ca.enc kv ik (c.UR q)
 lg:base<=g/\g<lo
 lm:base<=mb/\mb<lo
 lb:∀k,bv.ownBlock=I k->base<=k/\k<lo
 hi:lo<=↑w
section
variable {w w':V} {c:Cas} {b:List Bool} {base lo g mb:Nat} {bv ov kv:An} {io ik:List It} {p q:Nat}
def IL.on(h:IL w c b base lo g mb bv ov kv io ik p q)(hb:Ag w w w'):IL w' c b base lo g mb bv ov kv io ik p q:=
 ⟨(hb.block g (Bm.1 h.row).1).trans h.row,h.bits.below hb,h.kn.kept (Db hb) AO,h.ord.below hb,h.blk.below hb,h.lg,h.lm,h.lb,Br h.hi hb.size⟩
def IL.start(hrow:w.heap[g]?=I (N (VS c (R Z 0 0) (R Z 0 0) bv mb) 247 (0,0)))(hb:Own w base 4 1 C4 bv b)(kn:FX w mb [])(h1:base<=g)(h2:base<=mb):IL w c b base w g mb bv (R Z 0 0) (R Z 0 0) [] [] 0 0:=
 ⟨hrow,RH hb (BM _),kn,⟨rfl,Own.nil,fun k it l h=>by simp at h⟩,⟨rfl,Own.nil,fun k it l h=>by simp at h⟩,⟨h1,(Bm.1 hrow).1⟩,⟨h2,kn.lt⟩,fun k hk=>Cp hb k hk,Bg _⟩
theorem IL.AbG(h:IL w c b base lo g mb bv ov kv io ik p q)(hr:Own w lo 3 1 BD it.enc (c.ord p))(hg:w.grownBy w' ov.ownBlock)(ho:Own w' lo 37 1 (fun x=>[It.enc x]) v' (io++ [it])):
  w'.heap[g]?=I (N (VS c ov kv bv mb) 247 (0,0))/\IL (Ai w' ⟨g,4,Z⟩ v') c b base lo g mb bv v' kv (io++ [it]) ik (p+1) q:=by
 have types:∀t,t≠37->∀k,ov.ownBlock=I k->∀cs,w.heap[k]?≠I (N cs t (0,0)):=fun t ht k hk cs hc=>by
  obtain⟨Mw,h2⟩:=Qr h.ord.own hk
  grind
 have gne:I g≠ov.ownBlock:=fun e=>types 247 AC g e.symm _ h.row
 have hrow:=(hg.block g (Bm.1 h.row).1 gne).trans h.row
 have mne:I mb≠ov.ownBlock:=fun e=>by
  obtain⟨Mw,h2⟩:=Qr h.ord.own e.symm;obtain⟨D,hD⟩:=h.kn;obtain⟨es,clock,Ez,_⟩:=hD.own
  grind
 have G:w'.grownBy (Ai w' ⟨g,4,Z⟩ v') (I g):=NK _ _ _ _
 have tg:∀t,t≠247->∀k,I g=I k->∀cs,w'.heap[k]?≠I (N cs t (0,0)):=fun t ht k hk cs hc=>by
  grind
 have kn1:=h.kn.kept hg mne
 have ngm:I mb≠I g:=fun e=>by
  cases e;obtain⟨D,hD⟩:=kn1;obtain⟨es,clock,Ez,_⟩:=hD.own
  grind
 refine⟨hrow,?_,UP (UP h.bits hg (types _ AC)) G (tg _ AC),kn1.kept G ngm,?_,?_,h.lg,h.lm,h.lb,Br h.hi (Br hg.size G.size)⟩
 ·exact CM w' g 4 _ _ v' hrow
 ·rw[c.AbE]
  exact(h.ord.push AC hg ho hr).grown G (fun k hk cs=>⟨tg _ AC k hk cs,tg _ AC k hk cs⟩)
 ·exact(h.blk.grown hg (fun k hk cs=>⟨types _ AC k hk cs,types _ AC k hk cs⟩)).grown G (fun k hk cs=>⟨tg _ AC k hk cs,tg _ AC k hk cs⟩)
theorem IL.pushB(h:IL w c b base lo g mb bv ov kv io ik p q)(hr:Own w lo 245 3 Ca.enc it.enc (c.blk q))(hg:w.grownBy w' kv.ownBlock)(ho:Own w' lo 381 1 (fun x=>[It.enc x]) v' (ik++ [it])):
  w'.heap[g]?=I (N (VS c ov kv bv mb) 247 (0,0))/\IL (Ai w' ⟨g,5,Z⟩ v') c b base lo g mb bv ov v' io (ik++ [it]) p (q+1):=by
 have types:∀t,t≠381->∀k,kv.ownBlock=I k->∀cs,w.heap[k]?≠I (N cs t (0,0)):=fun t ht k hk cs hc=>by
  obtain⟨Mw,h2⟩:=Qr h.blk.own hk
  grind
 have gne:I g≠kv.ownBlock:=fun e=>types 247 AC g e.symm _ h.row
 have hrow:=(hg.block g (Bm.1 h.row).1 gne).trans h.row
 have mne:I mb≠kv.ownBlock:=fun e=>by
  obtain⟨Mw,h2⟩:=Qr h.blk.own e.symm;obtain⟨D,hD⟩:=h.kn;obtain⟨es,clock,Ez,_⟩:=hD.own
  grind
 have G:w'.grownBy (Ai w' ⟨g,5,Z⟩ v') (I g):=NK _ _ _ _
 have tg:∀t,t≠247->∀k,I g=I k->∀cs,w'.heap[k]?≠I (N cs t (0,0)):=fun t ht k hk cs hc=>by
  grind
 have kn1:=h.kn.kept hg mne
 have ngm:I mb≠I g:=fun e=>by
  cases e;obtain⟨D,hD⟩:=kn1;obtain⟨es,clock,Ez,_⟩:=hD.own
  grind
 refine⟨hrow,?_,UP (UP h.bits hg (types _ AC)) G (tg _ AC),kn1.kept G ngm,?_,?_,h.lg,h.lm,h.lb,Br h.hi (Br hg.size G.size)⟩
 ·exact CM w' g 5 _ _ v' hrow
 ·exact(h.ord.grown hg (fun k hk cs=>⟨types _ AC k hk cs,types _ AC k hk cs⟩)).grown G (fun k hk cs=>⟨tg _ AC k hk cs,tg _ AC k hk cs⟩)
 ·rw[c.AbF]
  exact(h.blk.push AC hg ho hr).grown G (fun k hk cs=>⟨tg _ AC k hk cs,tg _ AC k hk cs⟩)
end
theorem OZ.rows{α:Type}{T e:TypeId}{sz:Nat}{enc:α->List An}{v:An}{items:List It}{L:List (List α)}(h:OZ w lo T e sz enc v items L)(hL:0<Y L)(hs:∀x,(enc x).length=sz):
  ∃ob oc,v=R (I ⟨ob,0,Z⟩) (Y L) oc/\lo<=ob/\ob<↑w/\Y L<=oc/\oc<=maxLen/\∀p l,L[p]?=I l->∃A k,E w ⟨ob,p,Z⟩=I (R A (Y l) k)/\Y l<=k/\k<=maxLen/\Rw sz enc w lo w A l:=by
 have hlen:=h.len;obtain⟨A,c,hv,lc,mc,_,ar⟩:=h.own.form (fun _=>rfl);have hv2:=h.own.2;rcases hv2 with⟨_,h0⟩ | ⟨g,cap,cur,hv3,hb,hg,_⟩
 ·omega
 rw[hv]at hv3;obtain⟨rfl,_,rfl⟩:A=I ⟨g,0,Z⟩/\Y items=Y items/\c=cap:=by grind
 rw[hlen]at hv lc;refine⟨g,c,hv,hb,(Bm.1 hg).1,lc,mc,fun p l hl=>?_⟩;have hp:p<Y items:=by grind
 obtain⟨g2,off,e2,_,hc⟩:=ar (by grind);cases e2;have hit:=CH hp;obtain⟨A3,c3,hv3,l3,m3,_,Mq⟩:=(h.row p _ l hit hl).form hs;have hcell:=hc p _ hit 0 _ Q;rw[hv3]at hcell;refine⟨A3,c3,by grind,l3,m3,fun hne=>?_⟩;obtain⟨g4,o4,e4,h4,c4⟩:=Mq hne;subst e4;have hlt:=Cp (h.row p _ l hit hl) g4 (by rw[hv3];rfl);exact⟨g4,o4,Q,hlt.1,hlt.2,c4⟩
theorem IL.done{c:Cas}{b:List Bool}{g mb:Nat}{bv ov kv:An}{io ik:List It}(h:IL w c b base lo g mb bv ov kv io ik c.P c.P)(hc:c.Ok):∃M:Mem,M.g=g/\Cj w c (X7 b) M/\(∀k,M.T k->base<=k)/\base<=M.lo:=by
 have hP:=hc.P.1;have e1:(c.UQ c.P).length=c.P:=by simp[Cas.UQ]
 have e2:(c.UR c.P).length=c.P:=by simp[Cas.UR]
 obtain⟨ob,oc,ho,ho1,ho2,ho3,ho4,ho5⟩:=h.ord.rows J DY;obtain⟨kb,kc,hk,GT,hk2,hk3,hk4,hk5⟩:=h.blk.rows J Ca.BY;rw[e1]at ho ho3;rw[e2]at hk hk3;subst ho hk;refine⟨⟨g,lo,w,ob,oc,kb,kc,bv,mb,R Z 0 0⟩,Q,⟨h.row,⟨Bg _,⟨ho1,ho2⟩,⟨GT,hk2⟩,⟨ho3,ho4⟩,⟨hk3,hk4⟩,fun p hp=>?_,fun p hp=>?_⟩,h.bits,Own.nil,h.kn,.inl h.lg.2,.inl h.lm.2,fun k hk=> .inl (h.lb k hk).2,fun k hk=>by cases hk⟩,?_,EO (Do h.lg.1 h.lg.2)⟩
 ·obtain⟨A,k,r1,r2,r3,r4⟩:=ho5 p (c.ord p) (by simp[Cas.UQ,hp])
  rw[c.YA]at r1 r2
  grind
 ·exact hk5 p (c.blk p) (by simp[Cas.UR,hp])
 ·intro k hk
  rcases hk with rfl | hk | rfl | hk
  ·exact h.lg.1
  ·exact(h.lb k hk).1
  ·exact h.lm.1
  ·cases hk
end
def pH:(prog.info? 381).map (fun i=>(i.zero,i.size,i.bytes))=I (I (R Z 0 0),1,24):=AG
def aL(w:V)(A:Option AS)(n k:Nat)(T:TypeId):∀j u,[It.enc ⟨A,n,k⟩][j]?=I u->E (Ao w (N #[R A n k] T)) ⟨w,j,Z⟩=I u:=fun j u hu=>by
 have hcs:(#[Value.slice A n k]:Array An).toList=[It.enc ⟨A,n,k⟩]:=Q;exact Cb (w:=w) (by rw[<-hu,<-hcs];simp)
def AbH(c:Cas)(B:Option AS)(cb:Nat)(b:List Bool)(w:V)(hc:c.Ok)(hb:Y b=c.n)(hB:Arr 1 C4 w w B b)(nB:B=Z->cb=0)(hl:Y b<=cb)(hcb:cb<=maxLen):
  AL AE 231 #[Ba c,R B c.n cb] w fun e w'=>∃M:Mem,e=AN (Be #[AI (I ⟨M.g,0,Z⟩),U O 0])/\Cj w' c (c.new b) M/\Ag w w w'/\(∀k,M.T k->w.heap.size<=k)/\w.heap.size<=M.lo:=by
 have hn:=hc.n;have b1:=AB (Ae w w) (N c 60);have cS:=gN c hc;have x0:E (Ao w (N c 60)) ⟨w,0,Z⟩=I (U O c.P):=Cb Q;have x1:E (Ao w (N c 60)) ⟨w,1,Z⟩=I (U O c.K):=Cb Q;have x2:E (Ao w (N c 60)) ⟨w,2,Z⟩=I (U AA c.sd):=Cb Q;have cC:=qbw w fun w' hx=>Yp B cb b w' (hB.on hx) nB hl hcb J
 rw[hb]at cC;have hmm:=@run_makeMap AE;have Hb:=F hb;go_in;go_upto_region 4 with(go_at_call 274;refine gqz (cS _) fun w2 hb2=>?_)
 have q2:=AH b1 hb2;have L0:=qbc (AK hb2 x0);have L1:=qbc (AK hb2 x1);have L2:=qbc (AK hb2 x2);have c3:=qbw w2 fun w' hx=>cC w' (AH q2 hx)
 clear x0 x1 x2 cC cS hB nB hl hcb hb;go_cut [7] (fun v wx=>∃g mb bv,v=AI (I ⟨g,0,Z⟩)/\IL wx c b w2 wx g mb bv (R Z 0 0) (R Z 0 0) [] [] 0 0/\Ag w2 w2 wx)
 case first=>
  go_region_held3 (fun w'=>Ag w2 w2 w')
   (repeat(first | assumption | (exact(Ae _ _).drew) | (exact(AB (Ae _ _) _).drew) | (refine AH ?_ hx1) | (refine AB ?_ _)))
   (first | (go_at_call 126;refine(c3 _ ?hB).mono ?_;(case hB=>assumption);rintro e y1⟨v1,rfl,o1,hx1⟩;obtain⟨A1,OC,rfl,la1,ma1,na1,ar1⟩:=o1.form Dk))
  ·go_wp2_with fail
   go_meet
   case rel=>
    have s1:=q2.size;have s2:=hx1.size;simp only[World.size_drew]at s2;have s2':w2.heap.size<=w2.drew.heap.size:=AO;have r:=CB (y1.alloc (.map #[] 0)) (N (VS c (R Z 0 0) (R Z 0 0) (R A1 (Y b) OC) y1) 247);rw[World.size_alloc]at r;exact⟨_,_,_,Q,IL.start r (((RH o1 s2').below (AB (Ae _ _) _)).below (AB (Ae _ _) _)) ((FX.new y1).kept (Db (AB (Ae _ _) _)) AO) J J,AB (AB (AH (Ae _ _).drew hx1) _) _⟩
  ·go_wp2_with fail
   go_meet
   case rel=>
    have s1:=q2.size;have s2:=hx1.size;simp only[World.size_drew,World.size_alloc]at s2;exact⟨_,_,_,Q,IL.start (CB _ _) ((RH o1 AO).below (AB (Ae _ _) _)) ((((FX.new w2).kept (Db (Ae _ _).drew) AO).kept (Db hx1) AO).kept (Db (AB (Ae _ _) _)) AO) J J,AB (AH ((AB (Ae _ _) _).drew) hx1) _⟩
 obtain⟨g,mb,bv,rfl,hA,hbC⟩:=hcut;obtain⟨wk,rfl⟩:=qgn wc;have x0:=L0 _ hbC;have x1:=L1 _ hbC;have x2:=L2 _ hbC;have q3:=AH q2 hbC;clear L0 L1 L2 c3 q2 hbC;have Hc:=F hc;have hP:=hc.P;clear hc;obtain⟨s0,hs0⟩:=Az (wk.heap.size);rw[hs0]at hA;have hgw:↑w<g:=by have h1:=hA.lg.1;have h2:=hb2.size;rw[World.size_alloc]at h2;omega
 go_wp2_with fail;go_loopw [24] (fun i wr=>∃p:Nat,∃ov kv io ik,i=U O p/\p<=c.P/\IL wr c b w2 s0 g mb bv ov kv io ik p p/\AT (fun k=>k=g\/s0<=k) wk wr) (fun i _=>c.P-(intOf i).toNat);exact⟨0,_,_,_,_,rfl,BM _,hA,AT.refl _ _⟩
 obtain⟨p,ov,kv,io,ik,rfl,hp,FK,hO⟩:=hrel;rcases D4 p c.P with hlt | D8
 ·have bx:¬(↑w=g\/s0<=↑w):=by have:=(Ch wk _ x0);simp at this;omega
  have y0:=hO.cell x0 bx;have y1:=hO.cell x1 bx;have y2:=hO.cell x2 bx;have z4:E wr ⟨g,4,Z⟩=I ov:=AX _ _ _ _ _ _ FK.row;obtain⟨A4,c4,hv4,l4,m4,n4,Qn⟩:=FK.ord.own.form (fun _=>rfl);have hlen:Y io=p:=by rw[FK.ord.len];simp[Cas.UQ]
  have hpl:p<c.P:=hlt;have SX:Aj (∀w',AT (fun k=>k=g\/s0<=k) wr.drew w'->E w' ⟨w,0,Z⟩=I (U O c.P)/\E w' ⟨w,1,Z⟩=I (U O c.K)/\E w' ⟨w,2,Z⟩=I (U AA c.sd)):=F (fun w' ho=>⟨ho.cell y0 bx,ho.cell y1 bx,ho.cell y2 bx⟩);have cO:=fun w'=>pk c p w' Hc hlt
  have HA2:=F FK;have hsz:=FK.hi;have HO:=F hO;rw[hv4]at z4;rw[hlen]at z4 hv4;have JP:Own wr s0 37 1 (fun x=>[It.enc x]) (R A4 p c4) io:=hv4▸FK.ord.own;have LV:Aj (∀k,(Value.slice A4 p c4).ownBlock=I k->s0<=k):=F (fun k hk=>(Cp JP k hk).1);have OWd:Aj (∀w',Ag wr.drew.heap.size wr.drew w'->Own w' s0 37 1 (fun x=>[It.enc x]) (R A4 p c4) io):=F (fun w' hb=>(JP.below (Ae _ _).drew).below hb)
  have PUd:Aj (∀w5,Ag wr.drew.heap.size wr.drew w5->∀A5 EY,Own w5 wr.drew.heap.size 3 1 BD (R A5 (c.ord p).length EY) (c.ord p)->∀Bs v10,(Ao w5 (N #[R A5 (c.ord p).length EY] 37)).grownBy Bs (Value.slice A4 p c4).ownBlock->Own Bs s0 37 1 (fun x=>[It.enc x]) v10 (io++ [⟨A5,(c.ord p).length,EY⟩])->
    (Bs.heap[g]?=I (N (VS c (R A4 p c4) kv bv mb) 247 (0,0))/\IL (Bs.setCell ⟨g,4,Z⟩ v10) c b w2 s0 g mb bv v10 kv (io++ [⟨A5,(c.ord p).length,EY⟩]) ik (p+1) p)/\AT (fun k=>k=g\/s0<=k) wr.drew Bs):=F (fun w5 Bh A5 EY Ed Bs v10 FI DX=>by
   have h5:=((FK.on (Ae _ _).drew).on Bh).on (AB (Ae _ _) (N #[R A5 (c.ord p).length EY] 37));rw[hv4]at h5;exact⟨h5.AbG (it:=⟨A5,(c.ord p).length,EY⟩) ((RH Ed (Br FK.hi AO)).below (AB (Ae _ _) _)) FI DX,((AT.of Bh).trans (AT.of (AB (Ae _ _) _))).trans (AT.grown FI (fun k hk=> .inl (.inr (LV.out k hk))))⟩)
  have hip:(Y io+1)*24<=140737488355328:=by have:=Hc.out.P;omega
  clear hv4 FK Qn l4 m4 n4 hO bx JP;have FR:∀w',Ag wr.drew.heap.size wr.drew w'->∀o,s0<=(Ao w' o).heap.size:=fun w' hb o=>by have h1:=hb.size;simp at h1 ⊢;omega
  have O0:AT (fun k=>k=g\/s0<=k) wr.drew wr.drew:=AT.refl _ _;go_upto_region 8 with fail;go_cut [] (fun wx=>∃v' it,IL wx c b w2 s0 g mb bv v' kv (io++ [it]) ik (p+1) p/\AT (fun k=>k=g\/s0<=k) wk wx)
  case first=>
   refine Fz (S:=fun w'=>E w' ⟨w,0,Z⟩=I (U O c.P)/\E w' ⟨w,1,Z⟩=I (U O c.K)/\E w' ⟨w,2,Z⟩=I (U AA c.sd)) AG (SX.out _ O0) (fun hHeld=>?_);refine tQ4 0 ?_;refine tQ4 5 ?_;refine I8 [4,9] ?_;refine Dj Q (fun K1 BS=>?_) (Dj Q (fun K1 BS=>?_) GQ)
   ·go_simp
    refine BS.out _ _ (SX.out _ O0) (fun _=>?_);refine zp ?_;refine url 9 (fun K2 hK2=>?_);go_simp;go_at_call 275;refine(cO _).mono ?_;rintro e w5⟨v5,rfl,Ed,Bh⟩;obtain⟨A5,EY,rfl,l5,m5,n5,ar5⟩:=Ed.form DY;have O5:=O0.trans (AT.of Bh);have z5:=AK Bh z4;have z6:=AK (AB (Ae _ _) (N #[R A5 (c.ord p).length EY] 37)) z5;refine hK2.out _ _ (SX.out _ O5) (fun _=>?_);refine zp ?_;refine url 10 (fun K3 hK3=>?_);go_simp;refine hK3.out _ _ (SX.out _ (O5.trans (AT.of (AB (Ae _ _) _)))) (fun _=>?_);refine zp ?_;refine url 11 (fun K4 hK4=>?_);refine UL (enc:=fun x=>[It.enc x]) Tryz.underlying240 lE io ⟨A5,(c.ord p).length,EY⟩ ((OWd.out _ Bh).below (AB (Ae _ _) _)) (aL _ _ _ _ _) (It.one _) hip (FR _ Bh _) ?_;intro v10 Bs DX FI Ln;have PU:=F (PUd.out _ Bh _ _ Ed _ _ FI DX);obtain⟨DM,c10,rfl,l10,m10,n10,VT⟩:=DX.form (fun _=>rfl);have z10:E Bs ⟨g,4,Z⟩=I (R A4 p c4):=AX _ _ _ _ _ _ PU.out.1.1;have f10:=CJ Bs g 4 _ _ PU.out.1.1;refine hK4.out _ _ (SX.out _ PU.out.2) (fun _=>?_);refine zp ?_;refine tQ2 12 ?_;refine url 14 (fun K5 VU=>?_);go_simp;refine VU.out _ _ (SX.out _ (PU.out.2.trans (AT.set (.inl Q)))) (fun _=>?_);refine zp ?_;refine Ce ?_;go_wp2;go_meet
    case rel=>
     have e:(io++ [(⟨A5,(c.ord p).length,EY⟩:It)]).length=p+1:=by simp[hlen]
     have pu:=PU.out;rw[e]at pu;exact⟨_,_,pu.1.2,((HO.out.trans (AT.of (Ae _ _).drew)).trans pu.2).trans (AT.set (.inl Q))⟩
   ·go_simp
    go_at_call 275;refine(cO _).mono ?_;rintro e w5⟨v5,rfl,Ed,Bh⟩;obtain⟨A5,EY,rfl,l5,m5,n5,ar5⟩:=Ed.form DY;have O5:=O0.trans (AT.of Bh);have z5:=AK Bh z4;have z6:=AK (AB (Ae _ _) (N #[R A5 (c.ord p).length EY] 37)) z5;refine BS.out _ _ (SX.out _ O5) (fun _=>?_);refine zp ?_;refine I8 [4,10] ?_;refine Dj Q (fun K2 hK2=>?_) (Dj Q (fun K2 hK2=>?_) GQ)
    focus
     go_simp
     refine hK2.out _ _ (SX.out _ O5) (fun _=>?_);refine zp ?_;refine url 10 (fun K3 hK3=>?_)
    rotate_left
    focus
     go_simp
     refine hK2.out _ _ (SX.out _ (O5.trans (AT.of (AB (Ae _ _) _)))) (fun _=>?_);refine zp ?_;refine url 4 (fun K3 hK3=>?_)
    rotate_left
    all_goals
     go_simp;refine hK3.out _ _ (SX.out _ (O5.trans (AT.of (AB (Ae _ _) _)))) (fun _=>?_);refine zp ?_;refine url 11 (fun K4 hK4=>?_);refine UL (enc:=fun x=>[It.enc x]) Tryz.underlying240 lE io ⟨A5,(c.ord p).length,EY⟩ ((OWd.out _ Bh).below (AB (Ae _ _) _)) (aL _ _ _ _ _) (It.one _) hip (FR _ Bh _) ?_;intro v10 Bs DX FI Ln;have PU:=F (PUd.out _ Bh _ _ Ed _ _ FI DX);obtain⟨DM,c10,rfl,l10,m10,n10,VT⟩:=DX.form (fun _=>rfl);have z10:E Bs ⟨g,4,Z⟩=I (R A4 p c4):=AX _ _ _ _ _ _ PU.out.1.1;have f10:=CJ Bs g 4 _ _ PU.out.1.1;refine hK4.out _ _ (SX.out _ PU.out.2) (fun _=>?_);refine zp ?_;refine tQ2 12 ?_;refine url 14 (fun K5 VU=>?_);go_simp;refine VU.out _ _ (SX.out _ (PU.out.2.trans (AT.set (.inl Q)))) (fun _=>?_);refine zp ?_;refine Ce ?_;go_wp2;go_meet
     case rel=>
      have e:(io++ [(⟨A5,(c.ord p).length,EY⟩:It)]).length=p+1:=by simp[hlen]
      have pu:=PU.out;rw[e]at pu;exact⟨_,_,pu.1.2,((HO.out.trans (AT.of (Ae _ _).drew)).trans pu.2).trans (AT.set (.inl Q))⟩
  obtain⟨v1,it1,Ff,hO3⟩:=hcut;obtain⟨wz,rfl⟩:=qgn wc;obtain⟨io',hio⟩:=Az (io++ [it1]);rw[hio]at Ff;have bx:¬(↑w=g\/s0<=↑w):=by have:=(Ch wk _ x0);simp at this;omega
  have y0':=hO3.cell x0 bx;have y1':=hO3.cell x1 bx;have y2':=hO3.cell x2 bx;clear y0 y1 y2 z4 SX cO HA2 hsz HO LV OWd PUd hip FR O0 hio hlen;have z4:E wz ⟨g,5,Z⟩=I kv:=AX _ _ _ _ _ _ Ff.row;obtain⟨A4,c4,hv4,l4,m4,n4,Qn⟩:=Ff.blk.own.form (fun _=>rfl);have gO:Y ik=p:=by rw[Ff.blk.len];simp[Cas.UR]
  have hpl:p<c.P:=hlt;have SX:Aj (∀w',AT (fun k=>k=g\/s0<=k) wz.drew w'->E w' ⟨w,0,Z⟩=I (U O c.P)/\E w' ⟨w,1,Z⟩=I (U O c.K)/\E w' ⟨w,2,Z⟩=I (U AA c.sd)):=F (fun w' ho=>⟨ho.cell y0' bx,ho.cell y1' bx,ho.cell y2' bx⟩);have cO:=fun w'=>Abg c p w' Hc hlt
  have HA3:=F Ff;have hsz:=Ff.hi;have HO3:=F hO3;rw[hv4]at z4;rw[gO]at z4 hv4;have JP:Own wz s0 381 1 (fun x=>[It.enc x]) (R A4 p c4) ik:=hv4▸Ff.blk.own;have LV:Aj (∀k,(Value.slice A4 p c4).ownBlock=I k->s0<=k):=F (fun k hk=>(Cp JP k hk).1);have OWd:Aj (∀w',Ag wz.drew.heap.size wz.drew w'->Own w' s0 381 1 (fun x=>[It.enc x]) (R A4 p c4) ik):=F (fun w' hb=>(JP.below (Ae _ _).drew).below hb)
  have PUd:Aj (∀w5,Ag wz.drew.heap.size wz.drew w5->∀A5 EY,Own w5 wz.drew.heap.size 245 3 Ca.enc (R A5 (c.blk p).length EY) (c.blk p)->∀Bs v10,(Ao w5 (N #[R A5 (c.blk p).length EY] 381)).grownBy Bs (Value.slice A4 p c4).ownBlock->Own Bs s0 381 1 (fun x=>[It.enc x]) v10 (ik++ [⟨A5,(c.blk p).length,EY⟩])->
    (Bs.heap[g]?=I (N (VS c v1 (R A4 p c4) bv mb) 247 (0,0))/\IL (Bs.setCell ⟨g,5,Z⟩ v10) c b w2 s0 g mb bv v1 v10 io' (ik++ [⟨A5,(c.blk p).length,EY⟩]) (p+1) (p+1))/\AT (fun k=>k=g\/s0<=k) wz.drew Bs):=F (fun w5 Bh A5 EY Ed Bs v10 FI DX=>by
   have h5:=((Ff.on (Ae _ _).drew).on Bh).on (AB (Ae _ _) (N #[R A5 (c.blk p).length EY] 381));rw[hv4]at h5;exact⟨h5.pushB (it:=⟨A5,(c.blk p).length,EY⟩) ((RH Ed (Br Ff.hi AO)).below (AB (Ae _ _) _)) FI DX,((AT.of Bh).trans (AT.of (AB (Ae _ _) _))).trans (AT.grown FI (fun k hk=> .inl (.inr (LV.out k hk))))⟩)
  have hip:(Y ik+1)*24<=140737488355328:=by have:=Hc.out.P;omega
  clear hv4 Ff Qn l4 m4 n4 hO3 bx JP;have FR:∀w',Ag wz.drew.heap.size wz.drew w'->∀o,s0<=(Ao w' o).heap.size:=fun w' hb o=>by have h1:=hb.size;simp at h1 ⊢;omega
  have O0:AT (fun k=>k=g\/s0<=k) wz.drew wz.drew:=AT.refl _ _;go_upto_region 9 with fail;refine Fz (S:=fun w'=>E w' ⟨w,0,Z⟩=I (U O c.P)/\E w' ⟨w,1,Z⟩=I (U O c.K)/\E w' ⟨w,2,Z⟩=I (U AA c.sd)) AG (SX.out _ O0) (fun hHeld=>?_);refine tQ4 0 ?_;refine tQ4 5 ?_;refine I8 [4,9] ?_;refine Dj Q (fun K1 BS=>?_) (Dj Q (fun K1 BS=>?_) GQ)
  ·go_simp
   refine BS.out _ _ (SX.out _ O0) (fun _=>?_);refine zp ?_;refine url 9 (fun K2 hK2=>?_);go_simp;go_at_call 276;refine(cO _).mono ?_;rintro e w5⟨v5,rfl,Ed,Bh⟩;obtain⟨A5,EY,rfl,l5,m5,n5,ar5⟩:=Ed.form Ca.BY;have O5:=O0.trans (AT.of Bh);have z5:=AK Bh z4;have z6:=AK (AB (Ae _ _) (N #[R A5 (c.blk p).length EY] 381)) z5;refine hK2.out _ _ (SX.out _ O5) (fun _=>?_);refine zp ?_;refine url 10 (fun K3 hK3=>?_);go_simp;refine hK3.out _ _ (SX.out _ (O5.trans (AT.of (AB (Ae _ _) _)))) (fun _=>?_);refine zp ?_;refine url 11 (fun K4 hK4=>?_);refine UL (enc:=fun x=>[It.enc x]) Tryz.underlying241 pH ik ⟨A5,(c.blk p).length,EY⟩ ((OWd.out _ Bh).below (AB (Ae _ _) _)) (aL _ _ _ _ _) (It.one _) hip (FR _ Bh _) ?_;intro v10 Bs DX FI Ln;have PU:=F (PUd.out _ Bh _ _ Ed _ _ FI DX);obtain⟨DM,c10,rfl,l10,m10,n10,VT⟩:=DX.form (fun _=>rfl);have z10:E Bs ⟨g,5,Z⟩=I (R A4 p c4):=AX _ _ _ _ _ _ PU.out.1.1;have f10:=CJ Bs g 5 _ _ PU.out.1.1;refine hK4.out _ _ (SX.out _ PU.out.2) (fun _=>?_);refine zp ?_;refine tQ2 12 ?_;refine url 14 (fun K5 VU=>?_);go_simp;refine VU.out _ _ (SX.out _ (PU.out.2.trans (AT.set (.inl Q)))) (fun _=>?_);refine zp ?_;refine Ce ?_;go_wp2_with fail;have e:(ik++ [(⟨A5,(c.blk p).length,EY⟩:It)]).length=p+1:=by simp[gO]
   have pu:=PU.out;rw[e]at pu;exact⟨⟨p+1,_,_,_,_,qgm,J,pu.1.2,((HO3.out.trans (AT.of (Ae _ _).drew)).trans pu.2).trans (AT.set (.inl Q))⟩,qio⟩
  ·go_simp
   go_at_call 276;refine(cO _).mono ?_;rintro e w5⟨v5,rfl,Ed,Bh⟩;obtain⟨A5,EY,rfl,l5,m5,n5,ar5⟩:=Ed.form Ca.BY;have O5:=O0.trans (AT.of Bh);have z5:=AK Bh z4;have z6:=AK (AB (Ae _ _) (N #[R A5 (c.blk p).length EY] 381)) z5;refine BS.out _ _ (SX.out _ O5) (fun _=>?_);refine zp ?_;refine I8 [4,10] ?_;refine Dj Q (fun K2 hK2=>?_) (Dj Q (fun K2 hK2=>?_) GQ)
   focus
    go_simp
    refine hK2.out _ _ (SX.out _ O5) (fun _=>?_);refine zp ?_;refine url 10 (fun K3 hK3=>?_)
   rotate_left
   focus
    go_simp
    refine hK2.out _ _ (SX.out _ (O5.trans (AT.of (AB (Ae _ _) _)))) (fun _=>?_);refine zp ?_;refine url 4 (fun K3 hK3=>?_)
   rotate_left
   all_goals
    go_simp;refine hK3.out _ _ (SX.out _ (O5.trans (AT.of (AB (Ae _ _) _)))) (fun _=>?_);refine zp ?_;refine url 11 (fun K4 hK4=>?_);refine UL (enc:=fun x=>[It.enc x]) Tryz.underlying241 pH ik ⟨A5,(c.blk p).length,EY⟩ ((OWd.out _ Bh).below (AB (Ae _ _) _)) (aL _ _ _ _ _) (It.one _) hip (FR _ Bh _) ?_;intro v10 Bs DX FI Ln;have PU:=F (PUd.out _ Bh _ _ Ed _ _ FI DX);obtain⟨DM,c10,rfl,l10,m10,n10,VT⟩:=DX.form (fun _=>rfl);have z10:E Bs ⟨g,5,Z⟩=I (R A4 p c4):=AX _ _ _ _ _ _ PU.out.1.1;have f10:=CJ Bs g 5 _ _ PU.out.1.1;refine hK4.out _ _ (SX.out _ PU.out.2) (fun _=>?_);refine zp ?_;refine tQ2 12 ?_;refine url 14 (fun K5 VU=>?_);go_simp;refine VU.out _ _ (SX.out _ (PU.out.2.trans (AT.set (.inl Q)))) (fun _=>?_);refine zp ?_;refine Ce ?_;go_wp2_with fail;have e:(ik++ [(⟨A5,(c.blk p).length,EY⟩:It)]).length=p+1:=by simp[gO]
    have pu:=PU.out;rw[e]at pu;exact⟨⟨p+1,_,_,_,_,qgm,J,pu.1.2,((HO3.out.trans (AT.of (Ae _ _).drew)).trans pu.2).trans (AT.set (.inl Q))⟩,qio⟩
 ·obtain rfl:p=c.P:=J
  obtain⟨M,rfl,hM,hS,hLo⟩:=FK.done Hc;have cA:=pC c (X7 b) M wr hM Hc (oX Hb);have VP:w.heap.size<=w2.heap.size:=by have h1:=b1.size;exact Br h1 hb2.size
  have Ot:Aj (∀w9,AT M.S wr w9->Ag w w w9):=F (fun w9 h9=>(q3.trans (hO.below q3.size (fun k hk=>by have:=q3.size;omega))).trans (h9.below (Br q3.size hO.size) (fun k hk=>Br VP (hS k (hk.elim .inl (fun h=> .inr (.inl h)))))));have HT:=F (fun k (hk:M.T k)=>Br VP (hS k hk));have HLo:=F (Br VP hLo);clear hS hLo hM FK hA VP;go_wp2_with fail;refine cA.mono ?_;rintro e w9⟨⟨u,rfl⟩,hA9,hO9⟩;clear cA;go_wp2;go_ret2;exact⟨M,Q,hA9,Ot.out _ hO9,HT.out,HLo.out⟩
theorem Cj.aM{w:V}{c:Cas}{m:BP}{M:Mem}(h:Cj w c m M){k:Nat}(hk:M.T k):k≠M.ob/\k<↑w:=by
 have ob:=h.rows.ob;have ne:∀j,M.off j->j≠M.ob:=fun j ho e=>by grind [Mem.T,Mem.off]
 rcases hk with rfl | hk | rfl | hk
 ·exact⟨ne _ h.og,(Bm.1 h.row).1⟩
 ·obtain⟨cs,hr⟩:=Qr h.b hk
  exact⟨ne _ (h.obv k hk),(Bm.1 hr).1⟩
 ·obtain⟨D,hD⟩:=h.kn
  obtain⟨es,clock,Ez,_⟩:=hD.own;exact⟨ne _ h.om,(Bm.1 Ez).1⟩
 ·obtain⟨cs,hr⟩:=Qr h.tv hk
  exact⟨ne _ (h.otv k hk),(Bm.1 hr).1⟩
end Go.Proofs.YtjpidgffdkjjeaaGreat
