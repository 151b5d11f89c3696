/- Contracts and plain laws. No condition. -/
import Derived.Test.YtjpidgffdkjjeaaGreatCA
import Derived.Test.YtjpidgffdkjjeaaGreatC15
set_option linter.all false
set_option maxHeartbeats 16000000
namespace Go.Proofs.YtjpidgffdkjjeaaGreat
open Go.Proofs.Tryz
open Go.Proofs.Tryz renaming prog->AE
open List renaming length->Y
open Go.World renaming cell?->E,setCell->Ai,alloc->Ao,frozen?->Bo
open Go.Value renaming int->U,slice->R,pointer->AI,agg->Ba,tuple->Be,nilFunc->Bl,bool->Av
open Go.IntKind renaming i64->O,u64->AA,u32->BF,u8->Cd
open Option renaming none->Z,some->I
open Go.Ending renaming returned->AN
open Go.Obj renaming cells->N
open Go renaming World->V,Value->An,Calls->AL,Addr->AS
open Go.RowKit renaming Below->Ag,Hid->Aj
set_option maxRecDepth 100000
open Go.RowKit Go.Maps
section
variable{c g k n:Nat}{l:List Nat}{w:V}
theorem SO{a:Nat}(h:a<256):(wrap64 (a:Int)).tmod (k:Int)=((a%k:Nat):Int):=by
 rw[Lg _ J]
 grind
structure AaH(w0 w:V)(m:Min):Prop where
 rm:w.heap[w0.heap.size]?=I (N m.cs 24 (0,0))
 rs:w.heap[w0.heap.size+1]?=I (N Es.cs 62 (0,0))
 b:Ag w0 w0 w
structure Lu(w0 w3 w:V)(m:Min)(g:Nat)(s:BX):Prop where
 rm:w.heap[w0.heap.size]?=I (N m.cs 24 (0,0))
 r0:w.heap[w0.heap.size+1]?=I (N Es.cs 62 (0,0))
 rs:w.heap[g]?=I (N s.cs 62 (0,0))
 f:Ag w3 w3 w
 b:Ag w0 w0 w
 lt:↑w0+1<g
 e3:↑w3=g
section
variable {w0 w3 w w':V} {m:Min} {g:Nat} {s s':BX}
def Lu.mc(h:Lu w0 w3 w m g s)(j:Nat):E w ⟨w0,j,Z⟩=m.cs[j]?:=AX w _ j _ _ _ h.rm
def Lu.sc(h:Lu w0 w3 w m g s)(j:Nat):E w ⟨g,j,Z⟩=s.cs[j]?:=AX w _ j _ _ _ h.rs
theorem Lu.fr(h:Lu w0 w3 w m g s)(j:Nat):Bo w ⟨g,j,Z⟩=false:=CJ w _ j _ _ h.rs
def Lu.set(h:Lu w0 w3 w m g s)(j:Nat)(u:An)(s':BX)(e:s'.cs=s.cs.setIfInBounds j u):Lu w0 w3 (Ai w ⟨g,j,Z⟩ u) m g s':=by
 have ho:AT (fun k=>k=g) w (Ai w ⟨g,j,Z⟩ u):=AT.set Q;have lt:=h.lt;refine⟨ho.row h.rm J,ho.row h.r0 J,?_,h.f.setCell (show w3.heap.size<=g by rw[h.e3];omega) _,h.b.setCell (show w0.heap.size<=g by omega) _,lt,h.e3⟩;rw[e];exact CM w g j _ _ _ h.rs
theorem Lu.X4(h:Lu w0 w3 w m g s)(s':BX):Lu w0 w3 (w.setRow g s'.cs) m g s':=by
 have ho:AT (fun k=>k=g) w (w.setRow g s'.cs):=AT.grown (Fw w g _) (fun k hk=>by grind);have lt:=h.lt;exact⟨ho.row h.rm J,ho.row h.r0 J,GS w g _ _ _ (0,0) h.rs,h.f.grown (Fw w g _) h.f.size (fun k hk=>by cases hk;rw[h.e3];omega),h.b.grown (Fw w g _) h.b.size (fun k hk=>by grind),lt,h.e3⟩
theorem gn{j:Nat}(u:An)(h:Nt w (I ⟨n,0,Z⟩) c l)(hn:n≠g):Nt (Ai w ⟨g,j,Z⟩ u) (I ⟨n,0,Z⟩) c l:=
 ⟨(AT.set (S:=fun k=>k=g) Q).arr h.arr (fun a e=>by grind),h.len,h.cap,h.dig,h.nil⟩
theorem gt(cs:Array An)(h:Nt w (I ⟨n,0,Z⟩) c l)(hn:n≠g):Nt (w.setRow g cs) (I ⟨n,0,Z⟩) c l:=
 ⟨(AT.grown (S:=fun k=>k=g) (Fw w g _) (fun k hk=>by grind)).arr h.arr (fun a e=>by grind),h.len,h.cap,h.dig,h.nil⟩
def AaI(off:Nat)(x:Int):Es.cs[off]?≠I (U BF x):=fun h=>by
 have:=Array.mem_of_getElem? h;simp[Es,BX.cs]at this
theorem ay{A:Option AS}{x b:Nat}(h:Nt w A c [x])(r:w.heap[b]?=I (N Es.cs 62 (0,0)))(cs:Array An):Nt (w.setRow b cs) A c [x]:=by
 obtain⟨g,off,rfl,_,hc⟩:=h.arr AO;have h1:=hc 0 x Q 0 (U BF x) Q
 have hn:g≠b:=fun e=>by
  subst e;rw[AX _ _ _ _ _ _ r]at h1;exact AaI _ _ h1
 exact⟨(AT.grown (S:=fun k=>k=b) (Fw w b _) (fun k hk=>by grind)).arr h.arr (fun a e=>by grind),h.len,h.cap,h.dig,h.nil⟩
def AaJ(h:k<1000):wrap64 (1+(k:Int))=1+(k:Int):=Lg _ J
def Lu.al(h:Lu w0 w3 w m g s)(o:Obj):Lu w0 w3 (Ao w o) m g s:=by
 have hb:=AB (Ae w w) o;have h1:=(Bm.1 h.rm).1;have h2:=(Bm.1 h.rs).1;exact⟨(hb.block _ h1).trans h.rm,(hb.block _ (Bm.1 h.r0).1).trans h.r0,(hb.block _ h2).trans h.rs,AH h.f hb,AH h.b hb,h.lt,h.e3⟩
end
theorem AaK{m:Min}(hu:m.U8){o:Bw}{sl hd Wd SM P0 P1 Z0 Z1 MG T0 T1:Int}{AP n1 n2:Nat}{f:Hlf}(ho:m.opt=o)(hv:sl=60+(m.slots:Int)/\hd=((m.head%40:Nat):Int)/\AP=1+m.block%48/\Wd=(m.W:Int))
  (h1:(wrap64 (m.sample:Int)).tmod (AP:Int)=SM) (h2:(wrap64 (m.passes:Int)).tmod 3=P0) (h3:wrap64 (1+P0)=P1) (h4:(wrap64 (m.size:Int)).tmod 24=Z0) (h5:wrap64 (1+Z0)=Z1) (h6:(wrap64 (m.margin:Int)).tmod 6=MG)
  (h7:(wrap64 (m.tries:Int)).tmod 5=T0) (h8:wrap64 (1+T0)=T1):
  (⟨o,sl,hd,0,(AP:Int),SM,⟨f.A,f.a,[1],I ⟨n1,0,Z⟩,1,[2+m.eps]⟩,⟨I ⟨n2,0,Z⟩,1,[m.limit%5],I ⟨n2+1,0,Z⟩,1,[10]⟩,P1,Z1,m.light,Wd,MG,T1,m.seed⟩:BX)=m.Dx ⟨f.A,f.a,I ⟨n1,0,Z⟩,1,I ⟨n2,0,Z⟩,1,I ⟨n2+1,0,Z⟩,1⟩:=by
 obtain⟨rfl,rfl,rfl,rfl⟩:=hv;have e1:=SO (k:=1+m.block%48) hu.sample;have e2:=SO (k:=3) hu.passes;have e4:=SO (k:=24) hu.size;have e6:=SO (k:=6) hu.margin;have e7:=SO (k:=5) hu.tries;rw[e1]at h1;rw[show((3:Nat):Int)=3 from rfl]at e2;rw[show((24:Nat):Int)=24 from rfl]at e4;rw[show((6:Nat):Int)=6 from rfl]at e6;rw[show((5:Nat):Int)=5 from rfl]at e7;rw[e2]at h2;rw[e4]at h4;rw[e6]at h6;rw[e7]at h7;subst h2 h4 h7;rw[AaJ J]at h3 h5 h8
 grind [Min.W,Min.Dx,Min.opt]
def setup_any(m:Min)(hm:m.Ok)(hu:m.U8)(w:V):
  AL AE 18 #[m.val] w fun e w'=>∃f:Hlf,e=AN (m.Dx f).val/\(m.Dx f).In w'/\Ag w w w':=by
 have b1:=AB (Ae w w) (N m.cs 24);have b2:=b1.trans ((AB (Ae _ (Ao w (N m.cs 24))) (N Es.cs 62)).mono b1.size);have r0:(Ao (Ao w (N m.cs 24)) (N Es.cs 62)).heap[w.heap.size]?=I (N m.cs 24 (0,0)):=((AB (Ae _ (Ao w (N m.cs 24))) _).block _ AO).trans (CB _ _);have r1:(Ao (Ao w (N m.cs 24)) (N Es.cs 62)).heap[w.heap.size+1]?=I (N Es.cs 62 (0,0)):=by rw[show w.heap.size+1=(Ao w (N m.cs 24)).heap.size by simp];exact CB _ _
 have h1:=hm.slots;have h2:=hm.eta;have h3:=hm.dark;have h4:=hm.eps;show AL AE 18 #[Ba m] w _;go_in;go_upto_region 1 with fail;obtain⟨w2,hw2⟩:=Az (Ao (Ao w (N m.cs 24)) (N Es.cs 62));rw[hw2]at b2 r0 r1;change Code.wp _ _ _ _ (Ao (Ao w (N m.cs 24)) (N Es.cs 62));rw[hw2];clear hw2;have c4:E w2 ⟨w,4,Z⟩=I (U Cd m.slots):=AX _ _ 4 _ _ _ r0;have c5:E w2 ⟨w,5,Z⟩=I (U Cd m.head):=AX _ _ 5 _ _ _ r0;have c6:E w2 ⟨w,6,Z⟩=I (U Cd m.block):=AX _ _ 6 _ _ _ r0;have c10:E w2 ⟨w,10,Z⟩=I (U Cd m.width):=AX _ _ 10 _ _ _ r0;have c18:E w2 ⟨w,18,Z⟩=I (U AA m.seed):=AX _ _ 18 _ _ _ r0;have e5:(wrap64 (m.head:Int)).tmod 40=((m.head%40:Nat):Int):=SO (k:=40) hu.head
 have e6:wrap64 (1+(wrap64 (m.block:Int)).tmod 48)=1+((m.block%48:Nat):Int):=by
  rw[show(wrap64 (m.block:Int)).tmod 48=((m.block%48:Nat):Int)from SO (k:=48) hu.block];exact Lg _ J
 have e10:wrap64 (8*2^(m.width%3))=(m.W:Int):=by
  unfold Min.W;have h3:m.width%3=0\/m.width%3=1\/m.width%3=2:=J;rcases h3 with e | e | e <;> rw[e] <;> (rw[Lg _ AC];decide)
 have E5:=F e5;have E6:=F e6;have E10:=F e10;clear e5 e6 e10;have K2:=F (show AaH w w2 m from⟨r0,r1,b2⟩);clear b1 b2 r0 r1;go_wp2_with fail;refine(nX _ _ _ _ _ _ _).mono ?_;rintro e w3⟨A1,A2,A3,A4,rfl,hf,hb⟩;rw[E5.out,E6.out,E10.out]at hf ⊢;obtain⟨S1,hS1⟩:=Az (Ij A1 A2 A3 A4 (60+(m.slots:Int)) ((m.head%40:Nat):Int) (1+((m.block%48:Nat):Int)) 0 (m.W:Int) m.seed);rw[hS1]at hf ⊢;have HS1:=F hS1;clear hS1;have rs3:=(hb.block _ (Bm.1 K2.out.rs).1).trans K2.out.rs;have rm3:=(hb.block _ (Bm.1 K2.out.rm).1).trans K2.out.rm;clear c4 c5 c6 c10 c18
 go_upto_region 2 with(first
  | (refine Great.wpList_allocTo Q (I 3) Q (AI (I ⟨w3,0,Z⟩)) (N Es.cs 62) AG ?_)
  | (refine Mc Q 62 _ _ Q w3 S1.cs AG AG 62 Es.cs (CB w3 _) (qiz 62 34) Q AG ?_))
 rw[World.setRow_alloc_new];refine zp ?_
 have K4:Lu w w3 (Ao w3 (N S1.cs 62)) m w3 S1:=by
  have bb:=AB (Ae w3 w3) (N S1.cs 62);exact⟨(bb.block _ (Bm.1 rm3).1).trans rm3,(bb.block _ (Bm.1 rs3).1).trans rs3,CB w3 _,bb,(AH K2.out.b hb).trans (bb.mono (AH K2.out.b hb).size),(Bm.1 rs3).1,Q⟩
 obtain⟨g,hg⟩:=Az (w3.heap.size);obtain⟨w4,hw4⟩:=Az (Ao w3 (N S1.cs 62));rw[hw4,hg]at K4;rw[hw4,hg];have Hf:=F hf;clear hw4 hg rs3 rm3 hf hb K2;have hS:∃(f:Hlf) (sl hd:Int) (AP:Nat) (Wd:Int),Aj (sl=60+(m.slots:Int)/\hd=((m.head%40:Nat):Int)/\AP=1+m.block%48/\Wd=(m.W:Int))/\S1=⟨Rz,sl,hd,0,(AP:Int),0,⟨f.A,f.a,[1],f.B,f.b,[4]⟩,⟨f.C,f.c,[1],f.D,f.d,[8]⟩,1,16,0,Wd,0,3,m.seed⟩:=⟨⟨A1,1,A2,1,A3,1,A4,1⟩,_,_,_,_,F ⟨rfl,rfl,rfl,rfl⟩,by rw[<-HS1.out];simp[Ij]⟩
 obtain⟨f,sl,hd,AP,Wd,HV,rfl⟩:=hS;clear HS1;have n0:(AP:Int)≠0:=by have:=HV.out.2.2.1;omega
 obtain⟨SM,hSM⟩:=Az ((wrap64 (m.sample:Int)).tmod (AP:Int));have c7:E w4 ⟨w,7,Z⟩=I (U Cd m.sample):=K4.mc 7;have s21:E w4 ⟨g,21,Z⟩=I (U O AP):=K4.sc 21;have s22:E w4 ⟨g,22,Z⟩=I (U O 0):=K4.sc 22;have f22:=K4.fr 22;go_upto_region 3 with fail;have K5:=K4.set 22 (U O SM) ⟨Rz,sl,hd,0,(AP:Int),SM,⟨f.A,f.a,[1],f.B,f.b,[4]⟩,⟨f.C,f.c,[1],f.D,f.d,[8]⟩,1,16,0,Wd,0,3,m.seed⟩ Q;obtain⟨w5,Ct⟩:=Az (Ai w4 ⟨g,22,Z⟩ (U O SM));rw[Ct]at K5 ⊢;clear Ct K4 c7 s21 f22 s22;have c1:E w5 ⟨w,1,Z⟩=I (U Cd m.eta):=K5.mc 1;have s16:=K5.sc 16;have f16:=K5.fr 16;obtain⟨ET,hET⟩:∃ET:Int,256-(m.eta:Int)=ET:=⟨_,Q⟩
 go_upto_region 4 with fail;have K6:=K5.set 16 (U O ET) ⟨⟨0,0,0,256,256,0,0,0,256,0,0,0,0,256,0,0,ET,0⟩,sl,hd,0,(AP:Int),SM,⟨f.A,f.a,[1],f.B,f.b,[4]⟩,⟨f.C,f.c,[1],f.D,f.d,[8]⟩,1,16,0,Wd,0,3,m.seed⟩ Q;obtain⟨w6,Ge⟩:=Az (Ai w5 ⟨g,16,Z⟩ (U O ET));rw[Ge]at K6 ⊢;clear Ge K5 c1 s16 f16;have c2:E w6 ⟨w,2,Z⟩=I (U Cd m.dark):=K6.mc 2;have s17:E w6 ⟨g,17,Z⟩=I (U O 0):=K6.sc 17;have f17:=K6.fr 17;obtain⟨DK,hDK⟩:∃DK:Int,(m.dark:Int)=DK:=⟨_,Q⟩
 go_upto_region 5 with fail;have K7:=K6.set 17 (U O DK) ⟨⟨0,0,0,256,256,0,0,0,256,0,0,0,0,256,0,0,ET,DK⟩,sl,hd,0,(AP:Int),SM,⟨f.A,f.a,[1],f.B,f.b,[4]⟩,⟨f.C,f.c,[1],f.D,f.d,[8]⟩,1,16,0,Wd,0,3,m.seed⟩ Q;obtain⟨w7,Ig⟩:=Az (Ai w6 ⟨g,17,Z⟩ (U O DK));rw[Ig]at K7 ⊢;clear Ig K6 c2 s17 f17;have c3:E w7 ⟨w,3,Z⟩=I (U Cd m.photons):=K7.mc 3;obtain⟨TW,hTW⟩:∃TW:Int,(wrap64 (m.photons:Int)).tmod 100=TW:=⟨_,Q⟩
 go_upto_region 6 with fail;clear c3;obtain⟨OM,hOM⟩:∃OM:Int,wrap64 (256-TW)=OM:=⟨_,Q⟩
 have K8:=K7.X4 ⟨⟨0,0,0,256,256,0,0,0,256,0,0,0,0,OM,TW,0,ET,DK⟩,sl,hd,0,(AP:Int),SM,⟨f.A,f.a,[1],f.B,f.b,[4]⟩,⟨f.C,f.c,[1],f.D,f.d,[8]⟩,1,16,0,Wd,0,3,m.seed⟩
 go_upto_region 7 with(first
  | (refine VJ Q 51 _ _ Q g 12 #[U O 0,U O OM,U O TW,U O 0] AG AG 62 _ (⟨⟨0,0,0,256,256,0,0,0,256,0,0,0,0,OM,TW,0,ET,DK⟩,sl,hd,0,(AP:Int),SM,⟨f.A,f.a,[1],f.B,f.b,[4]⟩,⟨f.C,f.c,[1],f.D,f.d,[8]⟩,1,16,0,Wd,0,3,m.seed⟩:BX).cs K7.rs (qiz 51 4) (Fg AG) AG AG ?_))
 obtain⟨w8,RA⟩:=Az (w7.setRow g (⟨⟨0,0,0,256,256,0,0,0,256,0,0,0,0,OM,TW,0,ET,DK⟩,sl,hd,0,(AP:Int),SM,⟨f.A,f.a,[1],f.B,f.b,[4]⟩,⟨f.C,f.c,[1],f.D,f.d,[8]⟩,1,16,0,Wd,0,3,m.seed⟩:BX).cs);rw[RA]at K8 ⊢;clear RA K7;have c0:E w8 ⟨w,0,Z⟩=I (U Cd m.kind):=K8.mc 0;have s0:E w8 ⟨g,0,Z⟩=I (U O 0):=K8.sc 0;have f0:=K8.fr 0;obtain⟨kk,hkk⟩:∃kk:Nat,m.kind%3=kk:=⟨_,Q⟩
 have hk2:(m.kind:Int)%3=(kk:Int):=J;have hk3:kk=0\/kk=1\/kk=2:=J;refine zp ?_;have hT2:TW=m.two:=hTW.symm.trans (SO (k:=100) hu.photons)
 have NF:OM=256-m.two:=by
  rw[<-hOM,hT2];have:m.two<100/\0<=m.two:=by unfold Min.two;omega
  exact Lg _ J
 have hmo:m.opt=if kk=2 then⟨1,20,60,176,256,0,0,0,120,130,6,0,20,196,40,0,ET,DK⟩else⟨if kk=1 then 2 else 0,0,0,256,256,0,0,0,256,0,0,0,0,OM,TW,0,ET,DK⟩:=by
  unfold Min.opt;rw[NF,hT2,hkk,hET,hDK]
 have Hmo:=F hmo;clear hT2 NF hmo hTW hOM;rcases hk3 with rfl | rfl | rfl
 case' inl=>
  have HO:Aj (m.opt=⟨0,0,0,256,256,0,0,0,256,0,0,0,0,OM,TW,0,ET,DK⟩):=F (by rw[Hmo.out];rfl);go_upto_region 15 with fail;obtain⟨w9,rfl⟩:=qgn w8;have K9:=K8;obtain⟨o,ho⟩:∃o:Bw,⟨0,0,0,256,256,0,0,0,256,0,0,0,0,OM,TW,0,ET,DK⟩=o:=⟨_,Q⟩
 case' inr.inl=>
  have HO:Aj (m.opt=⟨2,0,0,256,256,0,0,0,256,0,0,0,0,OM,TW,0,ET,DK⟩):=F (by rw[Hmo.out];rfl);have K9:=K8.set 0 (U O 2) ⟨⟨2,0,0,256,256,0,0,0,256,0,0,0,0,OM,TW,0,ET,DK⟩,sl,hd,0,(AP:Int),SM,⟨f.A,f.a,[1],f.B,f.b,[4]⟩,⟨f.C,f.c,[1],f.D,f.d,[8]⟩,1,16,0,Wd,0,3,m.seed⟩ Q;go_upto_region 15 with fail;obtain⟨w9,RB⟩:=Az (Ai w8 ⟨g,0,Z⟩ (U O 2));rw[RB]at K9 ⊢;clear RB;obtain⟨o,ho⟩:∃o:Bw,⟨2,0,0,256,256,0,0,0,256,0,0,0,0,OM,TW,0,ET,DK⟩=o:=⟨_,Q⟩
 case' inr.inr=>
  have HO:Aj (m.opt=⟨1,20,60,176,256,0,0,0,120,130,6,0,20,196,40,0,ET,DK⟩):=F (by rw[Hmo.out];rfl);have Ka:=K8.set 0 (U O 1) ⟨⟨1,0,0,256,256,0,0,0,256,0,0,0,0,OM,TW,0,ET,DK⟩,sl,hd,0,(AP:Int),SM,⟨f.A,f.a,[1],f.B,f.b,[4]⟩,⟨f.C,f.c,[1],f.D,f.d,[8]⟩,1,16,0,Wd,0,3,m.seed⟩ Q;go_upto_region 12 with fail;obtain⟨wa,hwa⟩:=Az (Ai w8 ⟨g,0,Z⟩ (U O 1));rw[hwa]at Ka ⊢;clear hwa;have Kb:=Ka.X4 ⟨⟨1,20,60,176,256,0,0,0,256,0,0,0,0,OM,TW,0,ET,DK⟩,sl,hd,0,(AP:Int),SM,⟨f.A,f.a,[1],f.B,f.b,[4]⟩,⟨f.C,f.c,[1],f.D,f.d,[8]⟩,1,16,0,Wd,0,3,m.seed⟩;go_upto_region 13 with(refine VJ rfl 50 _ _ rfl g 1 #[U O 20,U O 60,U O 176] AG AG 62 _ (⟨⟨1,20,60,176,256,0,0,0,256,0,0,0,0,OM,TW,0,ET,DK⟩,sl,hd,0,(AP:Int),SM,⟨f.A,f.a,[1],f.B,f.b,[4]⟩,⟨f.C,f.c,[1],f.D,f.d,[8]⟩,1,16,0,Wd,0,3,m.seed⟩:BX).cs Ka.rs (qiz 50 3) (Fg AG) AG AG ?_)
  obtain⟨wb,hwb⟩:=Az (wa.setRow g (⟨⟨1,20,60,176,256,0,0,0,256,0,0,0,0,OM,TW,0,ET,DK⟩,sl,hd,0,(AP:Int),SM,⟨f.A,f.a,[1],f.B,f.b,[4]⟩,⟨f.C,f.c,[1],f.D,f.d,[8]⟩,1,16,0,Wd,0,3,m.seed⟩:BX).cs);rw[hwb]at Kb ⊢;clear hwb;have Kc:=Kb.X4 ⟨⟨1,20,60,176,256,0,0,0,120,130,6,0,0,OM,TW,0,ET,DK⟩,sl,hd,0,(AP:Int),SM,⟨f.A,f.a,[1],f.B,f.b,[4]⟩,⟨f.C,f.c,[1],f.D,f.d,[8]⟩,1,16,0,Wd,0,3,m.seed⟩;go_upto_region 14 with(refine VJ rfl 51 _ _ rfl g 8 #[U O 120,U O 130,U O 6,U O 0] AG AG 62 _ (⟨⟨1,20,60,176,256,0,0,0,120,130,6,0,0,OM,TW,0,ET,DK⟩,sl,hd,0,(AP:Int),SM,⟨f.A,f.a,[1],f.B,f.b,[4]⟩,⟨f.C,f.c,[1],f.D,f.d,[8]⟩,1,16,0,Wd,0,3,m.seed⟩:BX).cs Kb.rs (qiz 51 4) (Fg AG) AG AG ?_)
  obtain⟨wc,hwc⟩:=Az (wb.setRow g (⟨⟨1,20,60,176,256,0,0,0,120,130,6,0,0,OM,TW,0,ET,DK⟩,sl,hd,0,(AP:Int),SM,⟨f.A,f.a,[1],f.B,f.b,[4]⟩,⟨f.C,f.c,[1],f.D,f.d,[8]⟩,1,16,0,Wd,0,3,m.seed⟩:BX).cs);rw[hwc]at Kc ⊢;clear hwc;have K9:=Kc.X4 ⟨⟨1,20,60,176,256,0,0,0,120,130,6,0,20,196,40,0,ET,DK⟩,sl,hd,0,(AP:Int),SM,⟨f.A,f.a,[1],f.B,f.b,[4]⟩,⟨f.C,f.c,[1],f.D,f.d,[8]⟩,1,16,0,Wd,0,3,m.seed⟩;go_upto_region 15 with(refine VJ rfl 51 _ _ rfl g 12 #[U O 20,U O 196,U O 40,U O 0] AG AG 62 _ (⟨⟨1,20,60,176,256,0,0,0,120,130,6,0,20,196,40,0,ET,DK⟩,sl,hd,0,(AP:Int),SM,⟨f.A,f.a,[1],f.B,f.b,[4]⟩,⟨f.C,f.c,[1],f.D,f.d,[8]⟩,1,16,0,Wd,0,3,m.seed⟩:BX).cs Kc.rs (qiz 51 4) (Fg AG) AG AG ?_)
  obtain⟨w9,RB⟩:=Az (wc.setRow g (⟨⟨1,20,60,176,256,0,0,0,120,130,6,0,20,196,40,0,ET,DK⟩,sl,hd,0,(AP:Int),SM,⟨f.A,f.a,[1],f.B,f.b,[4]⟩,⟨f.C,f.c,[1],f.D,f.d,[8]⟩,1,16,0,Wd,0,3,m.seed⟩:BX).cs);rw[RB]at K9 ⊢;clear RB;obtain⟨o,ho⟩:∃o:Bw,⟨1,20,60,176,256,0,0,0,120,130,6,0,20,196,40,0,ET,DK⟩=o:=⟨_,Q⟩
 all_goals(
  rw[ho]at K9 HO;clear ho Hmo K8 c0 s0 f0 hk2 hkk;refine zp ?_;have c8:E w9 ⟨w,8,Z⟩=I (U Cd m.passes):=K9.mc 8;have c9:E w9 ⟨w,9,Z⟩=I (U Cd m.size):=K9.mc 9;have c19:E w9 ⟨w,19,Z⟩=I (U AA m.light):=K9.mc 19;obtain⟨P0,hP0⟩:∃P0:Int,(wrap64 (m.passes:Int)).tmod 3=P0:=⟨_,Q⟩
  obtain⟨P1,Np⟩:∃P1:Int,wrap64 (1+P0)=P1:=⟨_,Q⟩
  obtain⟨Z0,hZ0⟩:∃Z0:Int,(wrap64 (m.size:Int)).tmod 24=Z0:=⟨_,Q⟩
  obtain⟨Z1,hZ1⟩:∃Z1:Int,wrap64 (1+Z0)=Z1:=⟨_,Q⟩
  have NB:=K9.X4 ⟨o,sl,hd,0,(AP:Int),SM,⟨f.A,f.a,[1],f.B,f.b,[4]⟩,⟨f.C,f.c,[1],f.D,f.d,[8]⟩,P1,Z1,m.light,Wd,0,3,m.seed⟩;go_upto_region 16 with(first | (refine VJ rfl 60 _ _ rfl g 27 #[U O P1,U O Z1,U AA m.light] AG AG 62 _ (⟨o,sl,hd,0,(AP:Int),SM,⟨f.A,f.a,[1],f.B,f.b,[4]⟩,⟨f.C,f.c,[1],f.D,f.d,[8]⟩,P1,Z1,m.light,Wd,0,3,m.seed⟩:BX).cs K9.rs (qiz 60 3) (Fg AG) AG AG ?_))
  obtain⟨Bs,RC⟩:=Az (w9.setRow g (⟨o,sl,hd,0,(AP:Int),SM,⟨f.A,f.a,[1],f.B,f.b,[4]⟩,⟨f.C,f.c,[1],f.D,f.d,[8]⟩,P1,Z1,m.light,Wd,0,3,m.seed⟩:BX).cs);rw[RC]at NB ⊢;refine zp ?_;clear RC K9 c8 c9 c19;have c11:E Bs ⟨w,11,Z⟩=I (U Cd m.margin):=NB.mc 11;have s31:E Bs ⟨g,31,Z⟩=I (U O 0):=NB.sc 31;have f31:=NB.fr 31;obtain⟨MG,hMG⟩:∃MG:Int,(wrap64 (m.margin:Int)).tmod 6=MG:=⟨_,Q⟩
  have K11:=NB.set 31 (U O MG) ⟨o,sl,hd,0,(AP:Int),SM,⟨f.A,f.a,[1],f.B,f.b,[4]⟩,⟨f.C,f.c,[1],f.D,f.d,[8]⟩,P1,Z1,m.light,Wd,MG,3,m.seed⟩ Q;go_upto_region 17 with fail;obtain⟨FW,oa⟩:=Az (Bs.setCell ⟨g,31,Z⟩ (U O MG));rw[oa]at K11 ⊢;clear oa NB c11 s31 f31;have c12:E FW ⟨w,12,Z⟩=I (U Cd m.eps):=K11.mc 12;have s24:=K11.sc 24;have f24:=K11.fr 24;have gl:=(Bm.1 K11.rs).1;obtain⟨n1,GC⟩:=Az (FW.heap.size);rw[GC]at gl;have K12:=(K11.set 24 (R (I ⟨n1,0,Z⟩) 1 1) ⟨o,sl,hd,0,(AP:Int),SM,⟨f.A,f.a,[1],I ⟨n1,0,Z⟩,1,[2+m.eps]⟩,⟨f.C,f.c,[1],f.D,f.d,[8]⟩,P1,Z1,m.light,Wd,MG,3,m.seed⟩ Q).al (N #[U BF (2+(m.eps:Int))] 132);have N1:=Oy (FW.setCell ⟨g,24,Z⟩ (R (I ⟨n1,0,Z⟩) 1 1)) (2+m.eps) 132 J;rw[show((2+m.eps:Nat):Int)=2+(m.eps:Int)by omega,show(FW.setCell ⟨g,24,Z⟩ (R (I ⟨n1,0,Z⟩) 1 1)).heap.size=n1 by rw[<-GC];simp]at N1;go_upto_region 18 with fail
  try rw[GC]
  obtain⟨E7,SP⟩:=Az ((FW.setCell ⟨g,24,Z⟩ (R (I ⟨n1,0,Z⟩) 1 1)).alloc (N #[U BF (2+(m.eps:Int))] 132));rw[SP]at K12 N1 ⊢;have Ne1:=F (show n1≠g by omega);have Ng1:=F gl;have NN1:=F N1;clear SP K11 c12 s24 f24 N1 GC gl;have h5:=hu.limit;have c13:E E7 ⟨w,13,Z⟩=I (U Cd m.limit):=K12.mc 13;have gl:=(Bm.1 K12.rs).1;obtain⟨n2,EU⟩:=Az (E7.heap.size);have K13:=(K12.al (N #[U BF ((m.limit:Int)%5)] 132)).al (N #[U BF 10] 132);have K14:=K13.X4 ⟨o,sl,hd,0,(AP:Int),SM,⟨f.A,f.a,[1],I ⟨n1,0,Z⟩,1,[2+m.eps]⟩,⟨I ⟨n2,0,Z⟩,1,[m.limit%5],I ⟨n2+1,0,Z⟩,1,[10]⟩,P1,Z1,m.light,Wd,MG,3,m.seed⟩;have Ma:=AB (Ae E7 E7) (N #[U BF ((m.limit:Int)%5)] 132);have b14:=AB (Ae (E7.alloc (N #[U BF ((m.limit:Int)%5)] 132)) (E7.alloc (N #[U BF ((m.limit:Int)%5)] 132))) (N #[U BF 10] 132);have N2:=Oy E7 (m.limit%5) 132 J;rw[show((m.limit%5:Nat):Int)=(m.limit:Int)%5 by omega]at N2;have N3:=Oy (E7.alloc (N #[U BF ((m.limit:Int)%5)] 132)) 10 132 AC;rw[show((10:Nat):Int)=10 from rfl]at N3;have oh:(E7.alloc (N #[U BF ((m.limit:Int)%5)] 132)).heap.size=n2+1:=by rw[<-EU];simp
  rw[oh]at N3;rw[EU]at N2 gl;have M1:=F (gt (⟨o,sl,hd,0,(AP:Int),SM,⟨f.A,f.a,[1],I ⟨n1,0,Z⟩,1,[2+m.eps]⟩,⟨I ⟨n2,0,Z⟩,1,[m.limit%5],I ⟨n2+1,0,Z⟩,1,[10]⟩,P1,Z1,m.light,Wd,MG,3,m.seed⟩:BX).cs ((NN1.out.on Ma).on b14) Ne1.out);have M2:=F (gt (⟨o,sl,hd,0,(AP:Int),SM,⟨f.A,f.a,[1],I ⟨n1,0,Z⟩,1,[2+m.eps]⟩,⟨I ⟨n2,0,Z⟩,1,[m.limit%5],I ⟨n2+1,0,Z⟩,1,[10]⟩,P1,Z1,m.light,Wd,MG,3,m.seed⟩:BX).cs (N2.on b14) (show n2≠g by omega));have M3:=F (gt (⟨o,sl,hd,0,(AP:Int),SM,⟨f.A,f.a,[1],I ⟨n1,0,Z⟩,1,[2+m.eps]⟩,⟨I ⟨n2,0,Z⟩,1,[m.limit%5],I ⟨n2+1,0,Z⟩,1,[10]⟩,P1,Z1,m.light,Wd,MG,3,m.seed⟩:BX).cs N3 (show n2+1≠g by omega));clear Ma b14 N2 N3 oh;go_upto_region 19 with(refine VJ rfl 58 _ _ rfl g 25 #[R (I ⟨n2,0,Z⟩) 1 1,R (I ⟨n2+1,0,Z⟩) 1 1] AG AG 62 _ (⟨o,sl,hd,0,(AP:Int),SM,⟨f.A,f.a,[1],I ⟨n1,0,Z⟩,1,[2+m.eps]⟩,⟨I ⟨n2,0,Z⟩,1,[m.limit%5],I ⟨n2+1,0,Z⟩,1,[10]⟩,P1,Z1,m.light,Wd,MG,3,m.seed⟩:BX).cs K13.rs (qiz 58 2) (Fg AG) AG AG ?_)
  obtain⟨Mr,ol⟩:=Az (((E7.alloc (N #[U BF ((m.limit:Int)%5)] 132)).alloc (N #[U BF 10] 132)).setRow g (⟨o,sl,hd,0,(AP:Int),SM,⟨f.A,f.a,[1],I ⟨n1,0,Z⟩,1,[2+m.eps]⟩,⟨I ⟨n2,0,Z⟩,1,[m.limit%5],I ⟨n2+1,0,Z⟩,1,[10]⟩,P1,Z1,m.light,Wd,MG,3,m.seed⟩:BX).cs);rw[ol]at K14 M1 M2 M3 ⊢;refine zp ?_;have Ng2:=F gl;clear ol K13 K12 c13 Ne1 NN1 h5 gl EU;have c14:E Mr ⟨w,14,Z⟩=I (U Cd m.tries):=K14.mc 14;have s32:E Mr ⟨g,32,Z⟩=I (U O 3):=K14.sc 32;have f32:=K14.fr 32;obtain⟨T0,OU⟩:∃T0:Int,(wrap64 (m.tries:Int)).tmod 5=T0:=⟨_,Q⟩
  obtain⟨T1,hT1⟩:∃T1:Int,wrap64 (1+T0)=T1:=⟨_,Q⟩
  have K15:=K14.set 32 (U O T1) ⟨o,sl,hd,0,(AP:Int),SM,⟨f.A,f.a,[1],I ⟨n1,0,Z⟩,1,[2+m.eps]⟩,⟨I ⟨n2,0,Z⟩,1,[m.limit%5],I ⟨n2+1,0,Z⟩,1,[10]⟩,P1,Z1,m.light,Wd,MG,T1,m.seed⟩ Q;have M4:=F (gn (j:=32) (U O T1) M1.out (show n1≠g by have:=Ng1.out;omega));have M5:=F (gn (j:=32) (U O T1) M2.out (show n2≠g by have:=Ng2.out;omega));have M6:=F (gn (j:=32) (U O T1) M3.out (show n2+1≠g by have:=Ng2.out;omega));go_upto_region 20 with fail;obtain⟨Mt,oq⟩:=Az (Mr.setCell ⟨g,32,Z⟩ (U O T1));rw[oq]at K15 M4 M5 M6 ⊢;have F1:=Hf.out.e.n.on K15.f;have hE:=AaK (n1:=n1) (n2:=n2) (f:=f) hu HO.out HV.out hSM hP0 Np hZ0 hZ1 hMG OU hT1;rw[hE]at K15;clear hE oq K14 c14 s32 f32 M1 M2 M3;obtain⟨AY,hF⟩:∃AY:Hlf,(⟨f.A,f.a,I ⟨n1,0,Z⟩,1,I ⟨n2,0,Z⟩,1,I ⟨n2+1,0,Z⟩,1⟩:Hlf)=AY:=⟨_,Q⟩
  have r15:=K15.r0
  have IN:(m.Dx AY).In (Mt.setRow (w.heap.size+1) (m.Dx AY).cs):=by
   rw[<-hF];exact⟨⟨ay F1 r15 _,ay M4.out r15 _⟩,⟨ay M5.out r15 _,ay M6.out r15 _⟩⟩
  rw[hF]at K15;have R15:=F K15.rs;have Q15:=F r15;have BB:=F (K15.b.grown (Fw Mt (w.heap.size+1) (m.Dx AY).cs) K15.b.size (fun k hk=>by cases hk;omega));have IN:=F IN;clear hF r15 K15 F1 M4 M5 M6 OU hT1 hMG hP0 Np hZ0 hZ1 hSM
  go_wp2_with(first
   | (refine wpList_load_row Q 62 _ Q g Q 62 (m.Dx AY).cs (0,0) _ R15.out underlying62 Q (qiz 62 34) ?_)
   | (refine Mc Q 62 _ _ Q (w.heap.size+1) (m.Dx AY).cs AG AG 62 Es.cs Q15.out (qiz 62 34) Q AG ?_))
  refine De (v:= Ba (m.Dx AY).cs) ?_ Q ⟨AY,rfl,IN.out,BB.out⟩;exact WX Q _ _ (w.heap.size+1) 62 (m.Dx AY).cs (0,0) _ (by rfl) (GS Mt (w.heap.size+1) _ (m.Dx AY).cs _ (0,0) Q15.out) underlying62 Q (qiz 62 34))
end
def AiU(m:Min)(hm:m.Ok)(hu:m.U8)(w:V):
  AL AE 54 #[m.val] w fun e w'=>∃v,e=AN v/\Own w' w 196 5 C5.enc v m.rules/\Ag w w w':=by
 have b1:=AB (Ae w w) (N m.cs 24);have r0:(Ao w (N m.cs 24)).heap[w.heap.size]?=I (N m.cs 24 (0,0)):=CB _ _;have hr:=hm.resend;have l1:(wrap64 (m.loss:Int)).tmod 128=((m.loss%128:Nat):Int):=SO (k:=128) hu.loss;have l2:(wrap64 (m.noise:Int)).tmod 64=((m.noise%64:Nat):Int):=SO (k:=64) hu.noise;obtain⟨LO,hLO⟩:∃LO:Int,(wrap64 (m.loss:Int)).tmod 128=LO:=⟨_,Q⟩
 obtain⟨NO,hNO⟩:∃NO:Int,(wrap64 (m.noise:Int)).tmod 64=NO:=⟨_,Q⟩
 have HR:Aj (m.rules=[⟨1,0,0,LO,0⟩,⟨2,0,0,NO,0⟩]++ if 127<m.resend then[⟨4,0,511,2*((m.resend:Int)-127),0⟩]else[]):=F (by rw[<-hLO,<-hNO,l1,l2];rfl);clear l1 l2;show AL AE 54 #[Ba m] w _;go_in;go_upto_region 1 with fail;change Code.wp _ _ _ _ (Ao w (N m.cs 24));obtain⟨w1,BJ⟩:=Az (Ao w (N m.cs 24));rw[BJ]at b1 r0 ⊢;clear BJ;have c15:E w1 ⟨w,15,Z⟩=I (U Cd m.loss):=AX _ _ 15 _ _ _ r0;have c16:E w1 ⟨w,16,Z⟩=I (U Cd m.noise):=AX _ _ 16 _ _ _ r0;have c17:E w1 ⟨w,17,Z⟩=I (U Cd m.resend):=AX _ _ 17 _ _ _ r0
 have lit:Own (Ao w1 (N #[U O 1,U O 0,U O 0,U O LO,U O 0,U O 2,U O 0,U O 0,U O NO,U O 0] 196)) w 196 5 C5.enc (R (I ⟨w1,0,Z⟩) 2 2) [⟨1,0,0,LO,0⟩,⟨2,0,0,NO,0⟩]:=
  World.ownsRow_lit (size:=5) w1 #[U O 1,U O 0,U O 0,U O LO,U O 0,U O 2,U O 0,U O 0,U O NO,U O 0] 2 b1.size AC Q
 have b2:=AH b1 (AB (Ae w1 w1) (N #[U O 1,U O 0,U O 0,U O LO,U O 0,U O 2,U O 0,U O 0,U O NO,U O 0] 196));go_upto_region 2 with fail;have AiV:=AK (AB (Ae w1 w1) (N #[U O 1,U O 0,U O 0,U O LO,U O 0,U O 2,U O 0,U O 0,U O NO,U O 0] 196)) c17;obtain⟨w2,hw2⟩:=Az (Ao w1 (N #[U O 1,U O 0,U O 0,U O LO,U O 0,U O 2,U O 0,U O 0,U O NO,U O 0] 196));rw[hw2]at lit b2 AiV ⊢;obtain⟨v2,hv2⟩:=Az (Value.slice (I ⟨w1,0,Z⟩) 2 2);rw[hv2]at lit ⊢;clear hw2 hv2 c15 c16 c17 r0 b1 hLO hNO;by_cases h7:127<m.resend
 ·have hR:Aj (m.rules=[⟨1,0,0,LO,0⟩,⟨2,0,0,NO,0⟩]++ [⟨4,0,511,2*((m.resend:Int)-127),0⟩]):=F (by rw[HR.out,Bd h7])
  have e8:(127:Int)<(m.resend:Int):=J;have b2s:=b2.size;go_wp2_with(at_builtin;refine Ef underlying114 mH _ ⟨4,0,511,2*((m.resend:Int)-127),0⟩ lit (C5.one _) AO b2s ?_;intro v3 w3 Fm hb3);go_ret;rw[hR.out];exact⟨v3,Q,Fm,b2.trans hb3⟩
 ·have hR:Aj (m.rules=[⟨1,0,0,LO,0⟩,⟨2,0,0,NO,0⟩]):=F (by rw[HR.out,AU h7,List.append_nil])
  have e8:¬(127:Int)<(m.resend:Int):=J;go_wp2;go_ret;rw[hR.out];exact⟨v2,Q,lit,b2⟩
end Go.Proofs.YtjpidgffdkjjeaaGreat
