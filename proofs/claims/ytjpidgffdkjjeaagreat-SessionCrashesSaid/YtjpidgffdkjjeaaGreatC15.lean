/- Contracts and plain laws. No condition. -/
import Derived.Great.BuildSlice
import Derived.Test.YtjpidgffdkjjeaaGreatCA
import Derived.Test.YtjpidgffdkjjeaaGreatC12
import Derived.Test.YtjpidgffdkjjeaaGreatC13
import Derived.Test.YtjpidgffdkjjeaaGreatC14
set_option linter.all false
set_option maxHeartbeats 16000000
namespace Go.Proofs.YtjpidgffdkjjeaaGreat
open Go.Proofs.Tryz
open Go.Proofs.Tryz renaming prog->AE
open List renaming length->Y
open Go.World renaming cell?->E,setCell->Ai,alloc->Ao,frozen?->Bo
open Go.Value renaming int->U,slice->R,pointer->AI,agg->Ba,tuple->Be,nilFunc->Bl,bool->Av
open Go.IntKind renaming i64->O,u64->AA,u32->BF,u8->Cd
open Option renaming none->Z,some->I
open Go.Ending renaming returned->AN
open Go.Obj renaming cells->N
open Go renaming World->V,Value->An,Calls->AL,Addr->AS
open Go.RowKit renaming Below->Ag,Hid->Aj
set_option maxRecDepth 100000
open Go.RowKit
section
variable{b k:Nat}{v:List Int}{w:V}{x:Int}
def zT(A:Option AS)(c:Nat)(l:List AQ)(w:V)(hA:Arr 5 AQ.enc w w A l)(hl:Y l<=9223372036854775807):
  AL AE 132 #[R A (Y l) c] w fun e w'=>e=AN (U O (Bz AQ.ok l))/\Ag w w w':=by
 by_cases h:4096<Y l
 ·have d1:decide (4096<(Y l:Int))=true:=by simp;omega
  have e1:=F (XQ (ok:=AQ.ok) h);go_in;go_wp2;go_ret;exact⟨Cg e1.out.symm,Ae _ _⟩
 have d1:decide (4096<(Y l:Int))=false:=by simp;omega
 go_in;go_wp2_with fail;go_loopw [10] (fun i wr=>∃k:Nat,k<=Y l/\i=U O k/\Aj ((l.take k).all AQ.ok=true)/\Ag w w wr) (fun i _=>Y l+1-(intOf i).toNat);exact⟨0,BM _,rfl,F rfl,Ae _ _⟩
 obtain⟨k,hk,rfl,inv,hb⟩:=hrel;obtain⟨w6,rfl⟩:=qgn wr;rcases D4 k (Y l)with hlt | D8
 ·obtain⟨b,off,pb,BK,pc,Cf,ps,rfl,BN,hx,c0,c1,c2,c3,c4⟩:=hA.pls hlt hb
  have q7:=AB hb (N #[U O pb,Av BK,U O pc,U O Cf,Av ps] 154);have bad:Aj (AQ.ok ⟨pb,BK,pc,Cf,ps⟩=false->Bz AQ.ok l=2):=F (fun hf=>XR h hx hf);have good:=F (fun hf=>Vu hx inv hf);by_cases BI:(0<=pb/\pb<=1)/\(0<=pc/\pc<=2)/\(0<=Cf/\Cf<=3)
  ·obtain⟨⟨a1,a2⟩,⟨a3,a4⟩,a5,a6⟩:=BI
   have e1:decide (pb<0)=false:=by simp;omega
   have e2:decide (1<pb)=false:=by simp;omega
   have e3:decide (pc<0)=false:=by simp;omega
   have e4:decide (2<pc)=false:=by simp;omega
   have e5:decide (Cf<0)=false:=by simp;omega
   have e6:decide (3<Cf)=false:=by simp;omega
   have hg:=F (good.out (by simp[AQ.ok,AR];omega));go_wp2_with fail;exact⟨⟨k+1,J,qgm,hg,q7⟩,qio⟩
  ·have hbd:=F (bad.out (by simp[AQ.ok,AR];omega))
   clear good bad inv hx;go_wp2_with fail
   all_goals(first | (exfalso;omega) | (go_ret;exact⟨Cg hbd.out.symm,q7⟩))
 ·have e1:=F (XS (ok:=AQ.ok) h D8 inv)
  go_wp2;go_ret;exact⟨Cg e1.out.symm,hb⟩
def Da(l:List Int):Array An:=(l.map fun x=>Value.int .i64 x).toArray
def zU{l:List Int}(h:l[k]?=I x):(Da l)[k]?=I (U O x):=by simp[Da,h]
theorem zV(l:List Int)(k:Nat)(x:Int):(Da l).setIfInBounds k (U O x)=Da (l.set k x):=by grind [Da]
theorem zW{cs:List Int}(h:Y cs=12):∃a0 a1 a2 a3 a4 a5 a6 a7 a8 a9 Li Re,cs=[a0,a1,a2,a3,a4,a5,a6,a7,a8,a9,Li,Re]:=by
 match cs,h with
 | [a0,a1,a2,a3,a4,a5,a6,a7,a8,a9,Li,Re],_=>grind
def EK:List Int:=[0,0,0,0,0,0,0,0,0,0,0,0]
def Mf(w:V)(b:Nat)(v:List Int):Prop:=w.heap[b]?=I (N (Da v) 52 (0,0))
def Mf.on{w':V}(h:Mf w b v)(hb:Ag w w w'):Mf w' b v:=(hb.block b (Bm.1 h).1).trans h
def Mf.c(h:Mf w b v)(hk:v[k]?=I x):E w ⟨b,k,Z⟩=I (U O x):=(AX w b k _ _ _ h).trans (zU hk)
def Mf.all(h:Mf w b v):∀(j:Nat) (u:An),(Da v)[j]?=I u->E w ⟨b,0+j,Z⟩=I u:=fun j u hu=>by rw[EE];exact(AX w b j _ _ _ h).trans hu
def zX(A:Option AS)(c:Nat)(l:List AQ)(w:V)(hA:Arr 5 AQ.enc w w A l)(hl:Y l<=4611686018427387904):
  AL AE 167 #[R A (Y l) c] w fun e w'=>∃v:List Int,Y v=12/\e=AN (Be #[Ba (Da v),U O (Bz AQ.ok l)])/\Ag w w w':=by
 have hsz:∀v:List Int,Y v=12->(prog.info? 52).map (·.size)=I (Da v).size:=fun v hv=>by
  rw[show(Da v).size=12 by simp[Da,hv]];kernel_rfl
 have cV:=qbw w fun w' hb=>zT A c l w' (hA.on hb) J
 obtain⟨AM,hE⟩:=Az (Bz AQ.ok l);simp only[hE]at cV;rw[hE]
 have hall:Aj (AM=0->l.all AQ.ok=true):=F (fun h0=>by
  rw[<-hE]at h0;unfold Bz at h0;split at h0
  ·cases h0
  ·split at h0
   ·assumption
   ·cases h0)
 clear hE;go_in;go_upto_region 2 with fail;change Code.wp _ _ _ _ (Ao (Ao w (N (Da EK) 52)) (N (Da EK) 52));have q1:=AB (AB (Ae w w) (N (Da EK) 52)) (N (Da EK) 52);have R1:Mf (Ao (Ao w (N (Da EK) 52)) (N (Da EK) 52)) w EK:=Mf.on (w:=Ao w (N (Da EK) 52)) (CB w _) (AB (Ae _ _) _)
 have B1:Mf (Ao (Ao w (N (Da EK) 52)) (N (Da EK) 52)) (w.heap.size+1) EK:=by
  have h:=CB (Ao w (N (Da EK) 52)) (N (Da EK) 52);rw[show(Ao w (N (Da EK) 52)).heap.size=w.heap.size+1 by simp]at h;exact h
 have sz:↑w+2<=(Ao (Ao w (N (Da EK) 52)) (N (Da EK) 52)).heap.size:=AO;obtain⟨w1,BJ⟩:=Az (Ao (Ao w (N (Da EK) 52)) (N (Da EK) 52));rw[BJ]at q1 R1 B1 sz ⊢;clear BJ;go_wp2_with fail;refine gqz (cV _ q1) fun w2 hb2=>?_;have R2:=R1.on hb2;have B2:=B1.on hb2;have q2:=AH q1 hb2;have Nw:=Br sz hb2.size
 have fin:∀(wz:V) (v:List Int) (tm:Array An) (x:Int),Y v=12->Mf wz w v->tm[2]?.getD undef=AI (I ⟨w,0,Z⟩)->tm[3]?.getD undef=U O x->(results Tryz.f167 tm).run AE wz=.ok (Be #[Ba (Da v),U O x]) wz:=fun wz v tm x hv h h2 h3=>by
  rw[Jg Q];simp[asAddr,h2,h3,run_loadVar_row wz w 52 52 (Da v) (0,0) _ h Tryz.underlying52 Q (hsz v hv),Result.andThen]
 have Fin:=F fin;clear fin R1 B1 q1 sz;by_cases e0:AM=0
 case neg=>
  have g1:(AM != 0)=true:=qsu e0;clear e0;go_wp2_with(first | (refine JN 52 _ Q (w.heap.size+1) 0 Q (Da EK) _ B2.all Tryz.underlying52 Q (hsz EK Q) (by rfl) ?_) | (refine Mc Q 52 _ _ Q w (Da EK) AG AG 52 (Da EK) R2 (hsz EK Q) Q AG ?_));exact De (v:= Be #[Ba (Da EK),U O AM]) (Fin.out _ EK _ AM Q (GS w2 w _ (Da EK) _ (0,0) R2) Q Q) Q ⟨EK,rfl,rfl,q2.grown (Fw w2 w (Da EK)) q2.size (fun k hk=>by cases hk;omega)⟩
 subst e0;have OF:=hall.out Q;clear hall cV;go_upto_region 6 with fail;go_loopw [16] (fun i wr=>∃(k:Nat) (v:List Int),k<=Y l/\i=U O k/\Y v=12/\Mf wr (w.heap.size+1) v/\Mf wr w EK/\Ag w w wr/\w.heap.size+2<=wr.heap.size) (fun i _=>Y l-(intOf i).toNat);exact⟨0,EK,J,rfl,rfl,B2,R2,q2,Nw⟩
 obtain⟨k,v,hk,rfl,hv,Bv,Rv,qv,szv⟩:=hrel;obtain⟨w6,rfl⟩:=qgn wr;by_cases hlt:k<Y l
 ·obtain⟨b,off,pb,BK,pc,Cf,ps,rfl,BN,hx,c0,c1,c2,c3,c4⟩:=hA.pls hlt qv
  have BI:=EA.1 OF _ (DI hx);simp only[AQ.ok,AR,Bool.and_eq_true,decide_eq_true_eq]at BI;obtain⟨⟨_,a3,a4⟩,a5,a6⟩:=BI;obtain⟨C,hC⟩:=DV a3;obtain⟨D,hD⟩:=DV a5;subst hC hD;obtain⟨x,hxv⟩:∃x,v[C*4+D]?=I x:=⟨_,CH J⟩
  go_upto_region 8 with fail;have d2:E (Ao w6 (N #[U O pb,Av BK,U O C,U O D,Av ps] 154)) ⟨w6,2,Z⟩=I (U O C):=Cb Q;have d3:E (Ao w6 (N #[U O pb,Av BK,U O C,U O D,Av ps] 154)) ⟨w6,3,Z⟩=I (U O D):=Cb Q;have bb:=AB (Ae w6 w6) (N #[U O pb,Av BK,U O C,U O D,Av ps] 154);have B7:=Bv.on bb;have R7:=Rv.on bb;have q7:=AB qv (N #[U O pb,Av BK,U O C,U O D,Av ps] 154);obtain⟨P,hP⟩:=Az (w6.heap.size);obtain⟨w7,Ig⟩:=Az (Ao w6 (N #[U O pb,Av BK,U O C,U O D,Av ps] 154));have sz7:w.heap.size+2<=w7.heap.size:=by rw[<-Ig];simp;omega
  rw[Ig]at d2 d3 B7 R7 q7 ⊢;rw[hP]at d2 d3 ⊢;clear Ig hP bb Bv Rv qv szv c0 c1 c2 c3 c4;have dx:=B7.c hxv;have fx:Bo w7 ⟨↑w+1,C*4+D,Z⟩=false:=CJ w7 _ _ _ _ B7;obtain⟨Bp,hY⟩:=Az (wrap64 (x+1));have i1:(C:Int)<3:=J;have i2:(D:Int)<4:=J;go_region
  have B8:Mf (Ai w7 ⟨↑w+1,C*4+D,Z⟩ (U O Bp)).drew (w.heap.size+1) (v.set (C*4+D) Bp):=by
   have h:=CM w7 (w.heap.size+1) (C*4+D) (Da v) _ (U O Bp) B7;rw[zV]at h;exact h
  have R8:Mf (Ai w7 ⟨↑w+1,C*4+D,Z⟩ (U O Bp)).drew w EK:=(Jo w7 ⟨↑w+1,C*4+D,Z⟩ w (U O Bp) AO).trans R7;have q8:=(q7.setCell (p:=⟨↑w+1,C*4+D,Z⟩) AO (U O Bp)).drew;have IH:↑w+2<=(Ai w7 ⟨↑w+1,C*4+D,Z⟩ (U O Bp)).drew.heap.size:=Br sz7 (Fo w7 (w.heap.size+1) (C*4+D) (U O Bp)).size;clear B7 R7 q7 dx fx hY;go_wp2_with fail;exact⟨⟨k+1,v.set (C*4+D) Bp,J,qgm,by simp[hv],B8,R8,q8,IH⟩,qio⟩
 ·go_upto_region 10 with fail
  go_wp2_with(first | (refine JN 52 _ Q (w.heap.size+1) 0 Q (Da v) _ Bv.all Tryz.underlying52 Q (hsz v hv) (by rfl) ?_) | (refine Mc Q 52 _ _ Q w (Da v) AG AG 52 (Da EK) Rv (hsz v hv) (by rw[show(Da v).size=12 by simp[Da,hv]];rfl) (by simp[Da,Value.oneCell']) ?_));exact De (v:= Be #[Ba (Da v),U O 0]) (Fin.out _ v _ 0 hv (GS w6 w _ (Da v) _ (0,0) Rv) Q Q) Q ⟨v,hv,rfl,qv.grown (Fw w6 w (Da v)) qv.size (fun k hk=>by cases hk;omega)⟩
def fD(A:Option AS)(c:Nat)(l:List AQ)(n:Int)(w:V)(hA:Arr 5 AQ.enc w w A l)(hl:Y l<=4611686018427387904):
  AL AE 118 #[R A (Y l) c,U O n] w fun e w'=>e=AN (Av (((Y l:Int) == n)&&(Bz AQ.ok l == 0)))/\Ag w w w':=by
 have cC:=zX A c l w hA hl;generalize Bz AQ.ok l=AM at*;go_in;go_wp2_with fail;refine cC.mono ?_;rintro e w2⟨v,hv,rfl,hb2⟩;obtain⟨a0,a1,a2,a3,a4,a5,a6,a7,a8,a9,Li,Re,rfl⟩:=zW hv;change Ag w w w2 at hb2;simp only[Da,List.map_cons,List.map_nil];have q3:=AB hb2 (N #[U O a0,U O a1,U O a2,U O a3,U O a4,U O a5,U O a6,U O a7,U O a8,U O a9,U O Li,U O Re] 52);cases b1:((Y l:Int) == n) <;> cases b2:(AM == 0)
 all_goals(
  go_wp2;go_ret;exact⟨JJ (by rw[b1,b2];rfl),q3⟩)
end
def X0:DE:=⟨0,0,0,Z,0,[],0⟩
def Dq.set{w:V}{b:Nat}{l l':DE}(j:Nat)(v:An)(h:Dq w b l)(hs:l.cs.setIfInBounds j v=l'.cs):Dq (Ai w ⟨b,j,Z⟩ v) b l':=by
 unfold Dq;rw[<-hs];exact CM w b j _ _ v h
theorem Dq.fr{w:V}{b:Nat}{l:DE}(h:Dq w b l)(j:Nat):Bo w ⟨b,j,Z⟩=false:=CJ w b j _ _ h
def UE(l:DE):(prog.info? 39).map (·.size)=I l.cs.size:=(qiz 39 5)
def ak(w:V)(o:Obj):(Ao w o).heap[w.heap.size]?=I o:=by
 show(w.heap.push o)[w.heap.size]?=I o;simp
def zY:(prog.info? 39).map (fun i=>(i.zero,i.size,i.bytes))=I (I (Ba X0.cs),5,56):=AG
def mW(w:V):AL AE 103 #[AI Z] w fun e w'=>e=AN (R Z 0 0)/\w=w':=by
 go_in;go_wp2;go_ret;exact⟨Q,Q⟩
def fE(p:Nat)(l:DE)(w:V)(hp:Dq w p l)(h:l.In w)(hl:Y l.ws<=1000000):
  AL AE 103 #[AI (I ⟨p,0,Z⟩)] w fun e w'=>∃b A' c',e=AN (R (I ⟨b,0,Z⟩) 1 1)/\Dq w' b {l with A:=A',c:=c'}/\({l with A:=A',c:=c'}:DE).In w'/\Ag w w w'/\w.heap.size<=b/\∀a,A'=I a->w.heap.size<=a.block/\a.block<↑w':=by
 have cC:=qbw w fun w' hb=>WV l.A l.c l.ws w' (h.a.on hb) h.nil h.len J
 obtain⟨iL,hiL,hzL,hsL,_⟩:=IA zY;have HiL:=F hiL;have HzL:=F hzL;have HsL:=F hsL;clear hiL hzL hsL;go_in;go_upto_region 3 with fail;refine wp_region_lit ?_;go_upto_region 4 with(first | (refine JN 39 _ rfl p 0 rfl l.cs _ hp.all underlying39 rfl (UE l) (by rfl) ?_) | (refine Great.wpList_allocTo rfl (I 3) rfl (AI (I ⟨w,0,Z⟩)) (N X0.cs 39) AG ?_) | (refine Mc rfl 39 _ _ rfl w l.cs AG AG 39 X0.cs (ak _ _) (UE l) rfl AG ?_))
 rw[World.setRow_alloc_new];refine zp ?_;have q1:=AB (Ae w w) (N l.cs 39);have N1:=Dq.new w l;have P1:=hp.on q1;obtain⟨w1,BJ⟩:=Az (Ao w (N l.cs 39));obtain⟨B,hB⟩:=Az (w.heap.size);have Qd:B<↑w1:=by rw[<-BJ,<-hB];simp
 rw[BJ]at q1 N1 P1 ⊢;rw[hB]at N1 ⊢;clear BJ;have x3:E w1 ⟨p,3,Z⟩=I (R l.A (Y l.ws) l.c):=P1.c 3;go_wp2_with fail;refine(cC _ q1).mono ?_;rintro e w2⟨v,rfl,ow,hb2⟩;obtain⟨A',c',rfl,l1,m1,n1,_⟩:=ow.form DY;have N2:=N1.on hb2;have q2:=AH q1 hb2;have y3:E w2 ⟨B,3,Z⟩=I (R l.A (Y l.ws) l.c):=N2.c 3;have f3:=N2.fr 3;have g:=Fo w2 B 3 (R A' (Y l.ws) c');have N3:Dq (Ai w2 ⟨B,3,Z⟩ (R A' (Y l.ws) c')) B {l with A:=A',c:=c'}:=N2.set 3 _ Q
 have Fm:=Own.keep (w:=w2) ow g (by
  cases A' with
  | none=>exact .inl Q
  | some a=>
   refine .inr ?_;have h9:=(Cp ow a.block Q).1;simp[Value.ownBlock];omega)
 have fr:∀a,A'=I a->w.heap.size<=a.block/\a.block<↑w2:=fun a e=>by
  subst e;have h9:=(Cp ow a.block Q).1;have h7:=(Cp ow a.block Q).2;omega
 have q3:=q2.setCell (p:=⟨B,3,Z⟩) (by rw[<-hB];exact Bg _) (R A' (Y l.ws) c');clear x3 cC P1 N1;have mX:↑w2=(Ai w2 ⟨B,3,Z⟩ (R A' (Y l.ws) c')).heap.size:=AO;go_upto_region 5 with fail;obtain⟨w3,hw3⟩:=Az (Ai w2 ⟨B,3,Z⟩ (R A' (Y l.ws) c'));rw[hw3]at N3 Fm q3 mX ⊢;clear hw3 g f3 y3 N2;go_wp2_with(first | (refine JN 39 _ Q B 0 Q ({l with A:=A',c:=c'}:DE).cs _ N3.all underlying39 Q (UE _) (by rfl) ?_) | (refine wpList_buildSlice Q 103 39 1 _ Q ({l with A:=A',c:=c'}:DE).cs iL (Ba X0.cs) underlying103 HiL HzL (by rw[HsL.out];decide) (by rw[HsL.out];decide) (by rw[HsL.out];kernel_rfl) ?_));go_ret;have bb:=AB (Ae w3 w3) (N ({l with A:=A',c:=c'}:DE).cs 39);obtain⟨A9,c9,hv9,_,_,_,Nx⟩:=(Fm.below bb).form DY;cases hv9;have Kr:↑w2<=(Ao w3 (N ({l with A:=A',c:=c'}:DE).cs 39)).heap.size:=by rw[mX];simp
 exact⟨w3,A',c',Q,Dq.new w3 _,⟨Nx,l1,m1,n1⟩,AB q3 _,q3.size,fun a e=>⟨(fr a e).1,Ck (fr a e).2 Kr⟩⟩
structure SJ(w:V)(pb nb mb b:Nat)(bits:List Bool):Prop where
 p:pb≠b
 n:nb≠b
 m:mb≠b
 a:∀A c,E w ⟨pb,2,Z⟩=I (R A (Y bits) c)->∀a,A=I a->a.block≠b
def SJ.on{w w':V}{pb nb mb b W:Nat}{bits:List Bool}{u:List Nat}(h:SJ w pb nb mb b bits)(hp:CG w pb nb mb W bits u)(hb:Ag w w w'):SJ w' pb nb mb b bits:=
 ⟨h.p,h.n,h.m,fun A c hc=>by
  obtain⟨A0,c0,h2,_⟩:=hp.c2;have h3:=AK hb h2;rw[h3]at hc;cases hc;exact h.a A c h2⟩
def nH{P:Program}{W:V}{ops:Array Oper}{o:Oper}{a:Act}{K:Act->V->Prop}{Bn:Exit->Act->V->Prop}{AM:Prop}(hgd:o.guard=Z)(ty:TypeId)(x:Operand)(ho:o.op=.load ty x)
  (g off:Nat) (hx:a.eval x=AI (I ⟨g,off,Z⟩)) (cs:Array An) (d:TypeDesc) (hc:∀(j:Nat) (v:An),cs[j]?=I v->E W ⟨g,off+j,Z⟩=I v)
  (hu:P.underlying ty=I d) (hd:(match d with | .struct _ | .array _ _=>true | _=>false)=true) (hi:(P.info? ty).map (·.size)=I cs.size)
  (h:K (a.put o.dst (Ba cs)) W):if Region.wanted o (yielded ops a.tmps)=true then Oper.wp P o a W K Bn else AM:=by
 rw[Bd (by simp[Region.wanted,hgd])];unfold Oper.wp execOp;simp only[ho,hx,Instr.loadAt,Instr.sureAddr,Sem.run_bind,Sem.run_pure,Result.andThen_ok,WQ W g off ty cs d hc hu hd hi];exact h
def CX(x:BR)(kind:Int)(W:Nat)(bits:List Bool)(u:List Nat)(A:Option AS)(c:Nat)(ws:List Int)(t:Nat):DE:=⟨x.last,kind,(Dr W bits u x.side:Nat),A,c,ws,t⟩
def Qh(x:BR)(kind:Int)(W:Nat)(bits:List Bool)(u:List Nat)(ws:List Int):Int:=if JT W bits u x.side=0 then EX W bits u (Dr W bits u x.side:Nat) (Ga (CX x kind W bits u Z 0 ws 0))else JT W bits u x.side
structure nJ(w3 wx:V)(p mb:Nat)(L:DE)(pb nb W:Nat)(bits:List Bool)(u:List Nat)(n:Nat)(E2:Int)(v:An):Prop where
 v:v=U O E2
 out:DF w3 wx p mb
 l:Dq wx p L
 p:(E2≠0/\CG wx pb nb mb W bits u)\/(E2=0/\CG wx pb nb mb W bits (n::u))
def nK(b:Nat)(x:BR)(kind:Int)(A:Option AS)(c:Nat)(ws:List Int)(nb mb W:Nat)(bits:List Bool)(u:List Nat)(w:V)(hx:Cu w b x)(pool:CG w x.pool nb mb W bits u)(off:SJ w x.pool nb mb b bits)
  (hA:Arr 1 BD w w A ws) (hl:Y ws<=c) (hc:c<=maxLen) (hn:A=Z->c=0) (hAo:∀a,A=I a->a.block≠b/\a.block≠mb) (hh:H5 (CX x kind W bits u A c ws 0)=true) (hw:ws.all okW=true):
  AL AE 120 #[AI (I ⟨b,0,Z⟩),U O kind,R A (Y ws) c] w fun e w'=>
   DF w w' b mb/\((Qh x kind W bits u ws≠0/\e=AN (R Z 0 0)/\Cu w' b {x with k:={x.k with phase:=3,reason:=14}}/\CG w' x.pool nb mb W bits u)\/
    (Qh x kind W bits u ws=0/\∃p d A' c',e=AN (R (I ⟨d,0,Z⟩) 1 1)/\Cu w' b {x with k:={x.k with sent:= AI (I ⟨p,0,Z⟩)}}/\CG w' x.pool nb mb W bits (Dr W bits u x.side::u)/\
     Dq w' p (CX x kind W bits u A c ws (Ky W bits (Dr W bits u x.side:Nat) (Ga (CX x kind W bits u Z 0 ws 0))))/\Dq w' d (CX x kind W bits u A' c' ws (Ky W bits (Dr W bits u x.side:Nat) (Ga (CX x kind W bits u Z 0 ws 0))))/\(CX x kind W bits u A' c' ws 0).In w'/\w.heap.size<=p/\w.heap.size<=d/\∀a,A'=I a->w.heap.size<=a.block/\a.block<↑w')):=by
 have cN:=fun(y:ED w)=>Ss (Aaa x.pool nb mb W bits u x.side y.w (pool.on y.2))
 have Qi:=Di (show E w ⟨b,35,Z⟩=I (U O x.side)from hx.c 35);have x36:=Di (show E w ⟨b,36,Z⟩=I (AI (I ⟨x.pool,0,Z⟩))from hx.c 36);have hE:Aj (Qh x kind W bits u ws=if JT W bits u x.side=0 then EX W bits u (Dr W bits u x.side:Nat) (Ga (CX x kind W bits u Z 0 ws 0))else JT W bits u x.side):=F Q;obtain⟨AM,hEq⟩:=Az (JT W bits u x.side);rw[hEq]at hE;simp only[hEq]at cN;have HEq:=F hEq;clear hEq;go_in;go_upto_region 1 with fail;refine Jf AG AG ?_;(repeat(go_big_quiet_step (((go_at_call 168;exact cN _)))));refine GP ?_;rintro w2⟨⟨_,hb2⟩,rfl⟩;have hx2:=hx.on hb2;have nL:=pool.on hb2;have Kz:E w2 ⟨b,38,Z⟩=I (U O x.last):=hx2.c 38;clear Qi x36 cN;go_upto_region 3 with(first | (refine Qc rfl 39 _ rfl #[(0,U O x.last),(1,U O kind),(2,U O (Dr W bits u x.side:Nat)),(3,R A (Y ws) c)] AG (CX x kind W bits u A c ws 0).cs AG ?_) | (refine Great.wpList_allocTo Q (I 9) Q (AI (I ⟨w2,0,Z⟩)) (N X0.cs 39) AG ?_) | (refine Mc Q 39 _ _ Q w2 (CX x kind W bits u A c ws 0).cs AG AG 39 X0.cs (ak _ _) (UE _) Q AG ?_))
 rw[World.setRow_alloc_new];refine zp ?_;have N3:=Dq.new w2 (CX x kind W bits u A c ws 0);have bb:=AB (Ae w2 w2) (N (CX x kind W bits u A c ws 0).cs 39);have hx3:=hx2.on bb;have Yw:=nL.on bb;have q3:=AH hb2 bb;have Mn:=(Bm.1 hx2).1;have ltw:=hb2.size;obtain⟨w3,hw3⟩:=Az (Ao w2 (N (CX x kind W bits u A c ws 0).cs 39));obtain⟨p,hp⟩:=Az (w2.heap.size);have ltp:p<↑w3:=by rw[<-hw3,<-hp];simp
 rw[hw3]at N3 hx3 Yw q3 ⊢;rw[hp]at N3 Mn ltw ⊢;clear hw3 hp bb hx2 nL Kz hb2;by_cases e0:AM=0
 case neg=>
  have g1:(AM == 0)=false:=qsu e0;have g2:(AM != 0)=true:=qsu e0;have g3:=F (show Qh x kind W bits u ws≠0 by rw[hE.out,AU e0];exact e0);clear e0 N3;have Yx:=off.on pool q3;have Nz:E w3 ⟨b,39,Z⟩=I (U O x.k.phase):=hx3.c 39;have y40:E w3 ⟨b,40,Z⟩=I (U O x.k.reason):=hx3.c 40;have IK:=hx3.fr 39;have z40:=hx3.fr 40;have S1:Cu (Ai w3 ⟨b,39,Z⟩ (U O 3)) b {x with k:={x.k with phase:=3}}:=hx3.set 39 _ Q;have S2:Cu (Ai (Ai w3 ⟨b,39,Z⟩ (U O 3)) ⟨b,40,Z⟩ (U O 14)) b {x with k:={x.k with phase:=3,reason:=14}}:=S1.set 40 _ Q;have gg:=Fj (Fo w3 b 39 (U O 3)) (Fo _ b 40 (U O 14));have pe:=Yw.kept gg (qsu Yx.p) (qsu Yx.n) (qsu Yx.m) (fun A c h a ha=>by simpa using Yx.a A c h a ha);have oo:=(DF.of b mb q3).trans (DF.grown (m:=mb) gg (.inl Q));clear hx3 Yw S1 gg;go_wp2;go_ret;exact⟨oo,.inl ⟨g3.out,rfl,S2,pe⟩⟩
 subst e0;obtain⟨E2,Gs⟩:=Az (EX W bits u (Dr W bits u x.side:Nat) (Ga (CX x kind W bits u Z 0 ws 0)));obtain⟨T,hT⟩:=Az (Ky W bits (Dr W bits u x.side:Nat) (Ga (CX x kind W bits u Z 0 ws 0)));obtain⟨T2,hT2⟩:∃T2:Nat,(if E2=0 then T else 0)=T2:=⟨_,Q⟩
 have HT2:=F hT2;have HT3:=F (show(if E2=0 then(T:Int)else 0)=(T2:Int)by rw[<-hT2];split <;> rfl);have hs2:Qh x kind W bits u ws=E2:=by rw[hE.out,Bd Q,Gs]
 have HE2:=F Gs;have HT:=F hT;have Hs2:=F hs2;have mbp:=Ck pool.us.lt ltw
 have mid:∀y2:V,DF w3 y2 p mb->Dq y2 p (CX x kind W bits u A c ws 0)->((E2≠0/\CG y2 x.pool nb mb W bits u)\/(E2=0/\CG y2 x.pool nb mb W bits (Dr W bits u x.side::u)))->nJ w3 (y2.setCell ⟨p,4,Z⟩ (U AA T2)) p mb (CX x kind W bits u A c ws T2) x.pool nb W bits u (Dr W bits u x.side) E2 (U O E2):=fun y2 ho N2 hP=>by
  have g:=Fo y2 p 4 (U AA T2);obtain⟨A0,c0,h20,_,_,_,_,hblk⟩:=pool.c2;have bl1:x.pool<↑w:=Ch w _ pool.c0;have bl2:nb<↑w:=Ch w _ pool.d0;have c2y:=(Fx (ho.block x.pool (by have:=q3.size;omega) J pool.bm)).trans (AK q3 h20)
  have kp:∀u',CG y2 x.pool nb mb W bits u'->CG (y2.setCell ⟨p,4,Z⟩ (U AA T2)) x.pool nb mb W bits u':=fun u' hp=>hp.kept g qsm qsm qsm (fun A c hc a ha=>by
   rw[c2y]at hc;cases hc;have:=(hblk a ha).2;simp;omega)
  refine⟨Q,ho.trans (DF.grown g (.inl Q)),N2.set 4 _ Q,?_⟩;rcases hP with⟨h1,h2⟩ | ⟨h1,h2⟩
  ·exact .inl ⟨h1,kp _ h2⟩
  ·exact .inr ⟨h1,kp _ h2⟩
 clear Gs hT hs2 hE hT2;go_upto_if 33 with fail;go_cut [8] (fun v wx=>nJ w3 wx p mb (CX x kind W bits u A c ws T2) x.pool nb W bits u (Dr W bits u x.side) E2 v)
 case first=>
  go_upto_region 4 with fail;have x36:E w3 ⟨b,36,Z⟩=I (AI (I ⟨x.pool,0,Z⟩)):=hx3.c 36;have fZ:E w3.drew ⟨b,36,Z⟩=I (AI (I ⟨x.pool,0,Z⟩)):=x36;have inL:(CX x kind W bits u A c ws 0).In w3.drew:=⟨hA.on q3.drew,hl,hc,hn⟩
  have cS:=mV (CX x kind W bits u A c ws 0) w3.drew inL hh hw;unfold DE.val at cS;refine Fz (S:=fun _=>True) AG trivial (fun hHeld=>?_);refine tQ4 0 ?_;refine tQ 5 ?_;refine I8 [4,6] ?_;refine Dj Q (fun K1 BS=>?_) (Dj Q (fun K1 BS=>?_) GQ)
  ·go_simp
   refine BS.out _ _ trivial (fun _=>?_);refine zp ?_;refine url 6 (fun K2 hK2=>?_);refine nH (by rfl) 39 _ (by rfl) p 0 (by rfl) (CX x kind W bits u A c ws 0).cs _ N3.all underlying39 Q (UE _) ?_;refine hK2.out _ _ trivial (fun _=>?_);refine zp ?_;refine url 7 (fun K3 hK3=>?_);go_simp;refine cS.mono ?_;rintro e y1⟨vs,rfl,ows,hy1⟩;have nM:=AK (w:=w3.drew) hy1 fZ;refine hK3.out _ _ trivial (fun _=>?_);refine zp ?_;have hY:=(Ae w3 w3).drew.trans hy1;have NA:=Yw.on hY;obtain⟨Ms,ms,hvs,l1,m1,n1,SL⟩:=ows.form Dk;subst hvs;have cL:=nG x.pool nb mb W bits u (Dr W bits u x.side:Nat) Ms ms (Ga (CX x kind W bits u A c ws 0)) y1 NA SL l1 m1;have NY:=N3.on hY;refine url 8 (fun K9 TN=>?_);rw[show Ga (CX x kind W bits u A c ws 0)=Ga (CX x kind W bits u Z 0 ws 0)from rfl,HE2.out,HT.out,HT3.out]at cL;go_simp;refine gqz cL fun y2 hS=>?_
   have hOut:DF w3 y2 p mb/\Dq y2 p (CX x kind W bits u A c ws 0)/\((E2≠0/\CG y2 x.pool nb mb W bits u)\/(E2=0/\CG y2 x.pool nb mb W bits (Dr W bits u x.side::u))):=by
    rcases hS with⟨h1,h2⟩ | ⟨h1,h2,h3⟩
    ·exact⟨DF.of p mb (hY.trans (h2.mono hY.size)),NY.on h2,.inl ⟨h1,NA.on h2⟩⟩
    ·exact⟨(DF.of p mb hY).trans (DF.grown h3 (.inr (.inl Q))),(h3.block p (Ck ltp hY.size) qsm).trans NY,.inr ⟨h1,by simpa using h2⟩⟩
   clear hS cL NY NA SL;obtain⟨ho,N2,hP⟩:=hOut;refine TN.out _ _ trivial (fun _=>?_);refine zp ?_;refine tQ4 9 ?_;have y4:E y2 ⟨p,4,Z⟩=I (U AA 0):=N2.c 4;have z4:=N2.fr 4;refine url 13 (fun NB gd=>?_);go_simp;refine gd.out _ _ trivial (fun _=>?_);refine zp ?_;refine tQ 14 ?_;refine Ce ?_;go_wp2;go_meet;exact mid y2 ho N2 hP
  ·refine nH (by rfl) 39 _ (by rfl) p 0 (by rfl) (CX x kind W bits u A c ws 0).cs _ N3.all underlying39 Q (UE _) ?_
   refine BS.out _ _ trivial (fun _=>?_);refine zp ?_;refine I8 [4,7] ?_;refine Dj Q (fun K2 hK2=>?_) (Dj Q (fun K2 hK2=>?_) GQ)
   focus
    go_simp
    refine hK2.out _ _ trivial (fun _=>?_);refine zp ?_;refine url 7 (fun K3 hK3=>?_);go_simp;refine cS.mono ?_;rintro e y1⟨vs,rfl,ows,hy1⟩;have nM:=AK (w:=w3.drew) hy1 fZ
   rotate_left
   focus
    skip
    go_simp;refine cS.mono ?_;rintro e y1⟨vs,rfl,ows,hy1⟩;have nM:=AK (w:=w3.drew) hy1 fZ;refine hK2.out _ _ trivial (fun _=>?_);refine zp ?_;refine url 4 (fun K3 hK3=>?_);go_simp
   rotate_left
   all_goals
    refine hK3.out _ _ trivial (fun _=>?_);refine zp ?_;have hY:=(Ae w3 w3).drew.trans hy1;have NA:=Yw.on hY;obtain⟨Ms,ms,hvs,l1,m1,n1,SL⟩:=ows.form Dk;subst hvs;have cL:=nG x.pool nb mb W bits u (Dr W bits u x.side:Nat) Ms ms (Ga (CX x kind W bits u A c ws 0)) y1 NA SL l1 m1;have NY:=N3.on hY;refine url 8 (fun K9 TN=>?_);rw[show Ga (CX x kind W bits u A c ws 0)=Ga (CX x kind W bits u Z 0 ws 0)from rfl,HE2.out,HT.out,HT3.out]at cL;go_simp;refine gqz cL fun y2 hS=>?_
    have hOut:DF w3 y2 p mb/\Dq y2 p (CX x kind W bits u A c ws 0)/\((E2≠0/\CG y2 x.pool nb mb W bits u)\/(E2=0/\CG y2 x.pool nb mb W bits (Dr W bits u x.side::u))):=by
     rcases hS with⟨h1,h2⟩ | ⟨h1,h2,h3⟩
     ·exact⟨DF.of p mb (hY.trans (h2.mono hY.size)),NY.on h2,.inl ⟨h1,NA.on h2⟩⟩
     ·exact⟨(DF.of p mb hY).trans (DF.grown h3 (.inr (.inl Q))),(h3.block p (Ck ltp hY.size) qsm).trans NY,.inr ⟨h1,by simpa using h2⟩⟩
    clear hS cL NY NA SL;obtain⟨ho,N2,hP⟩:=hOut;refine TN.out _ _ trivial (fun _=>?_);refine zp ?_;refine tQ4 9 ?_;have y4:E y2 ⟨p,4,Z⟩=I (U AA 0):=N2.c 4;have z4:=N2.fr 4;refine url 13 (fun NB gd=>?_);go_simp;refine gd.out _ _ trivial (fun _=>?_);refine zp ?_;refine tQ 14 ?_;refine Ce ?_;go_wp2;go_meet;exact mid y2 ho N2 hP
 obtain⟨hv,mo,mN,mP⟩:=hcut;subst hv;obtain⟨w4,rfl⟩:=qgn wc;have bl1:x.pool<↑w:=Ch w _ pool.c0;have nN:b<↑w3:=J;have mbb:=off.m;have Gc:Cu w4 b x:=(mo.block b nN J (Ne.symm mbb)).trans hx3;have nO:DF w w4 b mb:=⟨mo.os.trans q3.os,mo.tape.trans q3.tape,mo.output.trans q3.output,Br q3.size mo.size,fun k hk h1 h2=>(mo.block k (Ck hk q3.size) J h2).trans (q3.block k hk)⟩
 obtain⟨A0,c0,h20,_,_,_,_,hblk⟩:=pool.c2;have c2y:=(Fx (mo.block x.pool J J pool.bm)).trans (AK q3 h20)
 have Qj:SJ w4 x.pool nb mb b bits:=⟨off.p,off.n,off.m,fun A c hc a ha=>by
  rw[c2y]at hc;cases hc;exact off.a A0 c0 h20 a ha⟩
 by_cases e2:E2=0
 case neg=>
  have g1:(E2 != 0)=true:=qsu e2;have g3:=F (show Qh x kind W bits u ws≠0 by rw[Hs2.out];exact e2)
  have p4:CG w4 x.pool nb mb W bits u:=by
   rcases mP with⟨_,h⟩ | ⟨h,_⟩
   ·exact h
   ·exact absurd h e2
  clear e2 mid mN mP;have Nz:E w4 ⟨b,39,Z⟩=I (U O x.k.phase):=Gc.c 39;have y40:E w4 ⟨b,40,Z⟩=I (U O x.k.reason):=Gc.c 40;have IK:=Gc.fr 39;have z40:=Gc.fr 40;have S1:Cu (Ai w4 ⟨b,39,Z⟩ (U O 3)) b {x with k:={x.k with phase:=3}}:=Gc.set 39 _ Q;have S2:Cu (Ai (Ai w4 ⟨b,39,Z⟩ (U O 3)) ⟨b,40,Z⟩ (U O 14)) b {x with k:={x.k with phase:=3,reason:=14}}:=S1.set 40 _ Q;have gg:=Fj (Fo w4 b 39 (U O 3)) (Fo _ b 40 (U O 14));have pe:=p4.kept gg (qsu Qj.p) (qsu Qj.n) (qsu Qj.m) (fun A c h a ha=>by simpa using Qj.a A c h a ha);have oo:=nO.trans (DF.grown (m:=mb) gg (.inl Q));clear Gc p4 S1 gg;go_wp2;go_ret;exact⟨oo,.inl ⟨g3.out,rfl,S2,pe⟩⟩
 subst e2
 have p4:CG w4 x.pool nb mb W bits (Dr W bits u x.side::u):=by
  rcases mP with⟨h,_⟩ | ⟨_,h⟩
  ·exact absurd Q h
  ·exact h
 have hT2:T2=T:=HT2.out.symm;subst hT2;have y44:E w4 ⟨b,44,Z⟩=I x.k.sent:=Gc.c 44;have z44:=Gc.fr 44;clear mid mP;go_upto_region 9 with fail;have Jp:Cu (Ai w4 ⟨b,44,Z⟩ (AI (I ⟨p,0,Z⟩))) b {x with k:={x.k with sent:= AI (I ⟨p,0,Z⟩)}}:=Gc.set 44 _ Q;have g5:=Fo w4 b 44 (AI (I ⟨p,0,Z⟩));have p5:=p4.kept g5 (qsu Qj.p) (qsu Qj.n) (qsu Qj.m) (fun A c h a ha=>by simpa using Qj.a A c h a ha);have N5:Dq (Ai w4 ⟨b,44,Z⟩ (AI (I ⟨p,0,Z⟩))) p (CX x kind W bits u A c ws T2):=(Jo w4 ⟨b,44,Z⟩ p _ qsm).trans mN;have Yy:=nO.trans (DF.grown (m:=mb) g5 (.inl Q));have in5:(CX x kind W bits u A c ws T2).In (Ai w4 ⟨b,44,Z⟩ (AI (I ⟨p,0,Z⟩))):=⟨fG hA Yy hAo,hl,hc,hn⟩
 have Rx:=(mU hh).2.2.2;have cP:=fE p (CX x kind W bits u A c ws T2) _ N5 in5 (Br Rx AC);have y5:E (Ai w4 ⟨b,44,Z⟩ (AI (I ⟨p,0,Z⟩))) ⟨b,44,Z⟩=I (AI (I ⟨p,0,Z⟩)):=Jp.c 44;obtain⟨w5,Ct⟩:=Az (Ai w4 ⟨b,44,Z⟩ (AI (I ⟨p,0,Z⟩)));rw[Ct]at Jp p5 N5 Yy cP y5 ⊢;clear Ct g5 Gc p4 mN in5 y44 z44;go_wp2_with fail;refine cP.mono ?_;rintro e w6⟨d,A6,c6,rfl,M6,in6,BV,fd,fA⟩;go_wp2;go_ret;refine⟨Yy.trans (DF.of b mb BV),.inr ⟨Hs2.out,p,d,A6,c6,rfl,Jp.on BV,p5.on BV,?_,?_,⟨in6.a,in6.len,in6.cap,in6.nil⟩,?_,?_,?_⟩⟩
 ·rw[HT.out];exact N5.on BV
 ·rw[HT.out];exact M6
 ·omega
 ·exact Br Yy.size fd
 ·exact fun a e=>⟨Br Yy.size (fA a e).1,(fA a e).2⟩
def Aax(b:Nat)(x:BR)(kind:Int)(A:Option AS)(c:Nat)(ws:List Int)(nb mb W:Nat)(bits:List Bool)(u:List Nat)(w:V)(hx:Cu w b x)(pool:CG w x.pool nb mb W bits u)(off:SJ w x.pool nb mb b bits)
  (hA:Arr 1 BD w w A ws) (hl:Y ws<=c) (hc:c<=maxLen) (hn:A=Z->c=0) (hAo:∀a,A=I a->a.block≠b/\a.block≠mb) (hh:H5 (CX x kind W bits u A c ws 0)=true) (hw:ws.all okW=true):
  AL AE 120 #[AI (I ⟨b,0,Z⟩),U O kind,R A (Y ws) c] w fun e w'=>
   DF w w' b mb/\((Qh x kind W bits u ws≠0/\e=AN (R Z 0 0)/\Cu w' b {x with k:={x.k with phase:=3,reason:=14}}/\∃u',CG w' x.pool nb mb W bits u')\/
    (Qh x kind W bits u ws=0/\∃p d A' c',e=AN (R (I ⟨d,0,Z⟩) 1 1)/\Cu w' b {x with k:={x.k with sent:= AI (I ⟨p,0,Z⟩)}}/\CG w' x.pool nb mb W bits (Dr W bits u x.side::u)/\
     Dq w' p (CX x kind W bits u A c ws (Ky W bits (Dr W bits u x.side:Nat) (Ga (CX x kind W bits u Z 0 ws 0))))/\Dq w' d (CX x kind W bits u A' c' ws (Ky W bits (Dr W bits u x.side:Nat) (Ga (CX x kind W bits u Z 0 ws 0))))/\(CX x kind W bits u A' c' ws 0).In w')):=
 (nK b x kind A c ws nb mb W bits u w hx pool off hA hl hc hn hAo hh hw).mono fun _ _ ⟨ho,h⟩=>⟨ho,h.imp (fun⟨h1,h2,h3,h4⟩=>⟨h1,h2,h3,u,h4⟩) (fun⟨h1,p,d,A',c',h2,h3,h4,h5,h6,h7,_⟩=>⟨h1,p,d,A',c',h2,h3,h4,h5,h6,h7⟩)⟩
theorem Aay{P:Program}(w:V)(g o:Nat)(t ty:TypeId)(old cells new:Array An)(hg:w.heap[g]?=I (N old t (0,0)))(hi:(P.info? ty).map (·.size)=I cells.size)
  (ho:o+cells.size<=old.size) (h1:cells.all (·.oneCell')=true) (hn:(old.toList.take o++ cells.toList++ old.toList.drop (o+cells.size)).toArray=new):
  (storeVar ty ⟨g,o,Z⟩ (Ba cells)).run P w=.ok () (w.setRow g new):=by
 have:=run_storeCells_at (P:=P) g o t cells.toList 0 old w hg qsm (fun v hv=>(Array.all_eq_true_iff_forall_mem.1 h1) v (by grind));cases hq:P.info? ty with
 | none=>grind
 | some i=>
  have hs:cells.size=i.size:=by grind
  simp only[Nat.add_zero,Array.length_toList,hn]at this;simp[storeVar,sizeOf,typeInfo,hq,Value.cells,hs,this]
def UF{P:Program}{ops:Array Oper}{rest:List Oper}{o:Oper}{a:Act}{w:V}{Bn:Exit->Act->V->Prop}(hgd:o.guard=Z)(ty:TypeId)(x y:Operand)(ho:o.op=.store ty x y)
  (g off:Nat) (cells:Array An) (hx:a.eval x=AI (I ⟨g,off,Z⟩)) (hy:a.eval y=Ba cells)
  (t:TypeId) (old new:Array An) (hg:w.heap[g]?=I (N old t (0,0))) (hi:(P.info? ty).map (·.size)=I cells.size)
  (hold:off+cells.size<=old.size) (h1:cells.all (·.oneCell')=true) (hn:(old.toList.take off++ cells.toList++ old.toList.drop (off+cells.size)).toArray=new)
  (h:wpList P ops Bn rest (a.put o.dst undef) (w.setRow g new)):wpList P ops Bn (o::rest) a w:=
 wpList_plain hgd fun _ hK=>by
  unfold Oper.wp execOp;simp only[ho,hx,hy,Instr.storeAt,Instr.sureAddr,Sem.run_bind,Sem.run_pure,Result.andThen_ok,Aay w g off t ty old cells new hg hi hold h1 hn];exact hK _ _ h
def Qk(b:Nat)(x:BR)(w:V)(hx:Cu w b x):AL AE 70 #[AI (I ⟨b,0,Z⟩)] w fun e w'=>e=AN (Av true)/\w=w':=by
 have x0:E w ⟨b,0,Z⟩=I (Av true):=hx.c 0;go_in;go_wp2;go_ret;exact⟨Q,Q⟩
def CY(p:AQ):Int:=2*p.basis+(if p.bit=true then 1 else 0)+(if p.seen=true then 0 else 4)
def JX(x:BR)(ses:Int)(pv wv:An):BR:={x with last:=ses,k:={Jn with phase:=1,pulses:=pv,wait:=wv}}
def Aaz(b:Nat)(x:BR)(ses:Int)(A:Option AS)(c:Nat)(l:List AQ)(w:V)(hx:Cu w b x)(hs:x.side=0)(Gd:x.k.phase≠4)(h1:1<=ses/\ses<=1000)(KA:x.last<ses)
  (hA:Arr 5 AQ.enc w w A l) (hl:Y l<=c) (hc:c<=maxLen) (hn:A=Z->c=0) (hAo:∀a,A=I a->a.block≠b) (hsl:x.s.slots=(Y l:Int)) (BI:Bz AQ.ok l=0) (Yz:0<=x.s.head/\x.s.head<=(Y l:Int))
  (nb mb W:Nat) (bits:List Bool) (u:List Nat) (pool:CG w x.pool nb mb W bits u) (off:SJ w x.pool nb mb b bits) (hmb:mb<↑w) (hh:H5 ⟨ses,1,(Dr W bits u x.side:Nat),Z,0,(l.take x.s.head.toNat).map CY,0⟩=true)
  (UD:JT W bits u x.side=0) (Ql:EX W bits u (Dr W bits u x.side:Nat) (Ga ⟨ses,1,(Dr W bits u x.side:Nat),Z,0,(l.take x.s.head.toNat).map CY,0⟩)=0):
  AL AE 61 #[AI (I ⟨b,0,Z⟩),U O ses,R A (Y l) c,R Z 0 0] w fun e w'=>
   DF w w' b mb/\∃d A' c' T,e=AN (Be #[R (I ⟨d,0,Z⟩) 1 1,U O 0])/\Dq w' d ⟨ses,1,(Dr W bits u x.side:Nat),A',c',(l.take x.s.head.toNat).map CY,T⟩:=by
 have h4:Y l<=4096:=by
  unfold Bz at BI;split at BI
  ·cases BI
  ·omega
 have hall:Aj (l.all AQ.ok=true):=F (by
  have h0:=BI;unfold Bz at h0;split at h0
  ·cases h0
  ·split at h0
   ·assumption
   ·cases h0)
 obtain⟨i0,hi,hz0,hz1,hz2⟩:=IA Gr;have Hi:=F hi;have EJ:=F hz0;have Ep:=F hz1;have Eh:=F hz2;clear hi hz0 hz1 hz2;have H8:E w ⟨b,39,Z⟩=I (U O x.k.phase):=hx.c 39;have Kz:E w ⟨b,38,Z⟩=I (U O x.last):=hx.c 38;have Qi:E w ⟨b,35,Z⟩=I (U O 0):=qrb hs (hx.c 35);have Mb:E w ⟨b,19,Z⟩=I (U O (Y l)):=qrb hsl (hx.c 19);have e1:(x.k.phase == 4)=false:=qsu Gd;have e2:AR ses 1 1000=true:=by simp[AR];omega
 have e3:decide (ses<=x.last)=false:=Ds J;have cV:=Qk b x w hx;have cS:=fD A c l (Y l:Int) w hA J;rw[BI]at cS;clear Gd KA BI;go_enter Tryz.func61,Tryz.ntmps61;go_wp2_with(first | (go_at_call 70;refine mqv (cV) ?_) | (go_at_call 116;refine mqv (FH _ _ _ _) ?_;rw[e2]));refine gqz cS fun w2 hb2=>?_;have hx2:=hx.on hb2;rw[show(((Y l:Int) == (Y l:Int))&&((0:Int) == 0))=true by simp];have Ry:=AK hb2 Qi;have Qm:E w2 ⟨b,38,Z⟩=I (U O x.last):=hx2.c 38;have f38:=hx2.fr 38;clear H8 Kz Qi Mb e1 e2 e3 cV cS;go_upto_region 13 with fail;have hx3:Cu (Ai w2 ⟨b,38,Z⟩ (U O ses)) b {x with last:=ses}:=hx2.set 38 _ Q;have o3:=(DF.of b b hb2).trans (DF.grown (Fo w2 b 38 (U O ses)) (.inl Q));obtain⟨w3,hw3⟩:=Az (Ai w2 ⟨b,38,Z⟩ (U O ses));rw[hw3]at hx3 o3 ⊢;clear hw3 Ry Qm f38;have Ry:E w3 ⟨b,35,Z⟩=I (U O 0):=qrb hs (hx3.c 35);have Ff:=fG hA o3 (fun a ha=>⟨hAo a ha,hAo a ha⟩);have Mn:=(Bm.1 hx).1;have nN:=Ck Mn o3.size;have cC:=mI A c l w3 Ff hn hl J;go_wp2_with fail;refine cC.mono ?_;rintro e w4⟨v,rfl,ow,hb4⟩;obtain⟨A4,c4,rfl,l4,m4,n4,Qn⟩:=ow.form AQ.BY;have Gc:=hx3.on hb4;have o4:=o3.trans (DF.of b b hb4);have Jp:=Gc.on (AB (Ae w4 w4) (N #[U O 2] 3));have o5:=o4.trans (DF.of b b (AB (Ae w4 w4) (N #[U O 2] 3)));have NC:=ow.alloc (N #[U O 2] 3);clear Ry cC;go_upto_region 17 with(first | (refine Qc rfl 140 _ rfl #[(0,U O 1),(2,R A4 (Y l) c4),(4,R (I ⟨w4,0,Z⟩) 1 1)] AG ({Jn with phase:=1,pulses:= R A4 (Y l) c4,wait:= R (I ⟨w4,0,Z⟩) 1 1}:ON).cs AG ?_) | (refine UF Q 140 _ _ Q b 39 ({Jn with phase:=1,pulses:= R A4 (Y l) c4,wait:= R (I ⟨w4,0,Z⟩) 1 1}:ON).cs AG AG 142 _ (JX x ses (R A4 (Y l) c4) (R (I ⟨w4,0,Z⟩) 1 1)).cs Jp (qiz 140 18) (Fg AG) AG AG ?_))
 have Mo:Cu ((Ao w4 (N #[U O 2] 3)).setRow b (JX x ses (R A4 (Y l) c4) (R (I ⟨w4,0,Z⟩) 1 1)).cs) b (JX x ses (R A4 (Y l) c4) (R (I ⟨w4,0,Z⟩) 1 1)):=GS _ b _ _ _ (0,0) Jp;have g6:=Fw (Ao w4 (N #[U O 2] 3)) b (JX x ses (R A4 (Y l) c4) (R (I ⟨w4,0,Z⟩) 1 1)).cs;have o6:=o5.trans (DF.grown g6 (.inl Q))
 have ow6:=Own.keep NC g6 (by
  cases A4 with
  | none=>exact .inl Q
  | some a=>
   refine .inr ?_;have h9:=(Cp ow a.block Q).1;simp[Value.ownBlock];omega)
 obtain⟨A',c',heq,_,_,_,Jq⟩:=ow6.form AQ.BY;cases heq;obtain⟨w6,Ge⟩:=Az ((Ao w4 (N #[U O 2] 3)).setRow b (JX x ses (R A4 (Y l) c4) (R (I ⟨w4,0,Z⟩) 1 1)).cs);rw[Ge]at Mo o6 ow6 Jq ⊢;clear Ge g6 Jp o5 NC Gc o4;obtain⟨H,hH⟩:=DV Yz.1;have hHl:H<=Y l:=by have:=Yz.2;rw[hH]at this;omega
 have Jr:E w6 ⟨b,20,Z⟩=I (U O H):=qrb hH (Mo.c 20);have OT:E w6 ⟨b,41,Z⟩=I (R A4 (Y l) c4):=Mo.c 41;go_upto_region 18 with fail;go_region;have o7:=o6.trans (DF.of b b (Ae w6 w6).drew);have hx7:Cu w6.drew b (JX x ses (R A4 (Y l) c4) (R (I ⟨w4,0,Z⟩) 1 1)):=Mo;have ND:=Jq.on (Ae w6 w6).drew;obtain⟨w7,Ig⟩:=Az (w6.drew);rw[Ig]at o7 hx7 ND ⊢;clear Ig o6 Mo Jq ow6 Jr OT Ff;go_upto_region 19 with fail;go_loopw [10,104] (fun ov iv wr=>∃k:Nat,k<=H/\iv=U O k/\Own wr w7 3 1 BD ov ((l.take k).map CY)/\Ag w7 w7 wr) (fun _ iv _=>H-(intOf iv).toNat);exact⟨0,J,rfl,Own.nil,Ae _ _⟩
 obtain⟨k,hk,rfl,oj,Co⟩:=hrel;obtain⟨w8,rfl⟩:=qgn wr;by_cases hlt:k<H
 ·have Qp:k<Y l:=J
  obtain⟨bk,off,pb,BK,pc,Cf,ps,rfl,BN,hp,c0,c1,c2,c3,c4⟩:=ND.pls Qp Co;have okp:=EA.1 hall _ (DI hp);have hpb:pb=0\/pb=1:=by simp[AQ.ok,AR]at okp;omega
  have hst:Aj ((l.take (k+1)).map CY=(l.take k).map CY++ [CY ⟨pb,BK,pc,Cf,ps⟩]):=F (by rw[GU,hp.out];simp);have Cm:(((l.take k).map CY).length+1)*8<=140737488355328:=by rw[Dz,DC];omega
  have FE:∀n:Int,∀u∈BD n,u.oneCell'=true:=fun n u hu=>by
   simp[BD]at hu;subst hu;rfl
  have Js:=oj.alloc (N #[U O pb,Av BK,U O pc,U O Cf,Av ps] 154);have q8:=AB Co (N #[U O pb,Av BK,U O pc,U O Cf,Av ps] 154);have KB:=q8.size;clear hx7 o7 ow hA oj okp hp;generalize(l.take k).map CY=L at*;rcases hpb with rfl | rfl
  ·cases BK
   ·cases ps
    ·have CW:Aj ((l.take (k+1)).map CY=L++ [(4:Int)]):=F (by rw[hst.out];rfl)
     go_wp2_with(at_builtin;refine Ef underlying37 Gr L (4:Int) Js (FE _) Cm KB ?_;intro v9 w9 CD BC);exact⟨⟨k+1,J,qgm,qrf CW.out CD,q8.trans BC⟩,qio⟩
    ·have CW:Aj ((l.take (k+1)).map CY=L++ [(0:Int)]):=F (by rw[hst.out];rfl)
     go_wp2_with(at_builtin;refine Ef underlying37 Gr L (0:Int) Js (FE _) Cm KB ?_;intro v9 w9 CD BC);exact⟨⟨k+1,J,qgm,qrf CW.out CD,q8.trans BC⟩,qio⟩
   ·cases ps
    ·have CW:Aj ((l.take (k+1)).map CY=L++ [(5:Int)]):=F (by rw[hst.out];rfl)
     go_wp2_with(at_builtin;refine Ef underlying37 Gr L (5:Int) Js (FE _) Cm KB ?_;intro v9 w9 CD BC);exact⟨⟨k+1,J,qgm,qrf CW.out CD,q8.trans BC⟩,qio⟩
    ·have CW:Aj ((l.take (k+1)).map CY=L++ [(1:Int)]):=F (by rw[hst.out];rfl)
     go_wp2_with(at_builtin;refine Ef underlying37 Gr L (1:Int) Js (FE _) Cm KB ?_;intro v9 w9 CD BC);exact⟨⟨k+1,J,qgm,qrf CW.out CD,q8.trans BC⟩,qio⟩
  ·cases BK
   ·cases ps
    ·have CW:Aj ((l.take (k+1)).map CY=L++ [(6:Int)]):=F (by rw[hst.out];rfl)
     go_wp2_with(at_builtin;refine Ef underlying37 Gr L (6:Int) Js (FE _) Cm KB ?_;intro v9 w9 CD BC);exact⟨⟨k+1,J,qgm,qrf CW.out CD,q8.trans BC⟩,qio⟩
    ·have CW:Aj ((l.take (k+1)).map CY=L++ [(2:Int)]):=F (by rw[hst.out];rfl)
     go_wp2_with(at_builtin;refine Ef underlying37 Gr L (2:Int) Js (FE _) Cm KB ?_;intro v9 w9 CD BC);exact⟨⟨k+1,J,qgm,qrf CW.out CD,q8.trans BC⟩,qio⟩
   ·cases ps
    ·have CW:Aj ((l.take (k+1)).map CY=L++ [(7:Int)]):=F (by rw[hst.out];rfl)
     go_wp2_with(at_builtin;refine Ef underlying37 Gr L (7:Int) Js (FE _) Cm KB ?_;intro v9 w9 CD BC);exact⟨⟨k+1,J,qgm,qrf CW.out CD,q8.trans BC⟩,qio⟩
    ·have CW:Aj ((l.take (k+1)).map CY=L++ [(3:Int)]):=F (by rw[hst.out];rfl)
     go_wp2_with(at_builtin;refine Ef underlying37 Gr L (3:Int) Js (FE _) Cm KB ?_;intro v9 w9 CD BC);exact⟨⟨k+1,J,qgm,qrf CW.out CD,q8.trans BC⟩,qio⟩
 ·obtain rfl:k=H:=J
  have hk3:x.s.head.toNat=k:=J;rw[hk3]at hh Ql;obtain⟨ws,Mp⟩:=Az ((l.take k).map CY);rw[Mp]at oj hh Ql;obtain⟨A5,c5,rfl,l5,m5,n5,ar5⟩:=oj.form DY;have hx8:=hx7.on Co;have o8:=o7.trans (DF.of b b Co);have G:w.grownBy w8 (I b):=⟨o8.os,o8.tape,o8.output,o8.size,fun i hi h1=>o8.block i hi (qsu h1) (qsu h1)⟩
  have AaA:=pool.kept G (qsu off.p) (qsu off.n) (qsu off.m) (fun A c h a ha=>by simpa using off.a A c h a ha)
  have AaB:SJ w8 x.pool nb mb b bits:=⟨off.p,off.n,off.m,fun A c hc=>by
   obtain⟨A0,c0,h20,_⟩:=pool.c2;have h3:=(Fx (o8.block x.pool (Ch w _ pool.c0) off.p off.p)).trans h20;rw[h3]at hc;cases hc;exact off.a A c h20⟩
  have sz7:=o7.size
  have hA5:∀a,A5=I a->a.block≠b/\a.block≠mb:=fun a ha=>by
   subst ha;have h9:=(Cp oj a.block Q).1;omega
  have Ct:ws.all okW=true:=by
   rw[<-Mp,EA];intro y hy;obtain⟨q,hq,rfl⟩:=Ld.1 hy;have okq:=EA.1 hall _ (Ui hq);simp[AQ.ok,AR]at okq;have hbq:0<=CY q/\CY q<=65535:=by unfold CY;split <;> split <;> omega
   simp[okW,AR];omega
  have hh5:H5 (CX (JX x ses (R A4 (Y l) c4) (R (I ⟨w4,0,Z⟩) 1 1)) 1 W bits u A5 c5 ws 0)=true:=by
   simp only[H5]at hh;simp only[H5,CX,JX];exact hh
  have cS:=Aax b (JX x ses (R A4 (Y l) c4) (R (I ⟨w4,0,Z⟩) 1 1)) 1 A5 c5 ws nb mb W bits u w8 hx8 AaA AaB ar5 l5 m5 n5 hA5 hh5 Ct
  have NE:Qh (JX x ses (R A4 (Y l) c4) (R (I ⟨w4,0,Z⟩) 1 1)) 1 W bits u ws=0:=by
   unfold Qh;rw[Bd (show JT W bits u (JX x ses (R A4 (Y l) c4) (R (I ⟨w4,0,Z⟩) 1 1)).side=0 from UD)];exact Ql
  have o8m:DF w w8 b mb:=⟨o8.os,o8.tape,o8.output,o8.size,fun i hi h1 _=>o8.block i hi h1 h1⟩
  clear hx7 o7 oj UD Ql hh hA;go_wp2_with fail;refine cS.mono ?_;rintro e w9⟨o9,h⟩;rcases h with⟨h,_⟩ | ⟨_,p,d,A',c',rfl,_,_,_,L9,_⟩
  ·exact absurd NE h
  go_wp2;go_ret2;exact⟨o8m.trans o9,d,A',c',_,Q,by rw[hk3,Mp];exact L9⟩
def Rz:Bw:=⟨0,0,0,256,256,0,0,0,256,0,0,0,0,256,0,0,256,0⟩
def nU:Bw:=⟨0,0,0,0,0,0,0,0,0,0,0,0,0,0,0,0,0,0⟩
def Ij(A1 A2 A3 A4:Option AS)(slots head block sample width:Int)(seed:Nat):BX:=
 ⟨Rz,slots,head,0,block,sample,⟨A1,1,[1],A2,1,[4]⟩,⟨A3,1,[1],A4,1,[8]⟩,1,16,0,width,0,3,seed⟩
def nX(slots head block sample width:Int)(seed:Nat)(w:V):
  AL AE 59 #[U O slots,U O head,U O block,U O sample,U O width,U AA seed] w fun e w'=>
   ∃A1 A2 A3 A4,e=AN (Ij A1 A2 A3 A4 slots head block sample width seed).val/\(Ij A1 A2 A3 A4 slots head block sample width seed).In w'/\Ag w.heap.size w w':=by
 have q1:=AB (Ae w.heap.size w) (N Es.cs 62);have Nq:=EV.new w Es;go_in;go_upto_region 1 with(refine Great.wpList_allocTo rfl (I 12) rfl (AI (I ⟨w.heap.size,0,Z⟩)) (N Es.cs 62) AG ?_)
 obtain⟨w1,BJ⟩:=Az (w.alloc (N Es.cs 62));rw[BJ]at q1 Nq ⊢;clear BJ
 go_upto_region 2 with(first
  | (refine Qc Q 54 _ Q #[(0,U O 0),(1,Ba #[U O 0,U O 0,U O 256]),(2,Ba #[U O 256,U O 0,U O 0,U O 0,U O 256,U O 0,U O 0,U O 0,U O 0,U O 256,U O 0,U O 0]),(3,U O 256)] AG Rz.cs AG ?_)
  | (refine Great.wpList_allocTo Q (I 13) Q (AI (I ⟨w1.heap.size,0,Z⟩)) (N nU.cs 54) AG ?_)
  | (refine Mc Q 54 _ _ Q w1.heap.size Rz.cs AG AG 54 nU.cs (ak _ _) (qiz 54 18) Q AG ?_))
 rw[World.setRow_alloc_new];refine zp ?_;have b2:=AB (Ae w1.heap.size w1) (N Rz.cs 54);have q2:=AH q1 b2;have Fy:=Nq.on b2
 have O2:∀(j:Nat) (v:An),Rz.cs[j]?=I v->(w1.alloc (N Rz.cs 54)).cell? ⟨w1.heap.size,0+j,Z⟩=I v:=fun j v h=>by
  rw[EE];exact Cb h
 obtain⟨w2,hw2⟩:=Az (w1.alloc (N Rz.cs 54));obtain⟨g,hg⟩:=Az (w1.heap.size);rw[hw2]at q2 Fy O2 ⊢;rw[hg]at O2 ⊢;clear hw2 hg b2 q1 Nq;have c3:Ag w2.heap.size w2 (w2.alloc (N #[U BF 1] 132)):=AB (Ae _ _) _;have n1:Nt (w2.alloc (N #[U BF 1] 132)) (I ⟨w2.heap.size,0,Z⟩) 1 [1]:=Oy w2 1 132 AC;have c4:Ag ((w2.alloc (N #[U BF 1] 132))) (w2.alloc (N #[U BF 1] 132)) ((w2.alloc (N #[U BF 1] 132)).alloc (N #[U BF 4] 132)):=AB (Ae _ _) _;have n2:Nt ((w2.alloc (N #[U BF 1] 132)).alloc (N #[U BF 4] 132)) (I ⟨(w2.alloc (N #[U BF 1] 132)).heap.size,0,Z⟩) 1 [4]:=Oy _ 4 132 AC;have c5:Ag (((w2.alloc (N #[U BF 1] 132)).alloc (N #[U BF 4] 132))) ((w2.alloc (N #[U BF 1] 132)).alloc (N #[U BF 4] 132)) (((w2.alloc (N #[U BF 1] 132)).alloc (N #[U BF 4] 132)).alloc (N #[U BF 1] 132)):=AB (Ae _ _) _;have n3:Nt (((w2.alloc (N #[U BF 1] 132)).alloc (N #[U BF 4] 132)).alloc (N #[U BF 1] 132)) (I ⟨((w2.alloc (N #[U BF 1] 132)).alloc (N #[U BF 4] 132)).heap.size,0,Z⟩) 1 [1]:=Oy _ 1 132 AC;have c6:Ag ((((w2.alloc (N #[U BF 1] 132)).alloc (N #[U BF 4] 132)).alloc (N #[U BF 1] 132))) (((w2.alloc (N #[U BF 1] 132)).alloc (N #[U BF 4] 132)).alloc (N #[U BF 1] 132)) ((((w2.alloc (N #[U BF 1] 132)).alloc (N #[U BF 4] 132)).alloc (N #[U BF 1] 132)).alloc (N #[U BF 8] 132)):=AB (Ae _ _) _;have n4:Nt ((((w2.alloc (N #[U BF 1] 132)).alloc (N #[U BF 4] 132)).alloc (N #[U BF 1] 132)).alloc (N #[U BF 8] 132)) (I ⟨(((w2.alloc (N #[U BF 1] 132)).alloc (N #[U BF 4] 132)).alloc (N #[U BF 1] 132)).heap.size,0,Z⟩) 1 [8]:=Oy _ 8 132 AC;have m3:=(n3.on c6);have m2:=(n2.on c5).on c6;have m1:=((n1.on c4).on c5).on c6;have q6:=AH (AH (AH (AH q2 c3) c4) c5) c6;have JO:=(((Fy.on c3).on c4).on c5).on c6;simp only[World.size_alloc]at n4 m3 m2 m1;have lt2:=(Bm.1 Fy).1;have N4:=F n4;have M3:=F m3;have M2:=F m2;have M1:=F m1;have Q6:=F q6;have L2:=F lt2;clear n1 n2 n3 n4 m1 m2 m3 c3 c4 c5 c6 q6 Fy q2 lt2
 go_wp2_with(first
  | (refine JN 54 _ Q g 0 Q Rz.cs _ O2 underlying54 Q (qiz 54 18) (by rfl) ?_)
  | (refine Great.wpList_buildSliceTo Q 56 132 1 _ (by rfl) w2.heap.size Q (I 25) Q underlying56 #[U BF 1] AG ?_)
  | (refine Great.wpList_buildSliceTo Q 56 132 1 _ (by rfl) (w2.heap.size+1) AO (I 26) Q underlying56 #[U BF 4] AG ?_)
  | (refine Qc Q 58 #[(0,.tmp 25),(1,.tmp 26)] Q #[(0,R (I ⟨w2.heap.size,0,Z⟩) 1 1),(1,R (I ⟨(w2.heap.size+1),0,Z⟩) 1 1)] AG #[R (I ⟨w2.heap.size,0,Z⟩) 1 1,R (I ⟨(w2.heap.size+1),0,Z⟩) 1 1] AG ?_)
  | (refine Great.wpList_buildSliceTo Q 56 132 1 _ (by rfl) (w2.heap.size+2) AO (I 28) Q underlying56 #[U BF 1] AG ?_)
  | (refine Great.wpList_buildSliceTo Q 56 132 1 _ (by rfl) (w2.heap.size+3) AO (I 29) Q underlying56 #[U BF 8] AG ?_)
  | (refine Qc Q 58 #[(0,.tmp 28),(1,.tmp 29)] Q #[(0,R (I ⟨(w2.heap.size+2),0,Z⟩) 1 1),(1,R (I ⟨(w2.heap.size+3),0,Z⟩) 1 1)] AG #[R (I ⟨(w2.heap.size+2),0,Z⟩) 1 1,R (I ⟨(w2.heap.size+3),0,Z⟩) 1 1] AG ?_)
  | (refine Qc Q 60 _ Q #[(0,U O 1),(1,U O 16)] AG #[U O 1,U O 16,U AA 0] AG ?_)
  | (refine Qc Q 62 _ Q #[(0,Ba Rz.cs),(1,U O slots),(2,U O head),(4,U O block),(5,U O sample),(6,Ba #[R (I ⟨w2.heap.size,0,Z⟩) 1 1,R (I ⟨(w2.heap.size+1),0,Z⟩) 1 1]),(7,Ba #[R (I ⟨(w2.heap.size+2),0,Z⟩) 1 1,R (I ⟨(w2.heap.size+3),0,Z⟩) 1 1]),(8,Ba #[U O 1,U O 16,U AA 0]),(9,U O width),(10,U O 0),(11,U O 3),(12,U AA seed)] AG (Ij (I ⟨w2.heap.size,0,Z⟩) (I ⟨(w2.heap.size+1),0,Z⟩) (I ⟨(w2.heap.size+2),0,Z⟩) (I ⟨(w2.heap.size+3),0,Z⟩) slots head block sample width seed).cs AG ?_)
  | (refine Mc Q 62 _ _ Q w.heap.size (Ij (I ⟨w2.heap.size,0,Z⟩) (I ⟨w2.heap.size+1,0,Z⟩) (I ⟨w2.heap.size+2,0,Z⟩) (I ⟨w2.heap.size+3,0,Z⟩) slots head block sample width seed).cs AG AG 62 Es.cs JO (qiz 62 34) Q AG ?_))
 obtain⟨w6,Ge⟩:=Az (((((w2.alloc (N #[U BF 1] 132)).alloc (N #[U BF 4] 132)).alloc (N #[U BF 1] 132)).alloc (N #[U BF 8] 132)));rw[Ge]at JO N4 M3 M2 M1 Q6 ⊢;clear Ge;have rh:=GS w6 w.heap.size _ (Ij (I ⟨w2.heap.size,0,Z⟩) (I ⟨w2.heap.size+1,0,Z⟩) (I ⟨w2.heap.size+2,0,Z⟩) (I ⟨w2.heap.size+3,0,Z⟩) slots head block sample width seed).cs _ (0,0) JO;have gr:=Fw w6 w.heap.size (Ij (I ⟨w2.heap.size,0,Z⟩) (I ⟨w2.heap.size+1,0,Z⟩) (I ⟨w2.heap.size+2,0,Z⟩) (I ⟨w2.heap.size+3,0,Z⟩) slots head block sample width seed).cs;have lt2:=L2.out
 have kp:∀(g:Nat) (l:List Nat),w2.heap.size<=g->Nt w6 (I ⟨g,0,Z⟩) 1 l->Nt (w6.setRow w.heap.size (Ij (I ⟨w2.heap.size,0,Z⟩) (I ⟨w2.heap.size+1,0,Z⟩) (I ⟨w2.heap.size+2,0,Z⟩) (I ⟨w2.heap.size+3,0,Z⟩) slots head block sample width seed).cs) (I ⟨g,0,Z⟩) 1 l:=
  fun g l hg h=>⟨fG h.arr (DF.grown (b:=w.heap.size) (m:=w.heap.size) gr (.inl Q)) (fun a ha=>by cases ha;simp only[ne_eq,and_self];omega),h.len,h.cap,h.dig,h.nil⟩
 refine De (v:= Ba (Ij (I ⟨w2.heap.size,0,Z⟩) (I ⟨w2.heap.size+1,0,Z⟩) (I ⟨w2.heap.size+2,0,Z⟩) (I ⟨w2.heap.size+3,0,Z⟩) slots head block sample width seed).cs) ?_ Q ⟨_,_,_,_,rfl,⟨⟨kp _ _ (Bg _) M1.out,kp _ _ (Nat.le_add_right _ _) M2.out⟩,⟨kp _ _ (Nat.le_add_right _ _) M3.out,kp _ _ (Nat.le_add_right _ _) N4.out⟩⟩,Q6.out.grown gr Q6.out.size (fun k hk=>by cases hk;omega)⟩;exact WX Q _ _ w.heap.size 62 (Ij (I ⟨w2.heap.size,0,Z⟩) (I ⟨w2.heap.size+1,0,Z⟩) (I ⟨w2.heap.size+2,0,Z⟩) (I ⟨w2.heap.size+3,0,Z⟩) slots head block sample width seed).cs (0,0) _ (by rfl) rh underlying62 Q (qiz 62 34)
def gh{P:Program}{ops:Array Oper}{S:V->Prop}{o:Oper}{a:Act}(hgd:o.guard=Z)(ty:TypeId)(x:Operand)(ho:o.op=.load ty x)
  (g off:Nat) (hx:a.eval x=AI (I ⟨g,off,Z⟩)) (cs:Array An) (d:TypeDesc) (hc:∀w,S w->∀(j:Nat) (v:An),cs[j]?=I v->w.cell? ⟨g,off+j,Z⟩=I v)
  (hu:P.underlying ty=I d) (hd:(match d with | .struct _ | .array _ _=>true | _=>false)=true) (hi:(P.info? ty).map (·.size)=I cs.size):YieldsIf P ops S o (Ba cs) a:=
 .inl ⟨by simp[Region.wanted,hgd],fun w hS=>by
  unfold execOp;simp only[ho,hx,Instr.loadAt,Instr.sureAddr,Sem.run_bind,Sem.run_pure,Result.andThen_ok,WQ w g off ty cs d (hc w hS) hu hd hi]⟩
def step_mk{P:Program}{W:V}{ops:Array Oper}{o:Oper}{a:Act}{K:Act->V->Prop}{Bn:Exit->Act->V->Prop}{AM:Prop}(hgd:o.guard=Z)(l c:Operand)(t:TypeId)(hop:o.op=Op.makeSlice t l c)
  (base:Nat) (e:TypeId) (i:TypeInfo) (z:An) (size:Nat) (h1:P.underlying t=I (.slice e)) (h2:P.info? e=I i) (h3:i.zero=I z) (h4:i.size=size)
  (kl kc:IntKind) (L C:Int) (n:Nat) (hl:a.eval l=.int kl L) (hc:a.eval c=.int kc C) (hL:L=(n:Int)) (hC:C=(n:Int)) (b2:i.bytes*n<=281474976710656) (b3:n<=maxLen) (b4:base<=W.heap.size)
  (h:∀w',w'.ownsRow base e size (R (I ⟨W.heap.size,0,Z⟩) n n) n (madeCells z.cells (n*size)).toList->W.grownBy w' Z->K (a.put o.dst (R (I ⟨W.heap.size,0,Z⟩) n n)) w'):if Region.wanted o (yielded ops a.tmps)=true then Oper.wp P o a W K Bn else AM:=by
 rw[Bd (by simp[Region.wanted,hgd])];obtain⟨w',hrun,r1,r2⟩:=run_make_full (P:=P) W base t e i z size h1 h2 h3 h4 kl kc n b2 b3 b4;subst hL hC;unfold Oper.wp;simp[execOp,hop,hl,hc,hrun,Result.andThen];exact h w' r1 r2
def AaC(A1 A2 A3 A4:Option AS):Kt (Ij A1 A2 A3 A4 8 2 1 0 8 1)=0:=by rfl
def AaD:(prog.info? 154).map (fun i=>(i.zero,i.size,i.bytes))=I (I (Ba #[U O 0,Av false,U O 0,U O 0,Av false]),5,40):=AG
def AaE(w:V):AL AE 14 #[] w fun e w'=>e=AN (Av true)/\Ag w.heap.size w w':=by
 have cP:=nX 8 2 1 0 8 1 w;go_in;go_upto_region 1 with fail;go_wp2_with fail;refine cP.mono ?_;rintro e w1⟨A1,A2,A3,A4,rfl,in1,q1⟩;have hst:=AaC A1 A2 A3 A4;have hll:(Ij A1 A2 A3 A4 8 2 1 0 8 1).eps.l.length<=1000/\(Ij A1 A2 A3 A4 8 2 1 0 8 1).eps.m.length<=1000/\(Ij A1 A2 A3 A4 8 2 1 0 8 1).lim.l.length<=1000/\(Ij A1 A2 A3 A4 8 2 1 0 8 1).lim.m.length<=1000:=by simp[Ij]
 have h18:(Ij A1 A2 A3 A4 8 2 1 0 8 1).slots=8:=Q;have h19:(Ij A1 A2 A3 A4 8 2 1 0 8 1).head=2:=Q;have h30:(Ij A1 A2 A3 A4 8 2 1 0 8 1).width=8:=Q;obtain⟨s,hs⟩:=Az (Ij A1 A2 A3 A4 8 2 1 0 8 1);rw[hs]at in1 hst hll h18 h19 h30;rw[hs];clear hs cP;have hsz:(prog.info? 62).map (·.size)=I s.cs.size:=(qiz 62 34)
 have b2:=AB (Ae w1.heap.size w1) (N s.cs 62);have Fy:=EV.new w1 s;unfold BX.val
 go_upto_region 2 with(first
  | (refine Great.wpList_allocTo Q (I 1) Q (AI (I ⟨w1.heap.size,0,Z⟩)) (N Es.cs 62) AG ?_)
  | (refine Mc Q 62 _ _ Q w1.heap.size s.cs AG AG 62 Es.cs (ak _ _) hsz Q AG ?_))
 rw[World.setRow_alloc_new];refine zp ?_;obtain⟨w2,hw2⟩:=Az (w1.alloc (N s.cs 62));obtain⟨p,hp⟩:=Az (w1.heap.size);have q2:=AH q1 b2;have in2:=in1.on b2;rw[hw2]at Fy q2 in2 ⊢;rw[hp]at Fy ⊢;clear hw2 hp b2 q1 in1;obtain⟨i0,hi,hz0,hz1,hz2⟩:=IA Rn;have PP:EV w2.drew p s:=Fy;refine Fz (S:=fun w'=>EV w' p s) AG PP (fun hHeld=>?_);refine G3 (i:=0) (v:= Ba s.cs) Q AG AG AG (fun _ _ _ h=>h) (gh Q 62 _ (by rfl) p 0 (by rfl) s.cs _ (fun w hS j v hv=>by rw[EE];exact(EV.c hS j).trans hv) underlying62 Q hsz) hHeld ?_;refine zp ?_;refine url 1 (fun K1 BS=>?_);refine step_mk (by rfl) _ _ 44 (by rfl) w2.heap.size 4 i0 _ 1 Tryz.underlying44 hi hz0 hz1 _ _ _ _ 64 (by rfl) (by rfl) Q Q (by rw[hz2];decide) AC (Bg _) ?_;intro w3 X3 Jk
 have Fm:Own w3 w2.heap.size 4 1 C4 (R (I ⟨w2.drew.heap.size,0,Z⟩) 64 64) (List.replicate 64 false):=by
  unfold Own;rw[Ue,<-lL (enc:=C4) (sz:=1) false (Value.bool false).cells 64 Q Dk AC];exact X3
 have b3:=(Ae w2.heap.size w2).drew.trans ⟨Jk.os,Jk.tape,Jk.output,Jk.size,fun k hk=>Jk.block k hk AO⟩;have EH:=Fy.on b3;obtain⟨A3,c3,e3,l3,m3,n3,Mq⟩:=Fm.form Dk;simp only[Value.slice.injEq]at e3;obtain⟨e3a,e3b,e3c⟩:=e3;subst e3a e3c;clear e3b;have in3:=in2.on b3;have q3:=AH q2 b3;have cN:=mK s 0 (I ⟨w2.drew.heap.size,0,Z⟩) 64 (List.replicate 64 false) w3 in3 Mq n3 l3 m3 AO hll;unfold BX.val at cN;rw[Ue]at cN;refine BS.out _ _ EH (fun hS3=>?_);refine zp ?_;refine url 2 (fun K2 hK2=>?_);go_simp;refine cN.mono ?_;rintro e w4⟨v,rfl,hb4,BI,_⟩;have e0:Md s 0 (List.replicate 64 false).length=0:=by unfold Md;rw[hst];simp[AR]
 obtain⟨b,s',W,pb,nb,mb,rfl,M⟩:=BI e0;rw[e0];have GV:=EH.on hb4;have q4:=AH q3 hb4;refine hK2.out _ _ GV (fun hS4=>?_);refine zp ?_;refine tQ4 3 ?_;refine tQ 7 ?_;refine Ce ?_;obtain⟨y,hyb,NA,inY,bY⟩:=M.low;have kep:=M.kep;have wid:=M.wid;have MA:=M.at_;have lo1:=Br q3.size M.lo.1;have lo2:=Br q3.size M.lo.2.2.2;have Lo1:=F lo1;have Lo2:=F lo2;clear lo1 lo2;rw[h30]at wid;obtain rfl:W=8:=J;clear M BI cN hS4 hHeld X3 Jk Mq Fm wid;obtain⟨a1,k1,a2,k2,a3,k3,a4,k4,G9⟩:=kep;have g18:s'.slots=8:=qrf G9 h18;have g19:s'.head=2:=qrf G9 h19;have gj:=NA.on bY
 have Qj:SJ w4 pb nb mb b (List.replicate 64 false):=by
  have l1:pb<y.heap.size:=Ch y _ NA.c0;have l2:nb<y.heap.size:=Ch y _ NA.d0;have l3:=NA.us.lt;refine⟨J,J,J,fun A c hc a ha=>?_⟩;obtain⟨A0,c0,h2,_,_,_,_,h7⟩:=NA.c2;rw[AK bY h2]at hc;cases hc;have:=(h7 a ha).2;omega
 have hmb:=gj.us.lt;have Mn:=(Bm.1 MA).1;clear G9 NA inY bY hi hz0 hz1 hz2;go_upto_region 6 with(at_make;refine qmK underlying80 AaD AQ.BY ⟨0,false,0,0,false⟩ 8 ?_;intro w5 NC Bh)
 have q5:=AH q4 Bh;obtain⟨A5,c5,e5,l5,m5,n5,ar5⟩:=NC.form AQ.BY;simp only[Value.slice.injEq]at e5;obtain⟨e5a,e5b,e5c⟩:=e5;subst e5a e5c;clear e5b;have AaF:=gj.on Bh;have AaG:=Qj.on gj Bh
 have cB:=Aaz b ⟨s',0,pb,R Z 0 0,0,Jn⟩ 1 (I ⟨w4.heap.size,0,Z⟩) 8 (List.replicate 8 ⟨0,false,0,0,false⟩) w5 (MA.on Bh) Q (show(0:Int)≠4 by decide) AC (show(0:Int)<1 by decide)
  ar5 l5 m5 n5 (fun a ha=>by cases ha;simp only;omega) (by rw[Ue];exact g18) (by rfl) (by rw[Ue];simp only[g19];decide) nb mb 8 (List.replicate 64 false) [] AaF AaG (Ck hmb Bh.size)
  (by simp only[g19];decide) (show JT 8 (List.replicate 64 false) [] 0=0 by decide) (by simp only[g19];decide)
 simp only[g19,List.length_replicate]at cB;go_wp2_with fail;refine cB.mono ?_;rintro e w6⟨o6,d,A',c',T,rfl,L6⟩;have q6:=q5.trans (o6.below q5.size Lo1.out Lo2.out);have y1:w6.cell? ⟨d,1,Z⟩=I (U O 1):=L6.c 1;have y3:w6.cell? ⟨d,3,Z⟩=I (R A' 2 c'):=L6.c 3;clear cB L6;go_wp2;go_ret;exact⟨Q,q6⟩
open Go.Maps
section
variable{S:Nat->Prop}{k:Nat}
structure Frm(τ τ':Nat->Nat)(w w':V)(i:Nat):Prop where
 out:AT (fun k=>τ k=i) w w'
 tag:∀k,k<↑w->τ' k=τ k
def BU(τ:Nat->Nat)(w:V):Prop:=∀k,w.heap.size<=k->τ k=0
section
variable {τ τ' τ'':Nat→Nat} {w w' w'':V} {i:Nat}
def Frm.refl(τ:Nat->Nat)(w:V)(i:Nat):Frm τ τ w w i:=⟨AT.refl _ _,fun _ _=>rfl⟩
def Frm.trans(h:Frm τ τ' w w' i)(k:Frm τ' τ'' w' w'' i):Frm τ τ'' w w'' i:=
 ⟨⟨k.out.os.trans h.out.os,k.out.tape.trans h.out.tape,k.out.output.trans h.out.output,Br h.out.size k.out.size,fun j hj h1=>(k.out.block j (Ck hj h.out.size) (fun e=>h1 ((h.tag j hj).symm.trans e))).trans (h.out.block j hj h1)⟩,
  fun j hj=>(k.tag j (Ck hj h.out.size)).trans (h.tag j hj)⟩
def Frm.of(h:Ag w w w'):Frm τ τ w w' i:=⟨AT.of h,fun _ _=>rfl⟩
def Frm.Ik(h:AT S w w')(hs:∀k,k<↑w->S k->τ k=i):Frm τ τ w w' i:=⟨h.mono hs,fun _ _=>rfl⟩
def BU.on(h:BU τ w)(hs:w.heap.size<=w'.heap.size):BU τ w':=fun k hk=>h k (Br hs hk)
structure Kp(τ τ':Nat->Nat)(w w':V)(S:Nat->Prop):Prop where
 out:AT S w w'
 tag:∀k,k<↑w->τ' k=τ k
 h0:∀k,S k->τ k≠0
def Kp.np(h:Kp τ τ' w w' S)(hk:τ k=0):¬S k:=fun e=>h.h0 k e hk
def Frm.kp(h:Frm τ τ' w w' i)(hi:i≠0):Kp τ τ' w w' (fun k=>τ k=i):=⟨h.out,h.tag,fun k hk e=>hi (hk.symm.trans e)⟩
def Kp.of(h:Ag w w w'):Kp τ τ w w' (fun _=>False):=⟨AT.of h,fun _ _=>rfl,fun _ h=>h.elim⟩
noncomputable def Fh (τ:Nat->Nat) (S:Nat->Prop) (i:Nat):Nat->Nat:=fun k=>by
 classical exact if S k then i else τ k
def US(h:S k):Fh τ S i k=i:=by unfold Fh;rw[Bd h]
def JY(h:¬S k):Fh τ S i k=τ k:=by unfold Fh;rw[AU h]
def BU.AbI(h:BU τ w)(hs:∀k,S k->k<↑w)(j:Nat):BU (Fh τ S j) w:=fun k hk=>by
 rw[JY (fun e=>by have:=hs k e;omega)];exact h k hk
end
def Imm{α:Type}(sz:Nat)(enc:α->List An)(τ:Nat->Nat)(w:V)(v:An)(l:List α):Prop:=
 ∃A c,v=R A (Y l) c/\Y l<=c/\c<=maxLen/\(A=Z->c=0)/\Arr sz enc w w A l/\∀a,A=I a->a.block<↑w/\τ a.block=0
section
variable {α:Type} {sz:Nat} {enc:α→List An} {τ τ':Nat→Nat} {w w':V} {v:An} {l:List α} {i:Nat}
def Imm.nil:Imm sz enc τ w (R Z 0 0) ([]:List α):=⟨Z,0,Q,Bg _,BM _,fun _=>rfl,Arr.nil,fun a e=>by cases e⟩
def Imm.keep(h:Imm sz enc τ w v l)(hf:Kp τ τ' w w' S):Imm sz enc τ' w' v l:=by
 obtain⟨A,c,hv,h1,h2,h3,ha,hb⟩:=h;refine⟨A,c,hv,h1,h2,h3,hf.out.arr ha (fun a e=>?_),fun a e=>?_⟩
 ·exact hf.np (hb a e).2
 ·obtain⟨h5,h6⟩:=hb a e
  exact⟨Ck h5 hf.out.size,(hf.tag _ h5).trans h6⟩
def Own.imm{base e:Nat}(h:Own w base e sz enc v l)(hs:∀x,(enc x).length=sz)(ht:∀k,base<=k->τ k=0):Imm sz enc τ w v l:=by
 have hb:=h;obtain⟨A,c,hv,h1,h2,h3,ha⟩:=h.form hs;refine⟨A,c,hv,h1,h2,h3,ha,fun a e=>?_⟩;have h4:=Cp hb a.block (by rw[hv,e];rfl);exact⟨h4.2,ht _ h4.1⟩
end
structure Lt where
 ses:Int
 kind:Int
 num:Int
 ws:List Int
 tag:Nat
def Lt.at(l:Lt)(A:Option AS)(c:Nat):DE:=⟨l.ses,l.kind,l.num,A,c,l.ws,l.tag⟩
def SU(τ:Nat->Nat)(w:V)(p:Nat)(l:Lt):Prop:=
 ∃A c,Dq w p (l.at A c)/\(l.at A c).In w/\p<↑w/\τ p=0/\∀a,A=I a->a.block<↑w/\τ a.block=0
def UT(τ:Nat->Nat)(w:V)(v:An)(o:Option Lt):Prop:=
 (o=Z/\v=AI Z)\/∃p l,o=I l/\v=AI (I ⟨p,0,Z⟩)/\SU τ w p l
section
variable {τ τ':Nat→Nat} {w w':V} {p i:Nat} {l:Lt} {v:An} {o:Option Lt}
def SU.keep(h:SU τ w p l)(hf:Kp τ τ' w w' S):SU τ' w' p l:=by
 obtain⟨A,c,h1,h2,h3,h4,h5⟩:=h;have ne:∀{k},τ k=0->¬S k:=fun h=>hf.np h
 refine⟨A,c,hf.out.row h1 (ne h4),⟨hf.out.arr h2.a (fun a e=>ne (h5 a e).2),h2.len,h2.cap,h2.nil⟩,Ck h3 hf.out.size,(hf.tag _ h3).trans h4,fun a e=>?_⟩;obtain⟨h6,h7⟩:=h5 a e;exact⟨Ck h6 hf.out.size,(hf.tag _ h6).trans h7⟩
def UT.keep(h:UT τ w v o)(hf:Kp τ τ' w w' S):UT τ' w' v o:=by
 rcases h with⟨h1,h2⟩ | ⟨p,l,h1,h2,h3⟩
 ·exact .inl ⟨h1,h2⟩
 ·exact .inr ⟨p,l,h1,h2,h3.keep hf⟩
end
end
section
variable{S:Nat->Prop}{W mb nb p:Nat}{bits:List Bool}{u:List Nat}{w w':V}{τ τ':Nat->Nat}
structure Rc where
 ses:Int
 block:List Bool
 n:Int
 t:Int
 ledger:List C8
 key:List Bool
structure EZ where
 ses:Int
 bv:An
 n:Int
 t:Int
 lv:An
 kv:An
def EZ.enc(r:EZ):List An:=[U O r.ses,r.bv,U O r.n,U O r.t,r.lv,r.kv]
def EZ.BY(r:EZ):Y r.enc=6:=Q
structure DS(τ:Nat->Nat)(w:V)(r:EZ)(a:Rc):Prop where
 ses:r.ses=a.ses
 n:r.n=a.n
 t:r.t=a.t
 b:Imm 1 C4 τ w r.bv a.block
 l:Imm 2 C8.enc τ w r.lv a.ledger
 k:Imm 1 C4 τ w r.kv a.key
def DS.keep{r:EZ}{a:Rc}(h:DS τ w r a)(hf:Kp τ τ' w w' S):DS τ' w' r a:=
 ⟨h.ses,h.n,h.t,h.b.keep hf,h.l.keep hf,h.k.keep hf⟩
structure Bb where
 ph:Int
 rs:Int
 pulses:List AQ
 clicks:List Bf
 wait:List Int
 sent:Option Lt
 took:Option Lt
 waited:Int
 ledger:List C8
 shift:Int
 kept:List Int
 slots:List Int
 decoys:List Int
 block:List Bool
 n:Int
 t:Int
 course:Option (Cas × BP)
 has:Bool
 last:Int
 recs:List Rc
 used:List Nat
def CG.Ik(h:CG w p nb mb W bits u)(ho:AT S w w')(hp:¬S p)(hn:¬S nb)(hm:¬S mb)
  (ha:∀A c,E w ⟨p,2,Z⟩=I (R A (Y bits) c)->∀a,A=I a->¬S a.block):CG w' p nb mb W bits u:=by
 obtain⟨A,c,h1,h2,h3,h4,h5,h6⟩:=h.c2;obtain⟨D,⟨es,clock,hb,r⟩,h7,h8⟩:=h.us;have hlt:p<↑w:=Ch w _ h.c0
 exact⟨h.wd,ho.cell h.c0 hp,ho.cell h.c1 hp,⟨A,c,ho.cell h1 hp,ho.arr h2 (ha A c h1),h3,h4,h5,fun a e=>⟨(h6 a e).1,Ck (h6 a e).2 ho.size⟩⟩,ho.cell h.d0 hn,⟨D,⟨es,clock,ho.row hb hm,r⟩,h7,h8⟩,h.bm,h.nm,h.bl,h.un,h.ub,
  (WU (a:=⟨p,2,Z⟩) (ho.block p hlt hp)).trans h.fr⟩
structure aN(τ:Nat->Nat)(w:V)(i p nb mb W:Nat)(bits:List Bool)(u:List Nat):Prop where
 at_:CG w p nb mb W bits u
 tm:τ mb=i
 tp:τ p=0
 tn:τ nb=0
 ta:∀A c,E w ⟨p,2,Z⟩=I (R A (Y bits) c)->∀a,A=I a->τ a.block=0
def aN.keep{i:Nat}(h:aN τ w i p nb mb W bits u)(hf:Kp τ τ' w w' S)(hm:¬S mb):aN τ' w' i p nb mb W bits u:=by
 have np:∀{k},τ k=0->¬S k:=fun h=>hf.np h
 have hp:p<↑w:=Ch w _ h.at_.c0;have hn:nb<↑w:=Ch w _ h.at_.d0;obtain⟨A,c,h1,h2,h3,h4,h5,h6⟩:=h.at_.c2;refine⟨h.at_.Ik hf.out (np h.tp) (np h.tn) hm (fun A c hc a e=>np (h.ta A c hc a e)),(hf.tag _ h.at_.us.lt).trans h.tm,(hf.tag _ hp).trans h.tp,(hf.tag _ hn).trans h.tn,fun A' c' hc a e=>?_⟩;have hc1:=hf.out.cell h1 (np h.tp);rw[hc1]at hc;cases hc;obtain⟨_,h7⟩:=h6 a e;exact(hf.tag _ h7).trans (h.ta A c h1 a e)
def YK(τ:Nat->Nat)(w:V)(f:BA):Prop:=f.In w/\(f.l≠[]->∀a,f.A=I a->a.block<↑w/\τ a.block=0)/\(f.m≠[]->∀a,f.C=I a->a.block<↑w/\τ a.block=0)
end
section
variable{S:Nat->Prop}{W b i mb nb:Nat}{a:Bb}{bits:List Bool}{v:An}{w w':V}{x x':BR}{τ τ':Nat->Nat}
def Xf(τ:Nat->Nat)(w:V)(i:Nat)(v:An)(l:List Rc):Prop:=
 ∃rv:List EZ,Own w 0 70 6 EZ.enc v rv/\Y rv=Y l/\(∀(k:Nat) (r:EZ) (q:Rc),rv[k]?=I r->l[k]?=I q->DS τ w r q)/\∀k,v.ownBlock=I k->τ k=i
def Xf.keep{l:List Rc}(h:Xf τ w i v l)(hf:Kp τ τ' w w' S)(hv:∀k,v.ownBlock=I k->¬S k):Xf τ' w' i v l:=by
 obtain⟨rv,h1,h2,h3,h4⟩:=h;refine⟨rv,hf.out.own h1 hv,h2,fun k r q hr hq=>(h3 k r q hr hq).keep hf,fun k hk=>?_⟩;have hlt:=(Cp h1 k hk).2;exact(hf.tag k hlt).trans (h4 k hk)
def YL(τ:Nat->Nat)(w:V)(i:Nat)(off:Nat->Prop)(v:An)(o:Option (Cas × BP)):Prop:=
 (o=Z/\v=AI Z)\/∃M c m,o=I (c,m)/\v=AI (I ⟨M.g,0,Z⟩)/\Cj w c m M/\c.Ok/\c.at .stop m/\(∀k,M.T k->τ k=i/\off k)/\(∀k,M.lo<=k->k<M.hi->τ k=0)
def YL.keep{off:Nat->Prop}{o:Option (Cas × BP)}(h:YL τ w i off v o)(hf:Kp τ τ' w w' S)(hT:∀k,S k->τ k=i->¬off k):YL τ' w' i off v o:=by
 rcases h with h | ⟨M,c,m,h1,h2,hM,h3,h4,h5,h6⟩
 ·exact .inl h
 have nT:∀k,M.T k->¬S k:=fun k hk hs=>hT k hs (h5 k hk).1 (h5 k hk).2
 refine .inr ⟨M,c,m,h1,h2,hM.keep hf.out (nT _ (.inl Q)) (nT _ (.inr (.inr (.inl Q)))) (fun k hk=>nT k (.inr (.inl hk))) (fun k hk=>nT k (.inr (.inr (.inr hk)))) (fun k hk=>?_),h3,h4,fun k hk=>⟨(hf.tag k (hM.aM hk).2).trans (h5 k hk).1,(h5 k hk).2⟩,fun k GT hk2=>(hf.tag k (Ck hk2 hM.rows.hi)).trans (h6 k GT hk2)⟩;rcases D4 k M.lo with h7 | h7
 ·exact .inl h7
 ·rcases D4 k M.hi with h8 | h8
  ·exact(hf.h0 k hk (h6 k h7 h8)).elim
  ·exact .inr h8
def SV(τ:Nat->Nat)(w:V)(v:An)(l:List Int):Prop:=Imm 1 BD τ w v l/\(l=[]->v=R Z 0 0)
def SV.keep{l:List Int}(h:SV τ w v l)(hf:Kp τ τ' w w' S):SV τ' w' v l:=⟨h.1.keep hf,h.2⟩
def SV.nil:SV τ w (R Z 0 0) []:=⟨Imm.nil,fun _=>rfl⟩
structure SW(τ:Nat->Nat)(w:V)(k:ON)(a:Bb):Prop where
 pulses:Imm 5 AQ.enc τ w k.pulses a.pulses
 clicks:Imm 2 Bf.enc τ w k.clicks a.clicks
 wait:Imm 1 BD τ w k.wait a.wait
 sent:UT τ w k.sent a.sent
 took:UT τ w k.took a.took
 ledger:Imm 2 C8.enc τ w k.ledger a.ledger
 kept:Imm 1 BD τ w k.kept a.kept
 slots:Imm 1 BD τ w k.slots a.slots
 decoys:SV τ w k.decoys a.decoys
 block:Imm 1 C4 τ w k.block a.block
def SW.keep{k:ON}(h:SW τ w k a)(hf:Kp τ τ' w w' S):SW τ' w' k a:=
 ⟨h.pulses.keep hf,h.clicks.keep hf,h.wait.keep hf,h.sent.keep hf,h.took.keep hf,h.ledger.keep hf,h.kept.keep hf,h.slots.keep hf,h.decoys.keep hf,h.block.keep hf⟩
structure aO(x:BR)(a:Bb):Prop where
 last:x.last=a.last
 ph:x.k.phase=a.ph
 rs:x.k.reason=a.rs
 wt:x.k.waited=a.waited
 sh:x.k.shift=a.shift
 n:x.k.n=a.n
 t:x.k.t=a.t
 has:x.k.has=a.has
structure Bx(τ:Nat->Nat)(w:V)(i b:Nat)(x:BR)(W nb mb:Nat)(bits:List Bool)(a:Bb):Prop where
 row:Cu w b x
 tb:τ b=i
 mbb:mb≠b
 num:aO x a
 eps:YK τ w x.s.eps
 lim:YK τ w x.s.lim
 li:SW τ w x.k a
 crs:YL τ w i (fun k=>k≠b/\k≠mb/\x.recs.ownBlock≠I k) x.k.course a.course
 pool:aN τ w i x.pool nb mb W bits a.used
 recs:Xf τ w i x.recs a.recs
 rb:∀k,x.recs.ownBlock=I k->k≠b/\k≠mb
theorem YK.keep{f:BA}(h:YK τ w f)(hf:Kp τ τ' w w' S):YK τ' w' f:=by
 obtain⟨h1,h2,h3⟩:=h;have al:∀{A:Option AS} {l:List Nat},(l≠[]->∀a,A=I a->a.block<↑w/\τ a.block=0)->l≠[]->∀a,A=I a->a.block<↑w'/\τ' a.block=0:=fun h hl a e=>⟨Ck (h hl a e).1 hf.out.size,(hf.tag _ (h hl a e).1).trans (h hl a e).2⟩
 have nt:∀{A:Option AS} {c:Nat} {l:List Nat},Nt w A c l->(l≠[]->∀a,A=I a->a.block<↑w/\τ a.block=0)->Nt w' A c l:=fun{A c l} n h=>by
  refine⟨?_,n.len,n.cap,n.dig,n.nil⟩;by_cases hl:l=[]
  ·grind [Arr,CR]
  ·exact hf.out.arr n.arr (fun a e=>hf.np (h hl a e).2)
 exact⟨⟨nt h1.n h2,nt h1.d h3⟩,al h2,al h3⟩
def Bx.keep{j:Nat}(h:Bx τ w i b x W nb mb bits a)(hf:Frm τ τ' w w' j)(hj:j≠0)(UK:j≠i):Bx τ' w' i b x W nb mb bits a:=by
 have hb:=(Bm.1 h.row).1;have hk:=hf.kp hj;obtain⟨rv,_,_,_,hr⟩:=h.recs
 exact⟨hf.out.row h.row (fun e=>UK (e.symm.trans h.tb)),(hf.tag b hb).trans h.tb,h.mbb,h.num,h.eps.keep hk,h.lim.keep hk,h.li.keep hk,
  h.crs.keep hk (fun k hk e=>(UK (hk.symm.trans e)).elim),h.pool.keep hk (fun e=>UK (e.symm.trans h.pool.tm)),h.recs.keep hk (fun k hk e=>UK (e.symm.trans (hr k hk))),h.rb⟩
def Bx.store{a':Bb}(h:Bx τ w i b x W nb mb bits a)(hi:i≠0)(ho:AT (fun k=>k=b) w w')(row:Cu w' b x')(hs:x'.s=x.s)(hp:x'.pool=x.pool)(hr:x'.recs=x.recs)
  (num:aO x' a') (li:SW τ w x'.k a') (crs:YL τ w i (fun k=>k≠b/\k≠mb/\x.recs.ownBlock≠I k) x'.k.course a'.course) (hu:a'.used=a.used) (hl:a'.recs=a.recs):Bx τ w' i b x' W nb mb bits a':=by
 have hk:Kp τ τ w w' (fun k=>k=b):=⟨ho,fun _ _=>rfl,fun k e=>by rw[e,h.tb];exact hi⟩
 refine⟨row,h.tb,h.mbb,num,qrf hs (h.eps.keep hk),qrf hs (h.lim.keep hk),li.keep hk,?_,?_,?_,qrf hr h.rb⟩
 ·rw[hr]
  exact crs.keep hk (fun k e _ h=>h.1 e)
 ·rw[hp,hu]
  exact h.pool.keep hk h.mbb
 ·rw[hr,hl]
  exact h.recs.keep hk (fun k hk=>(h.rb k hk).1)
def Bx.cell{a':Bb}(h:Bx τ w i b x W nb mb bits a)(hi:i≠0)(j:Nat)(v:An)(hcs:x.cs.setIfInBounds j v=x'.cs)(hs:x'.s=x.s)(hp:x'.pool=x.pool)(hr:x'.recs=x.recs)
  (num:aO x' a') (li:SW τ w x'.k a') (hc:x'.k.course=x.k.course) (ha:a'.course=a.course) (hu:a'.used=a.used) (hl:a'.recs=a.recs):Bx τ (Ai w ⟨b,j,Z⟩ v) i b x' W nb mb bits a':=
 h.store hi (AT.set Q) (Cu.set j v h.row hcs) hs hp hr num li (by rw[hc,ha];exact h.crs) hu hl
end
section
variable {τ:Nat→Nat} {w w':V} {i b W nb mb:Nat} {x x':BR} {bits:List Bool} {a a':Bb}
def Bx.kp(h:Bx τ w i b x W nb mb bits a)(hi:i≠0)(ho:AT (fun k=>k=b\/k=mb) w w'):Kp τ τ w w' (fun k=>k=b\/k=mb):=
 ⟨ho,fun _ _=>rfl,fun k e=>by rcases e with rfl | rfl;(rw[h.tb];exact hi);(rw[h.pool.tm];exact hi)⟩
def Bx.frm(h:Bx τ w i b x W nb mb bits a)(ho:AT (fun k=>k=b\/k=mb) w w'):Frm τ τ w w' i:=
 Frm.Ik ho (fun k _ e=>by rcases e with rfl | rfl;exact h.tb;exact h.pool.tm)
theorem Bx.off(h:Bx τ w i b x W nb mb bits a)(hi:i≠0):SJ w x.pool nb mb b bits:=
 ⟨fun e=>hi (h.tb.symm.trans (qrb e h.pool.tp)),fun e=>hi (h.tb.symm.trans (qrb e h.pool.tn)),h.mbb,fun A c hc y hy e=>hi (h.tb.symm.trans (qrb e (h.pool.ta A c hc y hy)))⟩
def Bx.change(h:Bx τ w i b x W nb mb bits a)(hi:i≠0)(ho:AT (fun k=>k=b\/k=mb) w w')(row:Cu w' b x')(hs:x'.s=x.s)(hp:x'.pool=x.pool)(hr:x'.recs=x.recs)(num:aO x' a')(li:SW τ w' x'.k a')
  (hc:x'.k.course=x.k.course) (ha:a'.course=a.course) (pl:CG w' x.pool nb mb W bits a'.used) (hl:a'.recs=a.recs):Bx τ w' i b x' W nb mb bits a':=by
 have hk:=h.kp hi ho;have np:=hk.np h.pool.tp;refine⟨row,h.tb,h.mbb,num,qrf hs (h.eps.keep hk),qrf hs (h.lim.keep hk),li,?_,?_,?_,qrf hr h.rb⟩
 ·rw[hr,hc,ha]
  exact h.crs.keep hk (fun k e _ h=>by omega)
 ·rw[hp]
  obtain⟨A,c,h1,_⟩:=h.pool.at_.c2;refine⟨pl,h.pool.tm,h.pool.tp,h.pool.tn,fun A' c' hc y hy=>?_⟩;rw[ho.cell h1 np]at hc;cases hc;exact h.pool.ta A c h1 y hy
 ·rw[hr,hl]
  exact h.recs.keep hk (fun k hk e=>by rcases e with e | e;exact(h.rb k hk).1 e;exact(h.rb k hk).2 e)
end
def Bb.Qw(a:Bb)(side:Int)(W:Nat)(bits:List Bool)(kind:Int)(ws:List Int):Lt:=
 ⟨a.last,kind,(Dr W bits a.used side:Nat),ws,Ky W bits (Dr W bits a.used side:Nat) (Ga ⟨a.last,kind,(Dr W bits a.used side:Nat),Z,0,ws,0⟩)⟩
def Bb.UV(a:Bb)(side:Int)(W:Nat)(bits:List Bool)(kind:Int)(ws:List Int):Int:=
 if JT W bits a.used side=0 then EX W bits a.used (Dr W bits a.used side:Nat) (Ga ⟨a.last,kind,(Dr W bits a.used side:Nat),Z,0,ws,0⟩)else JT W bits a.used side
def Bb.send(a:Bb)(side:Int)(W:Nat)(bits:List Bool)(kind:Int)(ws:List Int):Bb × List Lt:=
 if a.UV side W bits kind ws=0 then({a with sent:=I (a.Qw side W bits kind ws),used:=Dr W bits a.used side::a.used},[a.Qw side W bits kind ws])else({a with ph:=3,rs:=14},[])
def Ju(τ:Nat->Nat)(w:V)(v:An)(l:List Lt):Prop:=(l=[]/\v=R Z 0 0)\/∃d y,l=[y]/\v=R (I ⟨d,0,Z⟩) 1 1/\SU τ w d y
structure Fix(x x':BR):Prop where
 s:x'.s=x.s
 side:x'.side=x.side
 pool:x'.pool=x.pool
theorem Qx{τ:Nat->Nat}{w:V}{i b W nb mb:Nat}{x:BR}{bits:List Bool}{a:Bb}(h:Bx τ w i b x W nb mb bits a)(hi:i≠0)(fr:BU τ w)(kind:Int)(v:An)(ws:List Int)(hv:Imm 1 BD τ w v ws)
  (hh:H5 ⟨a.last,kind,(Dr W bits a.used x.side:Nat),Z,0,ws,0⟩=true) (hw:ws.all okW=true):
  AL AE 120 #[AI (I ⟨b,0,Z⟩),U O kind,v] w fun e w'=>∃x' v',e=AN v'/\Frm τ τ w w' i/\Bx τ w' i b x' W nb mb bits (a.send x.side W bits kind ws).1/\Ju τ w' v' (a.send x.side W bits kind ws).2/\Fix x x':=by
 obtain⟨A,c,rfl,l1,m1,n1,ar,tg⟩:=hv;have e0:=h.num.last;have cS:=nK b x kind A c ws nb mb W bits a.used w h.row h.pool.at_ (h.off hi) ar l1 m1 n1 (fun y hy=>⟨fun e=>hi (h.tb.symm.trans (by grind)),fun e=>hi (h.pool.tm.symm.trans (by grind))⟩) (by unfold CX;rw[e0];exact hh) hw;have eE:Qh x kind W bits a.used ws=a.UV x.side W bits kind ws:=by unfold Qh Bb.UV CX;rw[e0]
 refine cS.mono ?_;rintro e w'⟨o2,hr⟩;have ho:AT (fun k=>k=b\/k=mb) w w':=⟨o2.os,o2.tape,o2.output,o2.size,fun k hk hn=>o2.block k hk (fun e=>hn (.inl e)) (fun e=>hn (.inr e))⟩
 have hk:=h.kp hi ho;rw[eE]at hr;rcases hr with⟨h1,rfl,row,pl⟩ | ⟨h1,p,d,A',c',rfl,row,pl,M1,M2,in2,fp,fd,fA⟩
 ·refine⟨{x with k:={x.k with phase:=3,reason:=14}},_,Q,h.frm ho,?_,?_,⟨Q,Q,Q⟩⟩
  ·unfold Bb.send
   rw[AU h1];exact h.change hi ho row Q Q Q ⟨h.num.last,rfl,rfl,h.num.wt,h.num.sh,h.num.n,h.num.t,h.num.has⟩ ⟨h.li.pulses.keep hk,h.li.clicks.keep hk,h.li.wait.keep hk,h.li.sent.keep hk,h.li.took.keep hk,h.li.ledger.keep hk,h.li.kept.keep hk,h.li.slots.keep hk,h.li.decoys.keep hk,h.li.block.keep hk⟩ Q Q pl Q
  ·unfold Bb.send
   rw[AU h1];exact .inl ⟨rfl,rfl⟩
 ·have pw:∀{k:Nat},w.heap.size<=k->τ k=0:=fun hk=>fr _ hk
  have lts:∀(q:Nat) (B:Option AS) (d:Nat),Dq w' q (CX x kind W bits a.used B d ws (Ky W bits (Dr W bits a.used x.side:Nat) (Ga (CX x kind W bits a.used Z 0 ws 0))))->(CX x kind W bits a.used B d ws 0).In w'->w.heap.size<=q->(∀y,B=I y->y.block<↑w'/\τ y.block=0)->SU τ w' q (a.Qw x.side W bits kind ws):=fun q B d hq Dp hf hB=>by
   refine⟨B,d,?_,⟨Dp.a,Dp.len,Dp.cap,Dp.nil⟩,(Bm.1 hq).1,pw hf,hB⟩;have e9:CX x kind W bits a.used B d ws (Ky W bits (Dr W bits a.used x.side:Nat) (Ga (CX x kind W bits a.used Z 0 ws 0)))=(a.Qw x.side W bits kind ws).at B d:=by unfold CX Bb.Qw Lt.at;rw[e0]
   grind
  have AbJ:=ho.arr ar (fun y hy=>hk.np (tg y hy).2);have L1:=lts p A c M1 ⟨AbJ,l1,m1,n1⟩ fp (fun y hy=>⟨Ck (tg y hy).1 ho.size,(tg y hy).2⟩);have L2:=lts d A' c' M2 in2 fd (fun y hy=>⟨(fA y hy).2,pw (fA y hy).1⟩);refine⟨{x with k:={x.k with sent:= AI (I ⟨p,0,Z⟩)}},_,Q,h.frm ho,?_,?_,⟨Q,Q,Q⟩⟩
  ·unfold Bb.send
   rw[Bd h1];exact h.change hi ho row Q Q Q ⟨h.num.last,h.num.ph,h.num.rs,h.num.wt,h.num.sh,h.num.n,h.num.t,h.num.has⟩ ⟨h.li.pulses.keep hk,h.li.clicks.keep hk,h.li.wait.keep hk,.inr ⟨p,_,rfl,rfl,L1⟩,h.li.took.keep hk,h.li.ledger.keep hk,h.li.kept.keep hk,h.li.slots.keep hk,h.li.decoys.keep hk,h.li.block.keep hk⟩ Q Q pl Q
  ·unfold Bb.send
   rw[Bd h1];exact .inr ⟨d,_,rfl,rfl,L2⟩
section
variable {τ τ':Nat→Nat} {w w':V} {i b W nb mb:Nat} {x x':BR} {bits:List Bool} {a a':Bb}
def Bx.on(h:Bx τ w i b x W nb mb bits a)(hb:Ag w w w'):Bx τ w' i b x W nb mb bits a:=
 h.keep (j:=i+1) (Frm.of hb) J J
theorem YN(W:Nat)(hW:W=8\/W=16\/W=32)(bits:List Bool)(hb:Y bits<=65536)(u:List Nat)(s:Int):(Dr W bits u s:Nat)<=65535:=by
 unfold Dr
 grind [JT,Lo]
def Qy{ses kind n:Int}{ws:List Int}(h1:1<=ses/\ses<=1000)(h2:1<=kind/\kind<=11)(h3:0<=n/\n<=65535)(h4:Y ws<=4096):H5 ⟨ses,kind,n,Z,0,ws,0⟩=true:=by
 simp[H5,AR];omega
theorem Imm.one(fr:BU τ w)(r:Int)(T:TypeId):Imm 1 BD τ (Ao w (N #[U O r] T)) (R (I ⟨w,0,Z⟩) 1 1) [r]:=
 ⟨I ⟨w,0,Z⟩,1,rfl,Bg _,AC,(fun h=>by cases h),Vs (sz:=1) (enc:=BD) w [r] #[U O r] T Q DY,(fun y hy=>by cases hy;exact⟨AO,fr _ (Bg _)⟩)⟩
end
def Bb.stop(a:Bb)(side:Int)(W:Nat)(bits:List Bool)(r:Int):Bb × List Lt:=({a with ph:=3,rs:=r}:Bb).send side W bits 11 [r]
def SY{τ:Nat->Nat}{w:V}{i b W nb mb:Nat}{x:BR}{bits:List Bool}{a:Bb}(h:Bx τ w i b x W nb mb bits a)(hi:i≠0)(fr:BU τ w)(r:Int)(hr:1<=r/\r<=65535)(hl:1<=a.last/\a.last<=1000):
  AL AE 104 #[AI (I ⟨b,0,Z⟩),U O r] w fun e w'=>∃x' v',e=AN v'/\Frm τ τ w w' i/\Bx τ w' i b x' W nb mb bits (a.stop x.side W bits r).1/\Ju τ w' v' (a.stop x.side W bits r).2/\Fix x x':=by
 have H8:E w ⟨b,39,Z⟩=I (U O x.k.phase):=h.row.c 39;have x40:E w ⟨b,40,Z⟩=I (U O x.k.reason):=h.row.c 40;have f39:=h.row.fr 39;have f40:=h.row.fr 40;have S1:Cu (Ai w ⟨b,39,Z⟩ (U O 3)) b {x with k:={x.k with phase:=3}}:=h.row.set 39 _ Q;have S2:Cu (Ai (Ai w ⟨b,39,Z⟩ (U O 3)) ⟨b,40,Z⟩ (U O r)) b {x with k:={x.k with phase:=3,reason:=r}}:=S1.set 40 _ Q;have ho:AT (fun k=>k=b) w (Ai (Ai w ⟨b,39,Z⟩ (U O 3)) ⟨b,40,Z⟩ (U O r)):=(AT.set (S:=fun k=>k=b) Q).trans (AT.set (S:=fun k=>k=b) Q);obtain⟨w1,BJ⟩:=Az (Ai (Ai w ⟨b,39,Z⟩ (U O 3)) ⟨b,40,Z⟩ (U O r));rw[BJ]at S2 ho
 have h1:Bx τ w1 i b {x with k:={x.k with phase:=3,reason:=r}} W nb mb bits {a with ph:=3,rs:=r}:=
  h.store hi ho S2 Q Q Q ⟨h.num.last,rfl,rfl,h.num.wt,h.num.sh,h.num.n,h.num.t,h.num.has⟩ ⟨h.li.pulses,h.li.clicks,h.li.wait,h.li.sent,h.li.took,h.li.ledger,h.li.kept,h.li.slots,h.li.decoys,h.li.block⟩ h.crs Q Q
 have Dc:=fr.on ho.size;have b2:=AB (Ae w1 w1) (N #[U O r] 3);have h2:=h1.on b2;have cS:=Qx h2 hi (Dc.on b2.size) 11 _ [r] (Imm.one Dc r 3) (Qy hl AC ⟨J,Int.ofNat_le.2 (YN W h.pool.at_.wd bits h.pool.at_.bl a.used x.side)⟩ (Fg Q)) (by simp only[List.all_cons,List.all_nil,Bool.and_true];unfold okW AR;exact Er J);have f0:Frm τ τ w w1 i:=Frm.Ik ho (fun k _ e=>by rw[e];exact h.tb);clear S1 S2 h1 h2;go_in;go_wp2_with fail;refine cS.mono ?_;rintro e w'⟨x',v',rfl,hf,hs,hO,fx⟩;go_wp2;go_ret;exact⟨x',v',Q,f0.trans ((Frm.of b2).trans hf),hs,hO,⟨fx.s,fx.side,fx.pool⟩⟩
def Bb.down(a:Bb):Bb:={a with ph:=4,rs:=0,pulses:=[],clicks:=[],wait:=[],sent:=Z,took:=Z,waited:=0,ledger:=[],shift:=0,kept:=[],slots:=[],decoys:=[],block:=[],n:=0,t:=0,course:=Z,has:=false}
def SW.none(τ:Nat->Nat)(w:V)(p r:Int)(a:Bb):SW τ w {Jn with phase:=p,reason:=r} {a.down with ph:=p}:=
 ⟨Imm.nil,Imm.nil,Imm.nil,.inl ⟨rfl,rfl⟩,.inl ⟨rfl,rfl⟩,Imm.nil,Imm.nil,Imm.nil,SV.nil,Imm.nil⟩
section
variable {τ:Nat→Nat} {w:V} {i b W nb mb:Nat} {x:BR} {bits:List Bool} {a:Bb}
def pI(h:Bx τ w i b x W nb mb bits a):AL AE 25 #[AI (I ⟨b,0,Z⟩)] w fun e w'=>e=AN (U O a.ph)/\w=w':=by
 have cV:=Qk b x w h.row;have H8:E w ⟨b,39,Z⟩=I (U O a.ph):=by rw[<-h.num.ph];exact h.row.c 39
 go_in;go_wp2_with(go_at_call 70;refine mqv (cV) ?_);go_ret;exact⟨Q,Q⟩
def aP(h:Bx τ w i b x W nb mb bits a):AL AE 26 #[AI (I ⟨b,0,Z⟩)] w fun e w'=>e=AN (U O a.last)/\w=w':=by
 have cV:=Qk b x w h.row;have Kz:E w ⟨b,38,Z⟩=I (U O a.last):=by rw[<-h.num.last];exact h.row.c 38
 go_in;go_wp2_with(go_at_call 70;refine mqv (cV) ?_);go_ret;exact⟨Q,Q⟩
def HQ(h:Bx τ w i b x W nb mb bits a)(hi:i≠0):AL AE 49 #[AI (I ⟨b,0,Z⟩)] w fun e w'=>
  (a.ph≠4/\e=AN (U O 11)/\w'=w)\/(a.ph=4/\e=AN (U O 0)/\∃x',Frm τ τ w w' i/\Bx τ w' i b x' W nb mb bits {a with ph:=0}/\Fix x x'):=by
 have cV:=Qk b x w h.row;have H8:E w ⟨b,39,Z⟩=I (U O a.ph):=by rw[<-h.num.ph];exact h.row.c 39
 have f39:=h.row.fr 39;have S1:Cu (Ai w ⟨b,39,Z⟩ (U O 0)) b {x with k:={x.k with phase:=0}}:=h.row.set 39 _ Q;have ho:AT (fun k=>k=b) w (Ai w ⟨b,39,Z⟩ (U O 0)):=AT.set (S:=fun k=>k=b) Q
 have h1:Bx τ (Ai w ⟨b,39,Z⟩ (U O 0)) i b {x with k:={x.k with phase:=0}} W nb mb bits {a with ph:=0}:=
  h.store hi ho S1 Q Q Q ⟨h.num.last,rfl,h.num.rs,h.num.wt,h.num.sh,h.num.n,h.num.t,h.num.has⟩ ⟨h.li.pulses,h.li.clicks,h.li.wait,h.li.sent,h.li.took,h.li.ledger,h.li.kept,h.li.slots,h.li.decoys,h.li.block⟩ h.crs Q Q
 have f0:Frm τ τ w (Ai w ⟨b,39,Z⟩ (U O 0)) i:=Frm.Ik ho (fun k _ e=>by rw[e];exact h.tb);go_in;by_cases hp:a.ph=4
 ·have g1:(a.ph != 4)=false:=by simp[hp]
  go_wp2_with(go_at_call 70;refine mqv (cV) ?_);go_ret;exact .inr ⟨hp,rfl,_,f0,h1,⟨rfl,rfl,rfl⟩⟩
 ·have g1:(a.ph != 4)=true:=by simp[hp]
  go_wp2_with(go_at_call 70;refine mqv (cV) ?_);go_ret;exact .inl ⟨hp,rfl,rfl⟩
end
section
variable {τ:Nat→Nat} {w:V} {i b W nb mb:Nat} {x:BR} {bits:List Bool} {a:Bb}
def Y9(h:Bx τ w i b x W nb mb bits a)(hi:i≠0):AL AE 44 #[AI (I ⟨b,0,Z⟩)] w fun e w'=>
  (a.ph=4/\e=AN (U O 13)/\w'=w)\/(a.ph≠4/\e=AN (U O 0)/\∃x',Frm τ τ w w' i/\Bx τ w' i b x' W nb mb bits a.down/\Fix x x'):=by
 have cV:=Qk b x w h.row;have H8:E w ⟨b,39,Z⟩=I (U O a.ph):=by rw[<-h.num.ph];exact h.row.c 39
 go_in;by_cases hp:a.ph=4
 ·have g2:(a.ph == 4)=true:=by simp[hp]
  go_wp2_with(go_at_call 70;refine mqv (cV) ?_);go_ret;exact .inl ⟨hp,rfl,rfl⟩
 ·have g2:(a.ph == 4)=false:=by simp[hp]
  go_wp2_with(first | (go_at_call 70;refine mqv (cV) ?_) | (refine UF Q 140 _ _ Q b 39 ({Jn with phase:=4}:ON).cs AG AG 142 _ ({x with k:={Jn with phase:=4}}:BR).cs h.row (qiz 140 18) (Fg AG) AG AG ?_));go_ret;have ho:AT (fun k=>k=b) w (w.setRow b ({x with k:={Jn with phase:=4}}:BR).cs):=AT.grown (Fw w b _) (fun g hg=>by cases hg;exact .inl Q);have row:Cu (w.setRow b ({x with k:={Jn with phase:=4}}:BR).cs) b {x with k:={Jn with phase:=4}}:=GS w b _ _ _ (0,0) h.row;exact .inr ⟨hp,rfl,{x with k:={Jn with phase:=4}},Frm.Ik ho (fun k _ e=>by rw[e];exact h.tb),h.store hi ho row Q Q Q ⟨h.num.last,rfl,rfl,rfl,rfl,rfl,rfl,rfl⟩ (SW.none τ w 4 0 a) (.inl ⟨rfl,rfl⟩) Q Q,⟨rfl,rfl,rfl⟩⟩
def Bb.tick(a:Bb)(side:Int)(W:Nat)(bits:List Bool)(tries:Int):Bb × List Lt:=
 if a.ph=1 then(if a.waited+1<=tries then({a with waited:=a.waited+1},a.sent.toList)else if a.has then({a with waited:=a.waited+1,ph:=2},[])else({a with waited:=a.waited+1}:Bb).stop side W bits 9)else(a,[])
def AbM(h:Bx τ w i b x W nb mb bits a)(hi:i≠0)(fr:BU τ w)(hl:a.ph=1->1<=a.last/\a.last<=1000)(hw:0<=a.waited/\a.waited<=1000000)(hs:∀l,a.sent=I l->Y l.ws<=4096):AL AE 45 #[AI (I ⟨b,0,Z⟩)] w fun e w'=>
  (a.ph=4/\e=AN (Be #[R Z 0 0,U O 13])/\w'=w)\/(a.ph≠4/\∃x' v',e=AN (Be #[v',U O 0])/\Frm τ τ w w' i/\Bx τ w' i b x' W nb mb bits (a.tick x.side W bits x.s.tries).1/\Ju τ w' v' (a.tick x.side W bits x.s.tries).2/\Fix x x'):=by
 have cV:=Qk b x w h.row;have H8:E w ⟨b,39,Z⟩=I (U O a.ph):=by rw[<-h.num.ph];exact h.row.c 39
 by_cases hp:a.ph=4
 ·have g2:(a.ph == 4)=true:=by simp[hp]
  go_in;go_wp2_with(go_at_call 70;refine mqv (cV) ?_);go_ret2;exact .inl ⟨hp,rfl,rfl⟩
 have g2:(a.ph == 4)=false:=by simp[hp]
 by_cases hb:a.ph=1
 case neg=>
  have g3:(a.ph != 1)=true:=by simp[hb]
  have e1:a.tick x.side W bits x.s.tries=(a,[]):=by unfold Bb.tick;rw[AU hb]
  rw[e1];go_in;go_wp2_with(go_at_call 70;refine mqv (cV) ?_);go_ret2;exact .inr ⟨hp,x,_,rfl,Frm.refl _ _ _,h,.inl ⟨rfl,rfl⟩,⟨rfl,rfl,rfl⟩⟩
 have g3:(a.ph != 1)=false:=by simp[hb]
 have x46:E w ⟨b,46,Z⟩=I (U O a.waited):=by rw[<-h.num.wt];exact h.row.c 46
 have f46:=h.row.fr 46;have S1:Cu (Ai w ⟨b,46,Z⟩ (U O (a.waited+1))) b {x with k:={x.k with waited:=a.waited+1}}:=h.row.set 46 _ Q;have ho:AT (fun k=>k=b) w (Ai w ⟨b,46,Z⟩ (U O (a.waited+1))):=AT.set (S:=fun k=>k=b) Q
 have h1:Bx τ (Ai w ⟨b,46,Z⟩ (U O (a.waited+1))) i b {x with k:={x.k with waited:=a.waited+1}} W nb mb bits {a with waited:=a.waited+1}:=
  h.store hi ho S1 Q Q Q ⟨h.num.last,h.num.ph,h.num.rs,rfl,h.num.sh,h.num.n,h.num.t,h.num.has⟩ ⟨h.li.pulses,h.li.clicks,h.li.wait,h.li.sent,h.li.took,h.li.ledger,h.li.kept,h.li.slots,h.li.decoys,h.li.block⟩ h.crs Q Q
 have f0:Frm τ τ w (Ai w ⟨b,46,Z⟩ (U O (a.waited+1))) i:=Frm.Ik ho (fun k _ e=>by rw[e];exact h.tb);have Dc:BU τ (Ai w ⟨b,46,Z⟩ (U O (a.waited+1))):=fr.on ho.size;obtain⟨w1,BJ⟩:=Az (Ai w ⟨b,46,Z⟩ (U O (a.waited+1)));rw[BJ]at S1 ho h1 f0 Dc;have y34:E w1 ⟨b,33,Z⟩=I (U O x.s.tries):=S1.c 33;have y46:E w1 ⟨b,46,Z⟩=I (U O (a.waited+1)):=S1.c 46;go_in;go_wp2_with(go_at_call 70;refine mqv (cV) ?_);have L1:=Di y34;have L2:=Di y46;have h0:=h;refine qrl ?_;rintro w2⟨⟨_,hb2⟩,rfl⟩;have h2:=h1.on hb2;have f2:Frm τ τ w w2 i:=f0.trans (Frm.of hb2);have Ej:BU τ w2:=Dc.on hb2.size;have z44:E w2 ⟨b,44,Z⟩=I x.k.sent:=h2.row.c 44;have z56:E w2 ⟨b,56,Z⟩=I (Av a.has):=by rw[<-h.num.has];exact h2.row.c 56
 clear L1 L2 y34 y46 H8 x46 f46 S1 ho h1 BJ hb2 f0 Dc;by_cases hw2:a.waited+1<=x.s.tries
 ·have e1:a.tick x.side W bits x.s.tries=({a with waited:=a.waited+1},a.sent.toList):=by unfold Bb.tick;rw[Bd hb,Bd hw2]
  have d1:decide (a.waited+1<=x.s.tries)=true:=Er hw2;have E1:=F e1;clear e1;rcases h2.li.sent with⟨q1,q2⟩ | ⟨p,l,q1,q2,A,c,hL,Dp,hpl,htp,hAt⟩
  ·have RM:a.sent=Z:=q1
   have q2':x.k.sent=AI Z:=q2;rw[q2']at z44;go_wp2_with(go_at_call 103;refine(mW _).mono ?_;rintro e w' ⟨rfl,rfl⟩);go_ret2;rw[E1.out];exact .inr ⟨hp,{x with k:={x.k with waited:=a.waited+1}},_,rfl,f2,h2,.inl ⟨by rw[RM];rfl,rfl⟩,⟨rfl,rfl,rfl⟩⟩
  ·have RM:a.sent=I l:=q1
   have q2':x.k.sent=AI (I ⟨p,0,Z⟩):=q2;rw[q2']at z44;have cP:=fE p (l.at A c) w2 hL Dp (Br (hs l RM) AC);go_wp2_with fail;refine cP.mono ?_;rintro e w3⟨d,A',c',rfl,M1,in1,hb3,fd,fA⟩;go_wp2;go_ret2;rw[E1.out];refine .inr ⟨hp,{x with k:={x.k with waited:=a.waited+1}},_,rfl,f2.trans (Frm.of hb3),h2.on hb3,.inr ⟨d,l,by rw[RM];rfl,rfl,A',c',M1,in1,(Bm.1 M1).1,Ej _ fd,fun y hy=>⟨(fA y hy).2,Ej _ (fA y hy).1⟩⟩,⟨rfl,rfl,rfl⟩⟩
 ·have d1:decide (a.waited+1<=x.s.tries)=false:=Ds hw2
  have d2:decide (x.s.tries<a.waited+1)=true:=Er J;cases hh:a.has with
  | true=>
   have e1:a.tick x.side W bits x.s.tries=({a with waited:=a.waited+1,ph:=2},[]):=by unfold Bb.tick;rw[Bd hb,AU hw2,Bd hh]
   have E1:=F e1;clear e1;rw[hh]at z56;have IK:=h2.row.c 39;have g39:=h2.row.fr 39;have S3:Cu (Ai w2 ⟨b,39,Z⟩ (U O 2)) b {x with k:={x.k with waited:=a.waited+1,phase:=2}}:=h2.row.set 39 _ Q;have ho3:AT (fun k=>k=b) w2 (Ai w2 ⟨b,39,Z⟩ (U O 2)):=AT.set (S:=fun k=>k=b) Q
   have h3:Bx τ (Ai w2 ⟨b,39,Z⟩ (U O 2)) i b {x with k:={x.k with waited:=a.waited+1,phase:=2}} W nb mb bits {a with waited:=a.waited+1,ph:=2}:=
    h2.store hi ho3 S3 Q Q Q ⟨h.num.last,rfl,h.num.rs,rfl,h.num.sh,h.num.n,h.num.t,h.num.has⟩ ⟨h2.li.pulses,h2.li.clicks,h2.li.wait,h2.li.sent,h2.li.took,h2.li.ledger,h2.li.kept,h2.li.slots,h2.li.decoys,h2.li.block⟩ h2.crs Q Q
   have f3:Frm τ τ w (Ai w2 ⟨b,39,Z⟩ (U O 2)) i:=f2.trans (Frm.Ik ho3 (fun k _ e=>by rw[e];exact h.tb));go_wp2;go_ret2;rw[E1.out];exact .inr ⟨hp,{x with k:={x.k with waited:=a.waited+1,phase:=2}},_,rfl,f3,h3,.inl ⟨rfl,rfl⟩,⟨rfl,rfl,rfl⟩⟩
  | false=>
   have e1:a.tick x.side W bits x.s.tries=({a with waited:=a.waited+1}:Bb).stop x.side W bits 9:=by unfold Bb.tick;rw[Bd hb,AU hw2,AU (by rw[hh];decide)]
   have E1:=F e1;clear e1;rw[hh]at z56;have cS:=SY h2 hi Ej 9 AC (hl hb);go_wp2_with fail;refine cS.mono ?_;rintro e w3⟨x3,v3,rfl,f3,h3,o3,fx⟩;go_wp2;go_ret2;rw[E1.out];exact .inr ⟨hp,x3,v3,rfl,f2.trans f3,h3,o3,⟨fx.s,fx.side,fx.pool⟩⟩
end
section
variable {τ:Nat→Nat} {w:V} {i b W nb mb:Nat} {x:BR} {bits:List Bool} {a:Bb}
def AbN(fr:BU τ w){v:An}{o:Option Lt}(h:UT τ w v o)(hs:∀l,o=I l->Y l.ws<=4096):AL AE 103 #[v] w fun e w'=>∃v',e=AN v'/\Ag w w w'/\Ju τ w' v' o.toList:=by
 rcases h with⟨rfl,rfl⟩ | ⟨p,l,rfl,rfl,A,c,hL,Dp,hpl,htp,hAt⟩
 ·refine(mW w).mono ?_
  rintro e w'⟨rfl,rfl⟩;exact⟨_,Q,Ae _ _,.inl ⟨rfl,rfl⟩⟩
 ·refine(fE p (l.at A c) w hL Dp (Br (hs l Q) AC)).mono ?_
  rintro e w3⟨d,A',c',rfl,M1,in1,hb3,fd,fA⟩;exact⟨_,Q,hb3,.inr ⟨d,l,rfl,rfl,A',c',M1,in1,(Bm.1 M1).1,fr _ fd,fun y hy=>⟨(fA y hy).2,fr _ (fA y hy).1⟩⟩⟩
def agB(kind:Int):Bool:=decide (kind=2\/kind=4\/kind=6\/kind=8\/kind=9)
def AbO(h:Bx τ w i b x W nb mb bits a)(fr:BU τ w)(kind:Int)(hs:∀l,a.sent=I l->Y l.ws<=4096):AL AE 106 #[AI (I ⟨b,0,Z⟩),U O kind] w fun e w'=>
  ∃v',e=AN v'/\Ag w w w'/\Ju τ w' v' (if agB kind=true then a.sent.toList else[]):=by
 have x44:E w ⟨b,44,Z⟩=I x.k.sent:=h.row.c 44;have cP:=AbN fr h.li.sent hs;go_in;cases hk:agB kind with
 | true=>
  unfold agB at hk;have hk':=Ib hk;rcases hk' with rfl | rfl | rfl | rfl | rfl
  all_goals(
   go_wp2_with fail;refine cP.mono ?_;rintro e w'⟨v',rfl,hb,ho⟩;go_wp2;go_ret;exact⟨v',Q,hb,ho⟩)
 | false=>
  unfold agB at hk;have hk':=Xc hk;have g1:(kind == 2)=false:=by simp;omega
  have g2:(kind == 4)=false:=by simp;omega
  have g3:(kind == 6)=false:=by simp;omega
  have g4:(kind == 8)=false:=by simp;omega
  have g5:(kind == 9)=false:=by simp;omega
  go_wp2;go_ret;exact⟨_,Q,Ae _ _,.inl ⟨rfl,rfl⟩⟩
end
def AbP(w:V)(c:Cas)(m:BP)(M:Mem)(h:Cj w c m M):AL AE 278 #[AI (I ⟨M.g,0,Z⟩)] w fun e w'=>e=AN (Av m.failed)/\w=w':=by
 have x0:E w ⟨M.g,0,Z⟩=I (Av true):=h.Cx 0;have x10:E w ⟨M.g,10,Z⟩=I (Av m.failed):=h.Cx 10;have cV:=YJ M.g w x0;go_in;go_wp2_with(go_at_call 150;refine mqv (cV) ?_);go_ret;exact⟨Q,Q⟩
def AbQ{fn:Func}{p u v:Tmp}{ty:TypeId}(h:fn.results=#[.cell p ty,.tmp u,.tmp v])(tmps:Array An)(P:Program)(w:V):
  (results fn tmps).run P w=((asAddr (tmps.getD p undef)).run P w).andThen fun a w₁=>((loadVar ty a).run P w₁).andThen fun y w₂=> .ok (Be #[y,tmps.getD u undef,tmps.getD v undef]) w₂:=by
 simp only[results,h];simp[Sem.run_bind,Result.andThen]
def AbR(w:V)(c:Cas)(m:BP)(M:Mem)(h:Cj w c m M):AL AE 279 #[AI (I ⟨M.g,0,Z⟩)] w fun e w'=>e=AN (Be #[Ba m.next,Av m.opn,U O 0])/\Ag w w w':=by
 have x0:E w ⟨M.g,0,Z⟩=I (Av true):=h.Cx 0;have x18:E w ⟨M.g,18,Z⟩=I (U O m.next.pass):=h.Cx 18;have Mb:E w ⟨M.g,19,Z⟩=I (U O m.next.fr):=h.Cx 19;have Nr:E w ⟨M.g,20,Z⟩=I (U O m.next.BG):=h.Cx 20;have x21:E w ⟨M.g,21,Z⟩=I (Av m.opn):=h.Cx 21;have b1:=AB (Ae w w) (N #[U O 0,U O 0,U O 0] 245);have y18:=AK b1 x18;have y19:=AK b1 Mb;have Jr:=AK b1 Nr;have y21:=AK b1 x21;have cV:=YJ M.g _ (AK b1 x0);go_in;go_wp2_with(go_at_call 150;refine mqv (cV) ?_);have b2:=AB (Ae w w) (N m.next 245);have z18:=AK b2 x18;have z19:=AK b2 Mb;have z20:=AK b2 Nr;have z21:=AK b2 x21
 go_region_held3 (fun w'=>E w' ⟨M.g,18,Z⟩=I (U O m.next.pass)/\E w' ⟨M.g,19,Z⟩=I (U O m.next.fr)/\E w' ⟨M.g,20,Z⟩=I (U O m.next.BG)/\E w' ⟨M.g,21,Z⟩=I (Av m.opn))
  (first | (exact⟨y18,y19,Jr,y21⟩) | (exact⟨z18,z19,z20,z21⟩))
  (fail)
 all_goals(
  go_wp2_with fail;refine qti ?_;refine De (v:= Be #[Ba m.next,Av m.opn,U O 0]) ?_ Q ⟨rfl,b2.drew⟩;rw[AbQ Q];go_simp)
def AbS(w:V)(c:Cas)(m:BP)(M:Mem)(h:Cj w c m M)(hl:Y m.b<=100000):AL AE 280 #[AI (I ⟨M.g,0,Z⟩)] w fun e w'=>∃v,e=AN v/\Own w' w 4 1 C4 v m.b/\Ag w w w':=by
 have x0:E w ⟨M.g,0,Z⟩=I (Av true):=h.Cx 0;have cV:=YJ M.g w x0;obtain⟨A,k,hv,l1,m1,n1,ar⟩:=h.b.form Dk;have x6:E w ⟨M.g,6,Z⟩=I (R A (Y m.b) k):=qrb hv (h.Cx 6);have cC:=Yp A k m.b w ar n1 l1 m1 hl;go_in;go_wp2_with(go_at_call 150;refine mqv (cV) ?_);refine cC.mono ?_;rintro e w2⟨v,rfl,ow,hb⟩;go_wp2;go_ret;exact⟨v,Q,ow,hb⟩
def jj{e e':Int}(h:e=e'):Ending.returned (Be #[R Z 0 0,R Z 0 0,U O e])=AN (Be #[R Z 0 0,R Z 0 0,U O e']):=by rw[h]
def Ahk(C:Option AS)(m:Nat)(c:List Bf)(w:V)(hC:Arr 2 Bf.enc w w C c)(hl:Y c<=4611686018427387904):
  AL AE 81 #[R Z 0 0,R C (Y c) m,U O 0] w fun e w'=>∃v u,e=AN (Be #[v,u,U O (Bz Bf.ok c)])/\Ag w w w':=by
 by_cases hz:Bz Bf.ok c=0
 ·have h:=Ahj Z 0 [] C m c 0 w Arr.nil hC Q hz AC AC
  refine h.mono ?_;rintro e w'⟨v,u,rfl,_,_,hb⟩;exact⟨v,u,by rw[hz],hb⟩
 have cV:=iZ Z 0 [] w Arr.nil AC;rw[show Bz AQ.ok []=0 from rfl]at cV;by_cases h:4096<Y c
 ·have d1:decide (4096<(Y c:Int))=true:=by simp;omega
  have e1:=F (XQ (ok:=Bf.ok) h);clear hz;go_in;go_wp2;go_ret3;exact⟨_,_,jj e1.out.symm,Ae _ _⟩
 have d1:decide (4096<(Y c:Int))=false:=by simp;omega
 have Hz:=F hz;clear hz;go_in;go_wp2_with fail;refine gqz cV fun w1 hb1=>?_;clear cV;go_wp2_with fail;go_loopw [39] (fun i wr=>∃k:Nat,k<=Y c/\i=U O k/\Aj ((c.take k).all Bf.ok=true)/\Ag w w wr) (fun i _=>Y c+1-(intOf i).toNat);exact⟨0,BM _,rfl,F rfl,hb1⟩
 clear hb1;obtain⟨k,hk,rfl,inv,hb⟩:=hrel;obtain⟨wi,rfl⟩:=qgn wr;rcases D4 k (Y c)with hlt | D8
 ·obtain⟨bp,op,qb,qk,rfl,BN,hx,x0,x1⟩:=hC.clk hlt hb
  have q7:=AB hb (N #[U O qb,U O qk] 162);have bad:Aj (Bf.ok ⟨qb,qk⟩=false->Bz Bf.ok c=2):=F (fun hf=>XR h hx.out hf);have good:=F (fun hf=>Vu hx.out inv.out hf);by_cases BI:(0<=qb/\qb<=1)/\(0<=qk/\qk<=3)
  ·obtain⟨⟨a1,a2⟩,a3,a4⟩:=BI
   have e1:decide (qb<0)=false:=by simp;omega
   have e2:decide (1<qb)=false:=by simp;omega
   have e3:decide (qk<0)=false:=by simp;omega
   have e4:decide (3<qk)=false:=by simp;omega
   have hg:=F (good.out (by simp[Bf.ok,AR];omega));go_wp2_with fail;exact⟨⟨k+1,J,qgm,hg,q7⟩,qio⟩
  ·have hbd:=F (bad.out (by simp[Bf.ok,AR];omega))
   clear good bad inv hx;go_wp2_with fail
   all_goals(first | (exfalso;omega) | (go_ret3;first | exact⟨_,_,jj hbd.out.symm,q7⟩ | exact⟨⟨_,_,jj hbd.out.symm⟩,q7⟩))
 ·exact(Hz.out (XS (ok:=Bf.ok) h D8 inv.out)).elim
def tN(A:Option AS)(c:Nat)(l:List Bf)(n:Int)(w:V)(hA:Arr 2 Bf.enc w w A l)(hl:Y l<=4611686018427387904):
  AL AE 119 #[R A (Y l) c,U O n] w fun e w'=>e=AN (Av (((Y l:Int) == n)&&(Bz Bf.ok l == 0)))/\Ag w w w':=by
 have cC:=Ahk A c l w hA hl;generalize Bz Bf.ok l=AM at*;go_in;go_wp2_with fail;refine cC.mono ?_;rintro e w2⟨v,u,rfl,hb2⟩;cases b1:((Y l:Int) == n) <;> cases b2:(AM == 0)
 all_goals(
  go_wp2;go_ret;exact⟨JJ (by rw[b1,b2];rfl),hb2⟩)
section
def Aeq(c:Cas)(hc:c.Ok)(q:Ca)(hq:¬c.val q)(w:V):AL AE 281 #[Ba c,U O c.n,Ba q] w fun e w'=>
  e=AN (Be #[R Z 0 0,U O 3])/\Ag w w w':=by
 have b1:=AB (AB (Ae w w) (N c 60)) (N q 245);have cS:=fun y=>gN c hc y
 obtain⟨w1,BJ⟩:=Az (Ao (Ao w (N c 60)) (N q 245));have r1:w1.heap[w.heap.size]?=I (N c 60 (0,0)):=by rw[<-BJ];exact((AB (Ae _ _) _).block w AO).trans (CB w _)
 have r2:w1.heap[w.heap.size+1]?=I (N q 245 (0,0)):=by
  rw[<-BJ,show w.heap.size+1=(Ao w (N c 60)).heap.size by simp];exact CB _ _
 rw[BJ]at b1;have c0:=AX w1 _ 0 _ _ _ r1;have c1:=AX w1 _ 1 _ _ _ r1;have c2:=AX w1 _ 2 _ _ _ r1;have d0:=AX w1 _ 0 _ _ _ r2;have d1:=AX w1 _ 1 _ _ _ r2;have d2:=AX w1 _ 2 _ _ _ r2;have p0:decide ((q.pass:Int)<0)=false:=Ds J;have p1:decide ((q.fr:Int)<0)=false:=Ds J;have p2:decide (q.BG<0)=false:=AO;have kc:q.pass<c.P->q.fr<q.BG->q.BG<=c.n->False:=fun a b d=>hq ⟨a,b,d⟩
 by_cases h1:q.pass<c.P
 case neg=>
  have g1:decide (c.P<=q.pass)=true:=Er J;clear kc hc hq h1;go_in;go_upto_region 1 with fail
  try rw[BJ]
  go_wp2_with(go_at_call 274;refine gqz (cS _) fun w2 hb2=>?_;have e0:=AK hb2 c0;have e1:=AK hb2 c1;have e2:=AK hb2 c2;have f0:=AK hb2 d0;have f1:=AK hb2 d1;have f2:=AK hb2 d2);go_ret2;exact⟨Q,AH b1 hb2⟩
 have g1:decide (c.P<=q.pass)=false:=Ds J;by_cases h2:q.fr<q.BG
 case neg=>
  have g2:decide (q.BG<=q.fr)=true:=Er J;clear kc hc hq h1 h2;go_in;go_upto_region 1 with fail
  try rw[BJ]
  go_wp2_with(go_at_call 274;refine gqz (cS _) fun w2 hb2=>?_;have e0:=AK hb2 c0;have e1:=AK hb2 c1;have e2:=AK hb2 c2;have f0:=AK hb2 d0;have f1:=AK hb2 d1;have f2:=AK hb2 d2);go_ret2;exact⟨Q,AH b1 hb2⟩
 have g2:decide (q.BG<=q.fr)=false:=Ds J;have g3:decide (c.n<q.BG)=true:=Er (by by_cases h:q.BG<=c.n;exact(kc h1 h2 h).elim;omega);clear kc hc hq h1 h2;go_in;go_upto_region 1 with fail
 try rw[BJ]
 go_wp2_with(go_at_call 274;refine gqz (cS _) fun w2 hb2=>?_;have e0:=AK hb2 c0;have e1:=AK hb2 c1;have e2:=AK hb2 c2;have f0:=AK hb2 d0;have f1:=AK hb2 d1;have f2:=AK hb2 d2);go_ret2;exact⟨Q,AH b1 hb2⟩
def Aer(c:Cas)(hc:c.Ok)(q:Ca)(hq:c.val q)(w:V):AL AE 281 #[Ba c,U O c.n,Ba q] w fun e w'=>
  ∃v,e=AN (Be #[v,U O 0])/\Own w' w 3 1 BD v (c.part q)/\Ag w w w':=by
 have b1:=AB (AB (Ae w w) (N c 60)) (N q 245);have cS:=fun y=>gN c hc y
 have cO:=fun y=>pk c q.pass y hc hq.1
 obtain⟨w1,BJ⟩:=Az (Ao (Ao w (N c 60)) (N q 245));have r1:w1.heap[w.heap.size]?=I (N c 60 (0,0)):=by rw[<-BJ];exact((AB (Ae _ _) _).block w AO).trans (CB w _)
 have r2:w1.heap[w.heap.size+1]?=I (N q 245 (0,0)):=by
  rw[<-BJ,show w.heap.size+1=(Ao w (N c 60)).heap.size by simp];exact CB _ _
 rw[BJ]at b1;have c0:=AX w1 _ 0 _ _ _ r1;have c1:=AX w1 _ 1 _ _ _ r1;have c2:=AX w1 _ 2 _ _ _ r1;have d0:=AX w1 _ 0 _ _ _ r2;have d1:=AX w1 _ 1 _ _ _ r2;have d2:=AX w1 _ 2 _ _ _ r2;have p0:decide ((q.pass:Int)<0)=false:=Ds J;have p1:decide ((q.fr:Int)<0)=false:=Ds J;have CZ:=hq.1;have hv2:=hq.2.1;have hv3:=hq.2.2;have g1:decide (c.P<=q.pass)=false:=Ds J;have g2:decide (q.BG<=q.fr)=false:=Ds J;have g3:decide (c.n<q.BG)=false:=Ds J;have hn:=hc.n;have hpl:=c.gz hq;have ID:=c.YA q.pass;go_in;go_upto_region 1 with fail
 try rw[BJ]
 go_upto_region 6 with(go_at_call 274;refine gqz (cS _) fun w2 hb2=>?_;have e0:=AK hb2 c0;have e1:=AK hb2 c1;have e2:=AK hb2 c2;have f0:=AK hb2 d0;have f1:=AK hb2 d1;have f2:=AK hb2 d2)
 have q2:=AH b1 hb2;clear c0 c1 c2 d0 d1 d2 p0 p1 g1 g2 g3 cS r1 r2 BJ b1;have L0:=qbc e0;have L1:=qbc e1;have L2:=qbc e2;have M0:=qbc f0;have M1:=qbc f1;have M2:=qbc f2;have S0:=(Ae w2 w2).drew;refine qrh w2 S0 fun hHeld=>?_
 refine tQ4 0 ?_;refine tQ4 5 ?_;refine url 4 (fun KU Bc=>?_);go_simp;refine(cO _).mono ?_;rintro e w3⟨v3,rfl,Fm,I0⟩;obtain⟨A3,c3,rfl,l3,m3,n3,Mq⟩:=Fm.form DY;have hb3:=AH S0 I0;refine Bc.out _ _ hb3 (fun _=>?_);refine zp ?_;rw[ID]at l3;have hne:c.ord q.pass≠[]:=fun e=>by rw[e]at ID;simp at ID;omega
 obtain⟨ab,ao,rfl,_,_⟩:=Mq hne;have Ru:=Mq.part q.fr (q.BG-q.fr);have k1:q.BG<=c3:=J;have k3:¬c3=q.fr:=J
 have cC:∀y,Ag w3 w3 y->AL AE 58 #[R (I ⟨ab,ao+q.fr,Z⟩) (q.BG-q.fr) (c3-q.fr)] y fun e w'=>∃v,e=AN v/\Own w' y 3 1 BD v (c.part q)/\Ag y y w':=fun y hy=>by
  have h2:=WV (I ⟨ab,ao+q.fr*1,Z⟩) (c3-q.fr) (c.part q) y (Ru.on hy) (by intro h;cases h) (by rw[hpl];omega) (by rw[hpl];omega);rw[hpl,JK]at h2;exact h2
 have hfr:q.fr<=q.BG:=EO hv2;simp only[ID];clear Ru Mq hpl ID Fm cO L0 L1 L2 M0 M1 M2 hne;refine tQ 9 ?_;refine url 10 (fun KU Bc=>?_);go_simp;refine(cC _ (Ae _ _)).mono ?_;rintro e w4⟨v4,rfl,JC,LU⟩;have hb4:=AH hb3 LU;refine Bc.out _ _ (hb4) (fun _=>?_);refine zp ?_;refine tQ2 11 ?_;refine Ce ?_;go_wp2;go_ret2;exact⟨_,Q,JC.lift (Br q2.size hb3.size),AH q2 hb4⟩
def Aes(c:Cas)(hc:c.Ok)(B:Option AS)(cb:Nat)(q:Ca)(hq:¬c.val q)(w:V):AL AE 234 #[Ba c,R B c.n cb,Ba q] w fun e w'=>
  e=AN (Be #[Av false,U O 3])/\Ag w w w':=by
 have b1:=AB (AB (Ae w w) (N c 60)) (N q 245);have cP:=fun y=>Aeq c hc q hq y
 clear hq;go_in;go_wp2_with(go_at_call 281;refine gqz (cP _) fun w2 hb2=>?_);go_ret2;exact⟨Q,AH b1 hb2⟩
def Aet(c:Cas)(hc:c.Ok)(B:Option AS)(cb:Nat)(b:List Bool)(Fe:Y b=c.n)(q:Ca)(hq:c.val q)(w:V)(hB:Arr 1 C4 w w B b):AL AE 234 #[Ba c,R B c.n cb,Ba q] w fun e w'=>
  e=AN (Be #[Av (par b (c.part q)),U O 0])/\Ag w w w':=by
 have b1:=AB (AB (Ae w w) (N c 60)) (N q 245);have cP:=fun y=>Aer c hc q hq y
 have hpl:=c.gz hq;have hn:=hc.n;have hv3:=hq.2.2
 have cQ:∀y A ca,Ag w w y->Arr 1 BD y y A (c.part q)->AL AE 282 #[R B c.n cb,R A (c.part q).length ca] y fun e w'=>e=AN (Av (par b (c.part q)))/\y=w':=fun y A ca hy hA=>by
  have:=pg B cb b A ca (c.part q) y (hB.on hy) hA J J (fun x hx=>by rw[Fe];exact Cas.pn hx);rw[Fe]at this;exact this
 clear hq hpl Fe hn hv3;generalize par b (c.part q)=AW at*;generalize c.part q=L at*;go_in
 go_wp2_with(first
  | (go_at_call 281;refine(cP _).mono ?_;rintro e w2⟨v2,rfl,GZ,hb2⟩;obtain⟨A2,c2,rfl,l2,m2,n2,Nv⟩:=GZ.form DY)
  | (go_at_call 282;refine(cQ _ _ _ (AH b1 hb2) Nv).mono ?_;rintro e w3 ⟨rfl,rfl⟩))
 go_ret2;exact⟨Q,AH b1 hb2⟩
end
end Go.Proofs.YtjpidgffdkjjeaaGreat
