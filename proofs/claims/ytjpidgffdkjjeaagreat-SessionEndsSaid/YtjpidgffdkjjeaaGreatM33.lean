/- Contracts and plain laws. No condition. -/
import Derived.Test.YtjpidgffdkjjeaaGreatMA
import Derived.Test.YtjpidgffdkjjeaaGreatM11
import Derived.Test.YtjpidgffdkjjeaaGreatM12
set_option linter.all false
set_option maxHeartbeats 16000000
namespace Go.Proofs.YtjpidgffdkjjeaaGreat
open Go.Proofs.Tryz
open Go.Proofs.Tryz renaming prog->AE
open List renaming length->Y
open Go.World renaming cell?->E,setCell->Ai,alloc->Ao,frozen?->Bo
open Go.Value renaming int->U,slice->R,pointer->AI,agg->Ba,tuple->Be,nilFunc->Bl,bool->Av
open Go.IntKind renaming i64->O,u64->AA,u32->BF,u8->Cd
open Option renaming none->Z,some->I
open Go.Ending renaming returned->AN
open Go.Obj renaming cells->N
open Go renaming World->V,Value->An,Calls->AL,Addr->AS
open Go.RowKit renaming Below->Ag,Hid->Aj
open Go.RowKit Go.Maps
section
set_option maxRecDepth 100000
def Aeq(c:Cas)(hc:c.Ok)(q:Ca)(hq:¬c.val q)(w:V):AL AE 281 #[Ba c,U O c.n,Ba q] w fun e w'=>
  e=AN (Be #[R Z 0 0,U O 3])/\Ag w w w':=by
 have b1:=AB (AB (Ae w w) (N c 60)) (N q 245);have cS:=fun y=>gN c hc y
 obtain⟨w1,BJ⟩:=Az (Ao (Ao w (N c 60)) (N q 245));have r1:w1.heap[w.heap.size]?=I (N c 60 (0,0)):=by rw[<-BJ];exact((AB (Ae _ _) _).block w AO).trans (CB w _)
 have r2:w1.heap[w.heap.size+1]?=I (N q 245 (0,0)):=by
  rw[<-BJ,show w.heap.size+1=(Ao w (N c 60)).heap.size by simp];exact CB _ _
 rw[BJ]at b1;have c0:=AX w1 _ 0 _ _ _ r1;have c1:=AX w1 _ 1 _ _ _ r1;have c2:=AX w1 _ 2 _ _ _ r1;have d0:=AX w1 _ 0 _ _ _ r2;have d1:=AX w1 _ 1 _ _ _ r2;have d2:=AX w1 _ 2 _ _ _ r2;have p0:decide ((q.pass:Int)<0)=false:=Ds J;have p1:decide ((q.fr:Int)<0)=false:=Ds J;have p2:decide (q.BG<0)=false:=AO;have kc:q.pass<c.P->q.fr<q.BG->q.BG<=c.n->False:=fun a b d=>hq ⟨a,b,d⟩
 by_cases h1:q.pass<c.P
 case neg=>
  have g1:decide (c.P<=q.pass)=true:=Er J;clear kc hc hq h1;go_enter func281,ntmps281;go_upto_region 1 with fail
  try rw[BJ]
  go_wp2_with(go_at_call 274;refine(cS _).mono ?_;rintro e w2⟨rfl,hb2⟩;have e0:=AK hb2 c0;have e1:=AK hb2 c1;have e2:=AK hb2 c2;have f0:=AK hb2 d0;have f1:=AK hb2 d1;have f2:=AK hb2 d2);go_ret2;exact⟨Q,AH b1 hb2⟩
 have g1:decide (c.P<=q.pass)=false:=Ds J;by_cases h2:q.fr<q.BG
 case neg=>
  have g2:decide (q.BG<=q.fr)=true:=Er J;clear kc hc hq h1 h2;go_enter func281,ntmps281;go_upto_region 1 with fail
  try rw[BJ]
  go_wp2_with(go_at_call 274;refine(cS _).mono ?_;rintro e w2⟨rfl,hb2⟩;have e0:=AK hb2 c0;have e1:=AK hb2 c1;have e2:=AK hb2 c2;have f0:=AK hb2 d0;have f1:=AK hb2 d1;have f2:=AK hb2 d2);go_ret2;exact⟨Q,AH b1 hb2⟩
 have g2:decide (q.BG<=q.fr)=false:=Ds J;have g3:decide (c.n<q.BG)=true:=Er (by by_cases h:q.BG<=c.n;exact(kc h1 h2 h).elim;omega);clear kc hc hq h1 h2;go_enter func281,ntmps281;go_upto_region 1 with fail
 try rw[BJ]
 go_wp2_with(go_at_call 274;refine(cS _).mono ?_;rintro e w2⟨rfl,hb2⟩;have e0:=AK hb2 c0;have e1:=AK hb2 c1;have e2:=AK hb2 c2;have f0:=AK hb2 d0;have f1:=AK hb2 d1;have f2:=AK hb2 d2);go_ret2;exact⟨Q,AH b1 hb2⟩
def Aer(c:Cas)(hc:c.Ok)(q:Ca)(hq:c.val q)(w:V):AL AE 281 #[Ba c,U O c.n,Ba q] w fun e w'=>
  ∃v,e=AN (Be #[v,U O 0])/\Own w' w 3 1 BD v (c.part q)/\Ag w w w':=by
 have b1:=AB (AB (Ae w w) (N c 60)) (N q 245);have cS:=fun y=>gN c hc y
 have cO:=fun y=>pk c q.pass y hc hq.1
 obtain⟨w1,BJ⟩:=Az (Ao (Ao w (N c 60)) (N q 245));have r1:w1.heap[w.heap.size]?=I (N c 60 (0,0)):=by rw[<-BJ];exact((AB (Ae _ _) _).block w AO).trans (CB w _)
 have r2:w1.heap[w.heap.size+1]?=I (N q 245 (0,0)):=by
  rw[<-BJ,show w.heap.size+1=(Ao w (N c 60)).heap.size by simp];exact CB _ _
 rw[BJ]at b1;have c0:=AX w1 _ 0 _ _ _ r1;have c1:=AX w1 _ 1 _ _ _ r1;have c2:=AX w1 _ 2 _ _ _ r1;have d0:=AX w1 _ 0 _ _ _ r2;have d1:=AX w1 _ 1 _ _ _ r2;have d2:=AX w1 _ 2 _ _ _ r2;have p0:decide ((q.pass:Int)<0)=false:=Ds J;have p1:decide ((q.fr:Int)<0)=false:=Ds J;have CZ:=hq.1;have hv2:=hq.2.1;have hv3:=hq.2.2;have g1:decide (c.P<=q.pass)=false:=Ds J;have g2:decide (q.BG<=q.fr)=false:=Ds J;have g3:decide (c.n<q.BG)=false:=Ds J;have hn:=hc.n;have hpl:=c.gz hq;have ID:=c.YA q.pass;go_enter func281,ntmps281;go_upto_region 1 with fail
 try rw[BJ]
 go_upto_region 6 with(go_at_call 274;refine(cS _).mono ?_;rintro e w2⟨rfl,hb2⟩;have e0:=AK hb2 c0;have e1:=AK hb2 c1;have e2:=AK hb2 c2;have f0:=AK hb2 d0;have f1:=AK hb2 d1;have f2:=AK hb2 d2)
 have q2:=AH b1 hb2;clear c0 c1 c2 d0 d1 d2 p0 p1 g1 g2 g3 cS r1 r2 BJ b1;have L0:=qbc e0;have L1:=qbc e1;have L2:=qbc e2;have M0:=qbc f0;have M1:=qbc f1;have M2:=qbc f2;have S0:=(Ae w2 w2).drew;refine qrh w2 S0 fun hHeld=>?_
 refine tQ4 0 ?_;refine tQ4 5 ?_;refine url 4 (fun KU Bc=>?_);go_simp;refine(cO _).mono ?_;rintro e w3⟨v3,rfl,Fm,I0⟩;obtain⟨A3,c3,rfl,l3,m3,n3,Mq⟩:=Fm.form DY;have hb3:=AH S0 I0;refine Bc.out _ _ hb3 (fun _=>?_);refine zp ?_;rw[ID]at l3;have hne:c.ord q.pass≠[]:=fun e=>by rw[e]at ID;simp at ID;omega
 obtain⟨ab,ao,rfl,_,_⟩:=Mq hne;have Ru:=Mq.part q.fr (q.BG-q.fr);have k1:q.BG<=c3:=J;have k3:¬c3=q.fr:=J
 have cC:∀y,Ag w3 w3 y->AL AE 58 #[R (I ⟨ab,ao+q.fr,Z⟩) (q.BG-q.fr) (c3-q.fr)] y fun e w'=>∃v,e=AN v/\Own w' y 3 1 BD v (c.part q)/\Ag y y w':=fun y hy=>by
  have h2:=WV (I ⟨ab,ao+q.fr*1,Z⟩) (c3-q.fr) (c.part q) y (Ru.on hy) (by intro h;cases h) (by rw[hpl];omega) (by rw[hpl];omega);rw[hpl,JK]at h2;exact h2
 have hfr:q.fr<=q.BG:=EO hv2;simp only[ID];clear Ru Mq hpl ID Fm cO L0 L1 L2 M0 M1 M2 hne;refine tQ 9 ?_;refine url 10 (fun KU Bc=>?_);go_simp;refine(cC _ (Ae _ _)).mono ?_;rintro e w4⟨v4,rfl,JC,LU⟩;have hb4:=AH hb3 LU;refine Bc.out _ _ (hb4) (fun _=>?_);refine zp ?_;refine tQ2 11 ?_;refine Ce ?_;go_wp2_with fail;go_ret2;exact⟨_,Q,JC.lift (Br q2.size hb3.size),AH q2 hb4⟩
def Aes(c:Cas)(hc:c.Ok)(B:Option AS)(cb:Nat)(q:Ca)(hq:¬c.val q)(w:V):AL AE 234 #[Ba c,R B c.n cb,Ba q] w fun e w'=>
  e=AN (Be #[Av false,U O 3])/\Ag w w w':=by
 have b1:=AB (AB (Ae w w) (N c 60)) (N q 245);have cP:=fun y=>Aeq c hc q hq y
 clear hq;go_enter func234,ntmps234;go_wp2_with(go_at_call 281;refine(cP _).mono ?_;rintro e w2 ⟨rfl,hb2⟩);go_ret2;exact⟨Q,AH b1 hb2⟩
def Aet(c:Cas)(hc:c.Ok)(B:Option AS)(cb:Nat)(b:List Bool)(Fe:Y b=c.n)(q:Ca)(hq:c.val q)(w:V)(hB:Arr 1 C4 w w B b):AL AE 234 #[Ba c,R B c.n cb,Ba q] w fun e w'=>
  e=AN (Be #[Av (par b (c.part q)),U O 0])/\Ag w w w':=by
 have b1:=AB (AB (Ae w w) (N c 60)) (N q 245);have cP:=fun y=>Aer c hc q hq y
 have hpl:=c.gz hq;have hn:=hc.n;have hv3:=hq.2.2
 have cQ:∀y A ca,Ag w w y->Arr 1 BD y y A (c.part q)->AL AE 282 #[R B c.n cb,R A (c.part q).length ca] y fun e w'=>e=AN (Av (par b (c.part q)))/\y=w':=fun y A ca hy hA=>by
  have:=pg B cb b A ca (c.part q) y (hB.on hy) hA J J (fun x hx=>by rw[Fe];exact Cas.pn hx);rw[Fe]at this;exact this
 clear hq hpl Fe hn hv3;generalize par b (c.part q)=AW at*;generalize c.part q=L at*;go_enter func234,ntmps234
 go_wp2_with(first
  | (go_at_call 281;refine(cP _).mono ?_;rintro e w2⟨v2,rfl,GZ,hb2⟩;obtain⟨A2,c2,rfl,l2,m2,n2,Nv⟩:=GZ.form DY)
  | (go_at_call 282;refine(cQ _ _ _ (AH b1 hb2) Nv).mono ?_;rintro e w3 ⟨rfl,rfl⟩))
 go_ret2;exact⟨Q,AH b1 hb2⟩
end
end Go.Proofs.YtjpidgffdkjjeaaGreat
