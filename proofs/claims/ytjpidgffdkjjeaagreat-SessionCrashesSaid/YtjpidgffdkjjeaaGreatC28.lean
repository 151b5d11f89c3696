/- Contracts and plain laws. No condition. -/
import Derived.Test.YtjpidgffdkjjeaaGreatCA
import Derived.Test.YtjpidgffdkjjeaaGreatC24
import Derived.Test.YtjpidgffdkjjeaaGreatC26
set_option linter.all false
set_option maxHeartbeats 16000000
namespace Go.Proofs.YtjpidgffdkjjeaaGreat
open Go.Proofs.Tryz
open Go.Proofs.Tryz renaming prog->AE
open List renaming length->Y
open Go.World renaming cell?->E,setCell->Ai,alloc->Ao,frozen?->Bo
open Go.Value renaming int->U,slice->R,pointer->AI,agg->Ba,tuple->Be,nilFunc->Bl,bool->Av
open Go.IntKind renaming i64->O,u64->AA,u32->BF,u8->Cd
open Option renaming none->Z,some->I
open Go.Ending renaming returned->AN
open Go.Obj renaming cells->N
open Go renaming World->V,Value->An,Calls->AL,Addr->AS
open Go.RowKit renaming Below->Ag,Hid->Aj
set_option maxRecDepth 100000
open Go.RowKit Go.Maps
section
variable{M:Dg}{q:Bt}{st:BX}{v:Bj}{w:V}{τ:Nat->Nat}
theorem Ahu(h:CO τ w M v q)(fr:BU τ w)(iv:Dv v q)(hE:Bj.Kl q≠0):
  AL AE 62 #[AI (I ⟨M.b,0,Z⟩)] w fun e w'=>e=AN (U O (Bj.Kl q))/\Dh τ w M v q w':=by
 have y37:E w ⟨M.b,37,Z⟩=I (AI (I ⟨M.b0,0,Z⟩)):=by rw[<-h.p0];exact h.row.c 37
 have Qm:E w ⟨M.b,38,Z⟩=I (AI (I ⟨M.b1,0,Z⟩)):=by rw[<-h.p1];exact h.row.c 38
 have H8:E w ⟨M.b0,39,Z⟩=I (U O q.x.ph):=by rw[<-h.t0.num.ph];exact h.t0.row.c 39
 have IK:E w ⟨M.b1,39,Z⟩=I (U O q.y.ph):=by rw[<-h.t1.num.ph];exact h.t1.row.c 39
 have Kz:E w ⟨M.b0,38,Z⟩=I (U O q.x.last):=by rw[<-h.t0.num.last];exact h.t0.row.c 38
 have z38:E w ⟨M.b1,38,Z⟩=I (U O q.y.last):=by rw[<-h.t1.num.last];exact h.t1.row.c 38
 have l0:=iv.x.last;have l1:=iv.y.last;have Tn:=F (qbw w fun w' hb=>Dh.stay h fr hb);by_cases h0:q.x.ph=4
 ·have e1:Bj.Kl q=13:=by unfold Bj.Kl;rw[Bd (.inl h0)]
  rw[e1];have g0:(q.x.ph == 4)=true:=qsu h0;clear h0 e1 hE;go_in;go_wp2;go_ret;exact⟨Q,Tn.out _ (Ae _ _)⟩
 have g0:(q.x.ph == 4)=false:=qsu h0;by_cases h1:q.y.ph=4
 ·have e1:Bj.Kl q=13:=by unfold Bj.Kl;rw[Bd (.inr h1)]
  rw[e1];have g1:(q.y.ph == 4)=true:=qsu h1;clear h0 h1 e1 hE;go_in;go_wp2;go_ret;exact⟨Q,Tn.out _ (Ae _ _)⟩
 have g1:(q.y.ph == 4)=false:=qsu h1;have e1:Bj.Kl q=if 1000<max q.x.last q.y.last+1 then 12 else 0:=by unfold Bj.Kl;rw[AU (by rintro(e | e);exact h0 e;exact h1 e)]
 have hm:=Xg fun e=>hE (by rw[e1,AU e])
 rw[e1,Bd hm];clear h0 h1 e1 hE;go_in;go_upto_region 3 with fail;go_region;obtain⟨ses,Vl⟩:=Az (max q.x.last q.y.last+1);rw[Vl]at hm ⊢;clear Vl;have g3:decide (1000<ses)=true:=qsu hm;have bd:=(Ae w w).drew;clear hm;go_wp2;go_ret;exact⟨Q,Tn.out _ bd⟩
structure Iz(w y:V)(D G s a b c:Nat):Prop where
 bl:Ag w w y
 hD:↑w<=D
 hG:↑w<=G
 ne:D≠G
 dd:y.heap[D]?=I (N #[U AA s,Av true] 219 (0,0))
 gg:y.heap[G]?=I (N #[U AA a,U AA b,U AA c] 203 (0,0))
section
variable {w y:V} {D G s a b c:Nat}
def Iz.next(h:Iz w y D G s a b c)(s' n:Nat):Iz w ((Ai y ⟨D,0,Z⟩ (U AA s')).drewN n) D G s' a b c:=by
 have q:Iz w (Ai y ⟨D,0,Z⟩ (U AA s')) D G s' a b c:=⟨h.bl.setCell h.hD _,h.hD,h.hG,h.ne,CM y D 0 _ _ _ h.dd,(Jo y ⟨D,0,Z⟩ G _ (qsu h.ne.symm)).trans h.gg⟩
 exact⟨⟨q.bl.os,q.bl.tape,q.bl.output,q.bl.size,q.bl.block⟩,q.hD,q.hG,q.ne,q.dd,q.gg⟩
def Iz.c0(h:Iz w y D G s a b c)(x:Nat):Iz w (Ai y ⟨G,0,Z⟩ (U AA x)) D G s x b c:=
 ⟨h.bl.setCell h.hG _,h.hD,h.hG,h.ne,(Jo y ⟨G,0,Z⟩ D _ (qsu h.ne)).trans h.dd,CM y G 0 _ _ _ h.gg⟩
def Iz.c1(h:Iz w y D G s a b c)(x:Nat):Iz w (Ai y ⟨G,1,Z⟩ (U AA x)) D G s a x c:=
 ⟨h.bl.setCell h.hG _,h.hD,h.hG,h.ne,(Jo y ⟨G,1,Z⟩ D _ (qsu h.ne)).trans h.dd,CM y G 1 _ _ _ h.gg⟩
def Iz.c2(h:Iz w y D G s a b c)(x:Nat):Iz w (Ai y ⟨G,2,Z⟩ (U AA x)) D G s a b x:=
 ⟨h.bl.setCell h.hG _,h.hD,h.hG,h.ne,(Jo y ⟨G,2,Z⟩ D _ (qsu h.ne)).trans h.dd,CM y G 2 _ _ _ h.gg⟩
def Iz.draw(h:Iz w y D G s a b c){s' x:Nat}(h1:Bk s=s')(h2:C9 s=x):AL AE 84 #[AI (I ⟨D,0,Z⟩)] y fun e w'=>e=AN (U AA x)/\Iz w w' D G s' a b c:=by
 refine(YZ h1 h2 D y (AX y D 0 _ _ _ h.dd) (CJ y D 0 _ _ h.dd) (AX y D 1 _ _ _ h.dd)).mono ?_;rintro e w'⟨rfl,n,rfl⟩;exact⟨Q,h.next _ n⟩
end
def Ahv(x:Kw)(j:Nat)(v:An)(hv:x.s.o.cs[j]?=I v):j<18/\x.cs[1+j]?=I v:=by
 rcases j with _ | _ | _ | _ | _ | _ | _ | _ | _ | _ | _ | _ | _ | _ | _ | _ | _ | _ | j
 all_goals first | exact⟨AC,hv⟩ | (exact absurd ((Bm.1 hv).1) (by show¬j+18<18;omega))
def S13(X:Kw)(b G a0 a1 a2:Nat)(w:V):Prop:=(∀j,j<40->E w ⟨b,j,Z⟩=X.cs[j]?)/\w.heap[G]?=I (N #[U AA a0,U AA a1,U AA a2] 203 (0,0))
def Ahw{l:Nat}{ses:Int}{S:Nat}(h1:1<=ses/\ses<=1000)(hS:(l+ses.toNat)%18446744073709551616=S):IntKind.u64.wrap ses=(ses.toNat:Int)/\IntKind.u64.wrap ((l:Int)+(ses.toNat:Int))=(S:Int):=by
 constructor
 ·simp[IntKind.wrap,IntKind.bits,IntKind.signed];omega
 ·rw[<-hS];simp[IntKind.wrap,IntKind.bits,IntKind.signed]
def Ahx(h:CO τ w M v q)(fr:BU τ w)(hv:Gm v)(hk:Oh v st)(iv:Dv v q)(h0:q.x.ph≠4)(h1:q.y.ph≠4)(hm:q.CE<1000):
  AL AE 62 #[AI (I ⟨M.b,0,Z⟩)] w fun e w'=>e=AN (U O 0)/\Dh τ w M v (v.U5 q (q.CE+1)) w':=by
 have y37:E w ⟨M.b,37,Z⟩=I (AI (I ⟨M.b0,0,Z⟩)):=by rw[<-h.p0];exact h.row.c 37
 have Qm:E w ⟨M.b,38,Z⟩=I (AI (I ⟨M.b1,0,Z⟩)):=by rw[<-h.p1];exact h.row.c 38
 have y36:E w ⟨M.b,36,Z⟩=I (U AA v.light):=by rw[<-h.light];exact h.row.c 36
 have H8:E w ⟨M.b0,39,Z⟩=I (U O q.x.ph):=by rw[<-h.t0.num.ph];exact h.t0.row.c 39
 have IK:E w ⟨M.b1,39,Z⟩=I (U O q.y.ph):=by rw[<-h.t1.num.ph];exact h.t1.row.c 39
 have Kz:E w ⟨M.b0,38,Z⟩=I (U O q.x.last):=by rw[<-h.t0.num.last];exact h.t0.row.c 38
 have z38:E w ⟨M.b1,38,Z⟩=I (U O q.y.last):=by rw[<-h.t1.num.last];exact h.t1.row.c 38
 have l0:=iv.x.last;have l1:=iv.y.last;have g0:(q.x.ph == 4)=false:=qsu h0;have g1:(q.y.ph == 4)=false:=qsu h1;have eM:q.CE=max q.x.last q.y.last:=Q;rw[eM]at hm ⊢;have Hp:=F h;clear eM h0 h1;go_in;go_upto_region 3 with fail;go_region;obtain⟨ses,Vl⟩:=Az (max q.x.last q.y.last+1);have hs1:1<=ses/\ses<=1000:=J;have hsx:q.x.last<ses/\q.y.last<ses:=J;rw[Vl]at ⊢;have g3:decide (1000<ses)=false:=by simp;omega
 obtain⟨S,hS⟩:=Az ((v.light+ses.toNat)%18446744073709551616);obtain⟨u1,u2⟩:=Ahw hs1 hS;obtain⟨sn,NE⟩:=Az (ses.toNat);have esn:ses=(sn:Int):=J;rw[NE]at u1 u2;have Hs:=F hs1;have Hx:=F hsx;have HS:=F hS;have Hsn:=F NE;have Ahy:=F Vl;have Ahz:=F esn;clear hm Vl hs1 hsx hS NE l0 l1 esn;have c36:E w.drew ⟨M.b,36,Z⟩=I (U AA v.light):=y36;have bd:=(Ae w w).drew;have dsz:w.drew.heap.size=w.heap.size:=Q;obtain⟨w1,BJ⟩:=Az (w.drew);rw[BJ]at c36 bd dsz ⊢;clear BJ;obtain⟨S1,hS1⟩:=Az (Bk S);obtain⟨S2,PP⟩:=Az (Bk S1);obtain⟨S3,hS3⟩:=Az (Bk S2);obtain⟨Y0,TX⟩:=Az (C9 S);obtain⟨Y1,CT⟩:=Az (C9 S1);obtain⟨Y2,Et⟩:=Az (C9 S2);have T1:=F hS1;have T2:=F PP;have T3:=F hS3;have U0:=F TX;have U1:=F CT;have U2:=F Et;clear hS1 PP hS3 TX CT Et;have esn:=Ahz.out;subst esn;go_upto_region 7 with(go_at_call 83;refine Calls.on (FD:=#[U AA S]) Q ?_;refine(TJ S _).mono ?_;rintro e w2 ⟨rfl,rfl⟩)
 have K0:Iz w (Ao (Ao w1 (N #[U AA S,Av true] 219)) (N #[U AA ((0:Nat):Int),U AA ((0:Nat):Int),U AA ((0:Nat):Int)] 203)) w1 (Ao w1 (N #[U AA S,Av true] 219)) S 0 0 0:=by
  have b1:=AB (Ae w1 w1) (N #[U AA S,Av true] 219);have b2:=AB (Ae (Ao w1 (N #[U AA S,Av true] 219)) (Ao w1 (N #[U AA S,Av true] 219))) (N #[U AA ((0:Nat):Int),U AA ((0:Nat):Int),U AA ((0:Nat):Int)] 203);have e1:(Ao w1 (N #[U AA S,Av true] 219)).heap.size=w1.heap.size+1:=AO;exact⟨AH bd (AH b1 b2),J,J,J,(b2.block _ J).trans (CB _ _),CB _ _⟩
 have e1:(Ao w1 (N #[U AA S,Av true] 219)).heap.size=w1.heap.size+1:=AO;rw[e1,dsz]at K0;clear e1 c36;go_upto_region 8 with fail;obtain⟨w2,hw2⟩:=Az (Ao (Ao w1 (N #[U AA S,Av true] 219)) (N #[U AA ((0:Nat):Int),U AA ((0:Nat):Int),U AA ((0:Nat):Int)] 203));rw[hw2]at K0;change Code.wp _ _ _ _ (Ao (Ao w1 (N #[U AA S,Av true] 219)) (N #[U AA ((0:Nat):Int),U AA ((0:Nat):Int),U AA ((0:Nat):Int)] 203));rw[hw2];clear hw2 dsz;obtain⟨D,hD⟩:=Az (w.heap.size);have HD:=F hD;rw[hD];have K1:=K0;rw[hD]at K1;clear K0 hD;go_wp2_with fail;go_loopw [61] (fun i wr=>(i=U O 0/\Iz w wr D (D+1) S 0 0 0)\/(i=U O 1/\Iz w wr D (D+1) S1 Y0 0 0)\/(i=U O 2/\Iz w wr D (D+1) S2 Y0 Y1 0)\/(i=U O 3/\Iz w wr D (D+1) S3 Y0 Y1 Y2)) (fun i _=>3-(intOf i).toNat);exact .inl ⟨rfl,K1⟩
 clear K1;obtain⟨w3,rfl⟩:=qgn wr;rcases hrel with⟨rfl,K⟩ | ⟨rfl,K⟩ | ⟨rfl,K⟩ | ⟨rfl,K⟩
 ·have cN:=K.draw T1.out U0.out
  clear K;go_wp2_with fail;refine gqz cN fun w4 K=>?_;have k0:=AX _ _ 0 _ _ _ K.gg;have kf:=CJ _ _ 0 _ _ K.gg;have K4:=F (K.c0 Y0);clear K cN;go_wp2_with fail;exact⟨.inr (.inl ⟨rfl,K4.out⟩),by simp[intOf]⟩
 ·have cN:=K.draw T2.out U1.out
  clear K;go_wp2_with fail;refine gqz cN fun w4 K=>?_;have k0:=AX _ _ 1 _ _ _ K.gg;have kf:=CJ _ _ 1 _ _ K.gg;have K4:=F (K.c1 Y1);clear K cN;go_wp2_with fail;exact⟨.inr (.inr (.inl ⟨rfl,K4.out⟩)),by simp[intOf]⟩
 ·have cN:=K.draw T3.out U2.out
  clear K;go_wp2_with fail;refine gqz cN fun w4 K=>?_;have k0:=AX _ _ 2 _ _ _ K.gg;have kf:=CJ _ _ 2 _ _ K.gg;have K4:=F (K.c2 Y2);clear K cN;go_wp2_with fail;exact⟨.inr (.inr (.inr ⟨rfl,K4.out⟩)),by simp[intOf]⟩
 ·have P3:=Hp.out.on K.bl
  have Gz:=fr.on K.bl.size;have SA:S13 M.X M.b (D+1) Y0 Y1 Y2 w3:=⟨fun j _=>P3.row.c j,K.gg⟩
  have kO:=hk.s.eqs.1.trans hk.s0.eqs.1.symm
  have tX:Jh v.s.o=true:=by
   have h1:=(hv.s0.n.light).1;rw[kO];unfold FG at h1;split at h1
   ·assumption
   ·cases h1
  have hsl:=hv.s0.n.slots;have eN:v.s.slots=((v.s.slots.toNat:Nat):Int):=by have:=hk.s.eqs.2.1;have:=hk.s0.eqs.2.1;omega
  obtain⟨AP,hN⟩:=Az (v.s.slots.toNat);have hN4:AP<=4000:=by have:=hk.s.eqs.2.1;have:=hk.s0.eqs.2.1;omega
  rw[hN]at eN;obtain⟨Ar,cr,er,r1,r2,r3,rar,rtg⟩:=P3.rules;have tY:=qbw w3 fun w' hb=>AgC v.s.o Ar cr v.rules AP Y0 Y1 Y2 w' tX (rar.on hb) hv.rules.1 hv.rules.2.1 hv.rules.2.2 J
  have L35:∀w',S13 M.X M.b (D+1) Y0 Y1 Y2 w'->E w' ⟨M.b,35,Z⟩=I (R Ar (Y v.rules) cr):=fun w' hw=>by rw[hw.1 35 AC,<-er];rfl
  have L19:∀w',S13 M.X M.b (D+1) Y0 Y1 Y2 w'->E w' ⟨M.b,19,Z⟩=I (U O AP):=fun w' hw=>by rw[hw.1 19 AC,<-eN,<-P3.s];rfl
  have LO:∀w',S13 M.X M.b (D+1) Y0 Y1 Y2 w'->∀(j:Nat) (u:An),v.s.o.cs[j]?=I u->E w' ⟨M.b,1+j,Z⟩=I u:=fun w' hw j u hu=>by
   rw[<-P3.s]at hu;obtain⟨h1,h2⟩:=Ahv M.X j u hu;rw[hw.1 (1+j) J];exact h2
  have LG:∀w',S13 M.X M.b (D+1) Y0 Y1 Y2 w'->∀(j:Nat) (u:An),(#[U AA Y0,U AA Y1,U AA Y2]:Array An)[j]?=I u->E w' ⟨D+1,0+j,Z⟩=I u:=fun w' hw j u hu=>by
   rw[EE];exact(AX w' (D+1) j _ _ _ hw.2).trans hu
  have P3h:=F P3;have KN:=F (JQ hN eN);have Kb:=F K.bl;clear K er eN hN hN4 hsl rar rtg r1 r2 r3 kO tX P3;go_upto_region 13 with fail;refine Fz (S:=S13 M.X M.b (D+1) Y0 Y1 Y2) AG SA (fun hHeld=>?_);refine tQ4 0 ?_;refine tQ 4 ?_;refine G3 (i:=5) (v:= Ba v.s.o.cs) Q AG AG AG (fun _ _ _ h=>h) (MQ Q 54 _ (by rfl) M.b 1 (by rfl) v.s.o.cs _ (fun w hS j v hv=>LO w hS j v hv) underlying54 Q (qiz 54 18)) (by assumption) ?_;refine zp ?_;refine tQ4 6 ?_;refine tQ4 10 ?_;refine tQ 14 ?_;refine G3 (i:=15) (v:= Ba #[U AA Y0,U AA Y1,U AA Y2]) Q AG AG AG (fun _ _ _ h=>h) (MQ Q 203 _ (by rfl) (D+1) 0 (by rfl) #[U AA Y0,U AA Y1,U AA Y2] _ (fun w hS j v hv=>LG w hS j v hv) underlying203 Q (qiz 203 3)) (by assumption) ?_;refine zp ?_;refine url 16 (fun KU Bc=>?_);go_simp;refine(tY _ (Ae _ _).drew).mono ?_;rintro e w4⟨v1,v2,v3,rfl,o1,o2,o3,hb4⟩;have hb4:=AH (Ae w3 w3).drew hb4;have P4:=P3h.out.on hb4;have SB:S13 M.X M.b (D+1) Y0 Y1 Y2 w4:=⟨fun j hj=>P4.row.c j,(hb4.block _ (Bm.1 SA.2).1).trans SA.2⟩
  have JB:=Gz.on hb4.size;have g1:=Own.imm o1 AQ.BY (fun k hk=>Gz k hk);have g2:=Own.imm o2 Bf.BY (fun k hk=>Gz k hk);have g3:=Own.imm o3 CA.AgQ (fun k hk=>Gz k hk);refine Bc.out _ _ SB (fun _=>?_);refine zp ?_;refine tQ4 17 ?_;refine tQ 21 ?_;obtain⟨Fl,hFl⟩:∃g:Flt,g=v.FO (sn:Int):=⟨_,Q⟩
  have eFl:Fl=⟨(Fb v.s.o Y0 AP).1,(Eu v.s.o.eta v.s.o.dark (CQ v.rules (Fb v.s.o Y0 AP).1 Y1 AP).1 (Iw v.rules) Y2 AP).1,(CQ v.rules (Fb v.s.o Y0 AP).1 Y1 AP).2.2,Iw v.rules⟩:=by
   rw[hFl];have e1:v.sd (sn:Int)=S:=HS.out;unfold Bj.FO;simp only[e1,KN.out.1,T1.out,T2.out,U0.out,U1.out,U2.out]
  have im:XA τ w4 v1 v2 v3 Fl:=by rw[eFl];exact⟨g1,g2,g3⟩
  have esh:Iw v.rules=Fl.shift:=by rw[eFl]
  rw[esh];have HFl:=F hFl;have jo:Gu (w4.setRow M.b ({M.X with f0:=v1,f1:=v2,f2:=v3,shift:=Fl.shift}:Kw).cs) M.b {M.X with f0:=v1,f1:=v2,f2:=v3,shift:=Fl.shift}:=GS w4 M.b _ _ _ (0,0) P4.row;have hoN:AT (fun k=>k=M.b) w4 (w4.setRow M.b ({M.X with f0:=v1,f1:=v2,f2:=v3,shift:=Fl.shift}:Kw).cs):=AT.grown (Fw w4 M.b _) (fun g hg=>by cases hg;exact .inl Q);obtain⟨fN,PN⟩:=P4.Ag0 hoN jo im;have tZ:=g1.KY;have Wn:=g2.KY;have dp:=g3.KY
  have uc:(#[v1,v2,v3,Value.int .i64 Fl.shift]:Array An).all (·.oneCell')=true:=by
   have o4:(Value.int .i64 Fl.shift).oneCell'=true:=Q;simp only[List.all_toArray,List.all_cons,List.all_nil,tZ,Wn,dp,o4,Bool.and_self,Bool.and_true]
  refine url 22 (fun KU Bc=>?_);refine gG Q 84 _ _ Q M.b 40 #[v1,v2,v3,U O Fl.shift] (by rfl) (by rfl) 120 _ ({M.X with f0:=v1,f1:=v2,f2:=v3,shift:=Fl.shift}:Kw).cs P4.row (qiz 84 4) (Fg AG) uc AG ?_
  have SC:S13 M.X M.b (D+1) Y0 Y1 Y2 (w4.setRow M.b ({M.X with f0:=v1,f1:=v2,f2:=v3,shift:=Fl.shift}:Kw).cs):=⟨fun j hj=>by
   rw[jo.c j];rcases j with _ | _ | _ | _ | _ | _ | _ | _ | _ | _ | _ | _ | _ | _ | _ | _ | _ | _ | _ | _ | _ | _ | _ | _ | _ | _ | _ | _ | _ | _ | _ | _ | _ | _ | _ | _ | _ | _ | _ | _ | j
   all_goals first | rfl | omega,(hoN.row SB.2 (fun e=>by have h8:=(Bm.1 Hp.out.row).1;have h9:=HD.out;omega))⟩
  refine Bc.out _ _ SC (fun _=>?_);refine zp ?_;refine Ce ?_;clear L35 L19 LO LG tY SA SB SC jo hoN tZ Wn dp uc o1 o2 o3 g1 g2 g3 hFl eFl esh;have Is:=JB.on fN.out.size;have F5:=F ((EN.of (T:=M.T) (τ:=τ) (Kb.out)).trans ((EN.of (τ:=τ) hb4).trans (fN.t (.inl Q))));obtain⟨M5,hM5⟩:=Az (({M with X:={M.X with f0:=v1,f1:=v2,f2:=v3,shift:=Fl.shift}}:Dg));obtain⟨q5,hq5⟩:=Az (({q with fl:=Fl}:Bt));have px5:GO M M5:=by rw[<-hM5];exact⟨Q,Q,Q,Q⟩
  rw[hM5,hq5]at PN;obtain⟨w5,Ct⟩:=Az (w4.setRow M.b ({M.X with f0:=v1,f1:=v2,f2:=v3,shift:=Fl.shift}:Kw).cs);rw[Ct]at PN Is F5 fN ⊢;have eb:=px5.b;have cl5:E w5 ⟨M.b,41,Z⟩=I v2:=by rw[<-eb,PN.row.c 41,<-hM5];rfl
  have pl5:E w5 ⟨M.b,40,Z⟩=I v1:=by rw[<-eb,PN.row.c 40,<-hM5];rfl
  have Iu:=im.keep (fN.kp Hp.out.tags.k0);obtain⟨i1,b1,x1,n1,m1,s1⟩:=PN.side (side:=1) (.inr Q);have c38:E w5 ⟨M.b,38,Z⟩=I (AI (I ⟨b1,0,Z⟩)):=qrb eb s1.cell;have ez1:x1.s=v.s1/\x1.side=1:=⟨congrArg AV.s s1.z,congrArg AV.side s1.z⟩
  have cB1:=qbw w5 fun w' hb=>tP (s1.t.on hb) s1.i0 (Is.on hb.size) (by rw[ez1.1];exact hv.s1) (.inr ez1.2) (sn:Int) [] Fl.clicks (R Z 0 0) v2 Imm.nil (Iu.cl.keep (Kp.of hb)) AO (by
   have:=(Iu.cl);have h7:Y Fl.clicks=v.s.slots.toNat:=by rw[HFl.out];exact Za _ _ _ _ _ _
   have h8:=hv.s0.n.slots;have h9:=hk.s.eqs.2.1;have h10:=hk.s0.eqs.2.1;omega)
  have Hq5:=F hq5;clear Ct hM5 hq5;go_upto_region 14 with fail;refine Fz (S:=fun w'=>E w' ⟨M.b,38,Z⟩=I (AI (I ⟨b1,0,Z⟩))/\E w' ⟨M.b,41,Z⟩=I v2) AG ⟨c38,cl5⟩ (fun hHeld=>?_);refine tQ4 0 ?_;refine tQ4 4 ?_;refine tQ2 8 ?_;refine tQ 10 ?_;refine url 11 (fun KU Bc=>?_);go_simp;refine(cB1 _ (Ae _ _).drew).mono ?_;rintro e w6⟨x6,v6,rfl,f6,st6,O6,Fs⟩;have f6:=(Frm.of (τ:=τ) (i:=i1) (Ae w5 w5).drew).trans f6;obtain⟨M6,PN6,px6⟩:=s1.up _ _ _ _ f6 Fs st6
  have k38:E w6 ⟨M.b,38,Z⟩=I (AI (I ⟨b1,0,Z⟩))/\E w6 ⟨M.b,41,Z⟩=I v2:=by
   have e1:τ M.b≠i1:=fun e=>s1.ik (e.symm.trans (qrb eb PN.tb))
   exact⟨f6.out.cell c38 e1,f6.out.cell cl5 e1⟩
  refine Bc.out _ _ k38 (fun _=>?_);refine zp ?_;refine Ce ?_;have px7:=px5.trans px6
  have F7:EN M.T τ τ w w6:=by
   have h1:=f6.t s1.iT;rw[px5.T]at h1;exact F5.out.trans h1
  have F7h:=F F7;have fr7:=Is.on f6.out.size;have eA:q5.at 1=q.y:=by rw[<-Hq5.out];rfl
  have eZ:=s1.z;have im7:=Iu.keep (f6.kp s1.i0);obtain⟨Bp,hY⟩:=Az (((v.z 1).Em q.y (sn:Int) [] Fl.clicks).1);rw[eA,eZ,hY]at PN6;have HY:=F hY;have eb7:=px7.b;have pl7:=f6.out.cell pl5 (fun e=>s1.ik (e.symm.trans (qrb eb PN.tb)));obtain⟨i2,b2,x2,n2,m2,s2⟩:=PN6.side (side:=0) (.inl Q);have Ja:E w6 ⟨M.b,37,Z⟩=I (AI (I ⟨b2,0,Z⟩)):=qrb eb7 s2.cell;have ez2:x2.s=v.s0/\x2.side=0:=⟨congrArg AV.s s2.z,congrArg AV.side s2.z⟩
  have cB2:=qbw w6 fun w' hb=>tP (s2.t.on hb) s2.i0 (fr7.on hb.size) (by rw[ez2.1];exact hv.s0) (.inl ez2.2) (sn:Int) Fl.pulses [] v1 (R Z 0 0) (im7.pl.keep (Kp.of hb)) Imm.nil (by
   have h7:Y Fl.pulses=v.s.slots.toNat:=by rw[HFl.out];exact Z9 _ _ _
   have h8:=hv.s0.n.slots;have h9:=hk.s.eqs.2.1;have h10:=hk.s0.eqs.2.1;omega) AO
  clear cB1 F7 hY eA eZ k38 c38 cl5 pl5 st6 O6 Iu im7 f6 s1;go_upto_region 15 with fail;refine Fz (S:=fun w'=>E w' ⟨M.b,37,Z⟩=I (AI (I ⟨b2,0,Z⟩))/\E w' ⟨M.b,40,Z⟩=I v1) AG ⟨Ja,pl7⟩ (fun hHeld=>?_);refine tQ4 0 ?_;refine tQ4 4 ?_;refine tQ2 8 ?_;refine tQ 10 ?_;refine url 11 (fun KU Bc=>?_);go_simp;refine(cB2 _ (Ae _ _).drew).mono ?_;rintro e w8⟨x8,v8,rfl,f8,st8,O8,fx8⟩;have f8:=(Frm.of (τ:=τ) (i:=i2) (Ae w6 w6).drew).trans f8;obtain⟨M8,PN8,px8⟩:=s2.up _ _ _ _ f8 fx8 st8;have e8:τ M.b≠i2:=fun e=>s2.ik (e.symm.trans (qrb eb7 PN6.tb))
  refine Bc.out _ _ ⟨f8.out.cell Ja e8,f8.out.cell pl7 e8⟩ (fun _=>?_);refine zp ?_;refine tQ4 12 ?_;refine tQ 16 ?_;refine Ce ?_;have px9:=px7.trans px8
  have F9:EN M.T τ τ w w8:=by
   have h1:=f8.t s2.iT;rw[px7.T]at h1;exact F7h.out.trans h1
  have Ek:=fr7.on f8.out.size;have eA:(q5.put 1 Bp).at 0=q.x:=by rw[<-Hq5.out];rfl
  have eZ:=s2.z;obtain⟨Cr,hZ⟩:=Az ((v.z 0).Em q.x (sn:Int) Fl.pulses []);rw[eA,eZ,hZ]at PN8 O8;have HZ:=F hZ;have eW:((q5.put 1 Bp).put 0 Cr.1).way=q.way:=by rw[<-Hq5.out];rfl
  have cF:=jf PN8 Ek 1 v8 _ O8 (qrf eW iv.len);rw[px9.b,eW]at cF
  have Fin:=F (fun(w':V) (pe:Dh τ w8 M8 v {(q5.put 1 Bp).put 0 Cr.1 with way:=I2 1 q.way Cr.2.1} w')=>(show Dh τ w M v (v.U5 q (max q.x.last q.y.last+1)) w' by
   have e1:v.U5 q (max q.x.last q.y.last+1)={(q5.put 1 Bp).put 0 Cr.1 with way:=I2 1 q.way Cr.2.1}:=by
    rw[Ahy.out];unfold Bj.U5;simp only;rw[<-HFl.out,HY.out,HZ.out,<-Hq5.out]
    rfl
   rw[e1];exact Dh.of F9 px9 pe))
  clear cB2 f8 st8 O8 hZ eA eZ e8 Ja pl7 s2;go_wp2_with fail;refine gqz cF fun Bs pe=>?_;have Pe:=F pe;clear pe;go_wp2;go_ret;exact⟨Q,Fin.out _ Pe.out⟩
theorem AhA(h:CO τ w M v q)(fr:BU τ w)(hv:Gm v)(hk:Oh v st)(iv:Dv v q):
  AL AE 62 #[AI (I ⟨M.b,0,Z⟩)] w fun e w'=>e=AN (U O (v.MW q).2)/\Dh τ w M v (v.MW q).1 w':=by
 by_cases hE:Bj.Kl q=0
 ·have h0:q.x.ph≠4:=fun e=>by grind [BU,Bj.Kl]
  have h1:q.y.ph≠4:=fun e=>by grind [BU,Bj.Kl]
  have hm:q.CE<1000:=by
   grind [Bt.CE,BU,Bj.Kl]
  have e1:v.MW q=(v.U5 q (q.CE+1),0):=by unfold Bj.MW;rw[Bd hE];rfl
  rw[e1];exact Ahx h fr hv hk iv h0 h1 hm
 grind [Bj.MW,Dh,BU,Bj.Kl,Ahu]
end
section
variable{M:Dg}{q:Bt}{v:Bj}{w:V}{τ:Nat->Nat}
def DoR(τ:Nat->Nat)(w:V)(M:Dg)(v:Bj)(r:Bt × Int)(e:Ending)(w':V):Prop:=e=AN (U O r.2)/\Dh τ w M v r.1 w'
def Dh.over{w1 w':V}(hb:Ag w w w1)(h:Dh τ w1 M v q w'):Dh τ w M v q w':=Dh.of (EN.of hb) (GO.refl M) h
def AhB(h:CO τ w M v q)(fr:BU τ w)(hv:Gm v){st:BX}(hk:Oh v st)(iv:Dv v q)(k a c:Int)(hh:(k<1\/8<k)\/k=1\/6<=k\/a<0\/Y q.way<=a):
  AL AE 15 #[AI (I ⟨M.b,0,Z⟩),Ba #[U O k,U O a,U O c]] w (DoR τ w M v (v.CI q ⟨k,a,c⟩)):=by
 have q0:=AB (Ae w w) (N #[U O k,U O a,U O c] 29);have cV:=Zc (h.on q0);have cS:=AhA (h.on q0) (fr.on q0.size) hv hk iv;have cT:=Ahe (h.on q0) (fr.on q0.size) hv iv k a c;have Tn:=F (qbw w fun w' hb=>Dh.stay h fr hb);by_cases h1:k<1\/8<k
 ·have e1:v.CI q ⟨k,a,c⟩=(q,2):=by unfold Bj.CI;rw[Bd h1]
  rw[e1];rcases h1 with h1 | h1
  focus
   have g1:decide (k<1)=true:=qsu h1
  rotate_left
  focus
   have g1:decide (k<1)=false:=by simp;omega
   have g2:decide (8<k)=true:=qsu h1
  rotate_left
  all_goals
   clear h1 e1 hh cS cT;go_enter Tryz.func15,Tryz.ntmps15;go_wp2_with(go_at_call 56;refine mqv (cV) ?_);go_ret;exact⟨Q,Tn.out _ q0⟩
 have g1:decide (k<1)=false:=by simp;omega
 have g2:decide (8<k)=false:=by simp;omega
 by_cases h2:k=1
 ·have e1:v.CI q ⟨k,a,c⟩=v.MW q:=by unfold Bj.CI;rw[AU h1,Bd h2]
  rw[e1];subst h2;clear h1 e1 hh cT g1 g2;go_enter Tryz.func15,Tryz.ntmps15;go_wp2_with(go_at_call 56;refine mqv (cV) ?_);refine gqz cS fun w' pe=>?_;have Pe:=F (Dh.over q0 pe);clear pe;go_wp2;go_ret;exact⟨Q,Pe.out⟩
 have g3:(k == 1)=false:=qsu h2;by_cases h3:6<=k
 ·have e1:v.CI q ⟨k,a,c⟩=v.IZ q ⟨k,a,c⟩:=by unfold Bj.CI;rw[AU h1,AU h2,Bd h3]
  rw[e1];have g4:decide (6<=k)=true:=qsu h3;have e0:E (Ao w (N #[U O k,U O a,U O c] 29)) ⟨w,0,Z⟩=I (U O k):=Cb Q;clear h1 h2 h3 e1 hh cS;go_enter Tryz.func15,Tryz.ntmps15;go_wp2_with(go_at_call 56;refine mqv (cV) ?_);refine gqz cT fun w' pe=>?_;have Pe:=F (Dh.over q0 pe);clear pe;go_wp2;go_ret;exact⟨Q,Pe.out⟩
 have g4:decide (6<=k)=false:=by simp;omega
 have hn:a<0\/Y q.way<=a:=by
  rcases hh with h | h | h | h
  ·exact absurd h h1
  ·exact absurd h h2
  ·exact absurd h h3
  ·exact h
 obtain⟨fv,f1,f2,_,_⟩:=h.way;obtain⟨A,cw,ew,_,_,_,_⟩:=f2.form BW.BY;have Cm:Y fv=Y q.way:=by rw[<-f1,Dz]
 have Nz:E w ⟨M.b,39,Z⟩=I (R A (Y fv) cw):=qrb ew (h.row.c 39);have IK:=AK q0 Nz
 have e1:v.CI q ⟨k,a,c⟩=(q,3):=by
  unfold Bj.CI;rw[AU h1,AU h2,AU h3];split
  ·rfl
  ·rename_i h5
   have:q.way[a.toNat]?=Z:=QO (by simp only at h5;omega);rw[this]
 rw[e1];have bd:=q0.drew;by_cases ha:a<0
 focus
  have g5:decide (a<0)=true:=qsu ha
 rotate_left
 focus
  have g5:decide (a<0)=false:=by simp;omega
  have g6:decide ((Y fv:Int)<=a)=true:=by simp;omega
 rotate_left
 all_goals
  clear h1 h2 h3 e1 hh cS cT hn ha f1 f2 ew Cm;go_enter Tryz.func15,Tryz.ntmps15;go_upto_region 9 with(go_at_call 56;refine mqv (cV) ?_)
  go_region;go_wp2;go_ret;exact⟨Q,Tn.out _ bd⟩
end
end Go.Proofs.YtjpidgffdkjjeaaGreat
