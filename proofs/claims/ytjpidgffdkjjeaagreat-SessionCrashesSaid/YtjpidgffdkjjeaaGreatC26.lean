/- Contracts and plain laws. No condition. -/
import Derived.Defers
import Derived.Recover
import Derived.Test.YtjpidgffdkjjeaaGreatCA
import Derived.Test.YtjpidgffdkjjeaaGreatC21
set_option linter.all false
set_option maxHeartbeats 16000000
namespace Go.Proofs.YtjpidgffdkjjeaaGreat
open Go.Proofs.Tryz
open Go.Proofs.Tryz renaming prog->AE
open List renaming length->Y
open Go.World renaming cell?->E,setCell->Ai,alloc->Ao,frozen?->Bo
open Go.Value renaming int->U,slice->R,pointer->AI,agg->Ba,tuple->Be,nilFunc->Bl,bool->Av
open Go.IntKind renaming i64->O,u64->AA,u32->BF,u8->Cd
open Option renaming none->Z,some->I
open Go.Ending renaming returned->AN
open Go.Obj renaming cells->N
open Go renaming World->V,Value->An,Calls->AL,Addr->AS
open Go.RowKit renaming Below->Ag,Hid->Aj
set_option maxRecDepth 100000
open Go.RowKit Go.Maps
section
variable {τ:Nat→Nat} {w:V} {i b W nb mb:Nat} {x:BR} {bits:List Bool} {a:Bb}
def Ze(x:BR)(ses:Int)(cv wv:An):BR:={x with last:=ses,k:={Jn with phase:=1,clicks:=cv,wait:=wv}}
def Bx.tO(h:Bx τ w i b x W nb mb bits a)(hi:i≠0)(p:Int):Bx τ (Ai w ⟨b,38,Z⟩ (U O p)) i b {x with last:=p} W nb mb bits {a with last:=p}:=
 h.cell hi 38 _ Q Q Q Q ⟨rfl,h.num.ph,h.num.rs,h.num.wt,h.num.sh,h.num.n,h.num.t,h.num.has⟩ ⟨h.li.pulses,h.li.clicks,h.li.wait,h.li.sent,h.li.took,h.li.ledger,h.li.kept,h.li.slots,h.li.decoys,h.li.block⟩ Q Q Q Q
def Sn(τ:Nat->Nat)(w:V)(i b W nb mb:Nat)(bits:List Bool)(x:BR)(r:Bb × List Lt × Int)(e:Ending)(w':V):Prop:=
 ∃x' v',e=AN (Be #[v',U O r.2.2])/\Frm τ τ w w' i/\Bx τ w' i b x' W nb mb bits r.1/\Ju τ w' v' r.2.1/\Fix x x'
def Sn.no(h:Bx τ w i b x W nb mb bits a){w':V}(hb:Ag w w w')(n:Int):Sn τ w i b W nb mb bits x (a,[],n) (AN (Be #[R Z 0 0,U O n])) w':=
 ⟨x,_,rfl,Frm.of hb,h.on hb,.inl ⟨rfl,rfl⟩,⟨rfl,rfl,rfl⟩⟩
theorem Ahl(h:Bx τ w i b x W nb mb bits a)(Gk:x.side=0\/x.side=1)(ses:Int)(A C:Option AS)(cA cC:Nat)(p:List AQ)(c:List Bf)(hA:Arr 5 AQ.enc w w A p)(hC:Arr 2 Bf.enc w w C c)(hpl:Y p<=1000000)(DG:Y c<=1000000)
  (hb:a.ph=4\/¬(1<=ses/\ses<=1000)\/ses<=a.last\/(x.z W bits).LI p c=true):
  AL AE 61 #[AI (I ⟨b,0,Z⟩),U O ses,R A (Y p) cA,R C (Y c) cC] w (Sn τ w i b W nb mb bits x ((x.z W bits).Em a ses p c)):=by
 have cV:=Qk b x w h.row;have H8:E w ⟨b,39,Z⟩=I (U O a.ph):=by rw[<-h.num.ph];exact h.row.c 39
 have Kz:E w ⟨b,38,Z⟩=I (U O a.last):=by rw[<-h.num.last];exact h.row.c 38
 have Mb:E w ⟨b,19,Z⟩=I (U O x.s.slots):=h.row.c 19;by_cases h4:a.ph=4
 ·have g2:(a.ph == 4)=true:=by simp[h4]
  rw[show(x.z W bits).Em a ses p c=(a,[],13)by unfold AV.Em;rw[Bd h4]];go_enter Tryz.func61,Tryz.ntmps61;go_wp2_with(go_at_call 70;refine mqv (cV) ?_);go_ret2;exact Sn.no h (Ae _ _) 13
 have e1:(a.ph == 4)=false:=by simp[h4]
 by_cases hs:1<=ses/\ses<=1000
 case neg=>
  have e2:AR ses 1 1000=false:=by simp[AR];omega
  rw[show(x.z W bits).Em a ses p c=(a,[],3)by unfold AV.Em;rw[AU h4,Bd hs]];go_enter Tryz.func61,Tryz.ntmps61;go_wp2_with(first | (go_at_call 70;refine mqv (cV) ?_) | (go_at_call 116;refine mqv (FH _ _ _ _) ?_;rw[e2]));go_ret2;exact Sn.no h (Ae _ _) 3
 have e2:AR ses 1 1000=true:=by simp[AR];omega
 by_cases hl:ses<=a.last
 ·have e3:=Er hl
  rw[show(x.z W bits).Em a ses p c=(a,[],16)by unfold AV.Em;rw[AU h4,AU (not_not_intro hs),Bd hl]];go_enter Tryz.func61,Tryz.ntmps61;go_wp2_with(first | (go_at_call 70;refine mqv (cV) ?_) | (go_at_call 116;refine mqv (FH _ _ _ _) ?_;rw[e2]));go_ret2;exact Sn.no h (Ae _ _) 16
 have e3:=Ds hl
 have Kh:(x.z W bits).LI p c=true:=by
  rcases hb with hb | hb | hb | hb
  ·exact absurd hb h4
  ·exact absurd hs hb
  ·exact absurd hb hl
  ·exact hb
 rw[show(x.z W bits).Em a ses p c=(a,[],2)by unfold AV.Em;rw[AU h4,AU (not_not_intro hs),AU hl,Bd Kh]];clear hb;unfold AV.LI BR.z at Kh;simp only at Kh;rcases Gk with Gk | Gk
 focus
  have Qi:E w ⟨b,35,Z⟩=I (U O 0):=qrb Gk (h.row.c 35)
  have cS:=fD A cA p x.s.slots w hA J;rw[Bd Gk]at Kh;rw[show(((Y p:Int) == x.s.slots)&&(Bz AQ.ok p == 0))=false by simp at Kh ⊢;intro t1 t2;rcases Kh with t | t;exact t t1;exact t t2]at cS
 rotate_left
 focus
  have Qi:E w ⟨b,35,Z⟩=I (U O 1):=qrb Gk (h.row.c 35)
  have cS:=tN C cC c x.s.slots w hC J;rw[AU (by rw[Gk];decide)]at Kh;rw[show(((Y c:Int) == x.s.slots)&&(Bz Bf.ok c == 0))=false by simp at Kh ⊢;intro t1 t2;rcases Kh with t | t;exact t t1;exact t t2]at cS
 rotate_left
 all_goals
  clear hs hl h4 Kh;go_enter Tryz.func61,Tryz.ntmps61;go_wp2_with(first | (go_at_call 70;refine mqv (cV) ?_) | (go_at_call 116;refine mqv (FH _ _ _ _) ?_;rw[e2]));refine gqz cS fun w2 hb2=>?_;go_wp2;go_ret2;exact Sn.no h hb2 2
theorem Ahm(h:Bx τ w i b x W nb mb bits a)(hi:i≠0)(fr:BU τ w)(Gk:x.side=1)(ses:Int)(A C:Option AS)(cA cC:Nat)(p:List AQ)(c:List Bf)(hC:Arr 2 Bf.enc w w C c)(DG:Y c<=1000000)(hcc:Y c<=cC)(hcn:C=Z->cC=0)(hct:∀y,C=I y->τ y.block=0)
  (h4:a.ph≠4) (hs:1<=ses/\ses<=1000) (hl:¬ses<=a.last) (BI:(x.z W bits).LI p c=false):
  AL AE 61 #[AI (I ⟨b,0,Z⟩),U O ses,R A (Y p) cA,R C (Y c) cC] w (Sn τ w i b W nb mb bits x ((x.z W bits).Em a ses p c)):=by
 rw[show(x.z W bits).Em a ses p c=(a.JD ses [] c 1,[],0)by unfold AV.Em;rw[AU h4,AU (not_not_intro hs),AU hl,AU (by rw[BI];decide),Bd (show(x.z W bits).side=1 from Gk)]];have cV:=Qk b x w h.row;have H8:E w ⟨b,39,Z⟩=I (U O a.ph):=by rw[<-h.num.ph];exact h.row.c 39
 have Kz:E w ⟨b,38,Z⟩=I (U O a.last):=by rw[<-h.num.last];exact h.row.c 38
 have Qi:E w ⟨b,35,Z⟩=I (U O 1):=qrb Gk (h.row.c 35);have Mb:E w ⟨b,19,Z⟩=I (U O x.s.slots):=h.row.c 19;have e1:(a.ph == 4)=false:=by simp[h4]
 have e2:AR ses 1 1000=true:=by simp[AR];omega
 have e3:=Ds hl;unfold AV.LI BR.z at BI;simp only at BI;rw[AU (by rw[Gk];decide)]at BI;have cS:=tN C cC c x.s.slots w hC J;rw[show(((Y c:Int) == x.s.slots)&&(Bz Bf.ok c == 0))=true by simpa using BI]at cS;clear hs hl h4 BI;go_enter Tryz.func61,Tryz.ntmps61;go_wp2_with(first | (go_at_call 70;refine mqv (cV) ?_) | (go_at_call 116;refine mqv (FH _ _ _ _) ?_;rw[e2]));refine gqz cS fun w2 hb2=>?_;have h2:=h.on hb2;have Ry:=AK hb2 Qi;have Qm:E w2 ⟨b,38,Z⟩=I (U O x.last):=h2.row.c 38;have f38:=h2.row.fr 38;clear H8 Kz Qi Mb e1 e2 e3 cV cS;go_upto_region 13 with fail;have h3:=h2.tO hi ses;have f3:Frm τ τ w (Ai w2 ⟨b,38,Z⟩ (U O ses)) i:=(Frm.of hb2).trans (Frm.Ik (AT.set (S:=fun k=>k=b) Q) (fun k _ e=>by rw[e];exact h.tb));obtain⟨w3,hw3⟩:=Az (Ai w2 ⟨b,38,Z⟩ (U O ses));rw[hw3]at h3 f3 ⊢;clear hw3 Ry Qm f38;have Ry:E w3 ⟨b,35,Z⟩=I (U O 1):=qrb Gk (h3.row.c 35);have hC3:=f3.out.arr hC (fun y hy e=>hi (e.symm.trans (hct y hy)));have cC:=zE C cC c w3 hC3 hcn hcc J;go_wp2_with fail;refine cC.mono ?_;rintro e w4⟨v,rfl,ow,hb4⟩;obtain⟨A4,c4,rfl,l4,m4,n4,Qn⟩:=ow.form Bf.BY;have JB:=fr.on (Br f3.out.size hb4.size);have LH:=ow.imm Bf.BY (fun k hk=>fr k (Br f3.out.size hk));have b5:=AB (Ae w4 w4) (N #[U O 1] 3);have h5:=(h3.on hb4).on b5;have Jb:=h5.row;have Iu:=LH.keep (Kp.of b5);have wt5:=Imm.one JB 1 3;clear Ry cC;go_wp2_with(first | (refine Qc Q 140 _ Q #[(0,U O 1),(3,R A4 (Y c) c4),(4,R (I ⟨w4,0,Z⟩) 1 1)] AG ({Jn with phase:=1,clicks:= R A4 (Y c) c4,wait:= R (I ⟨w4,0,Z⟩) 1 1}:ON).cs AG ?_) | (refine UF Q 140 _ _ Q b 39 ({Jn with phase:=1,clicks:= R A4 (Y c) c4,wait:= R (I ⟨w4,0,Z⟩) 1 1}:ON).cs AG AG 142 _ (Ze x ses (R A4 (Y c) c4) (R (I ⟨w4,0,Z⟩) 1 1)).cs Jb (qiz 140 18) (Fg AG) AG AG ?_));go_ret2;have ho:AT (fun k=>k=b) (Ao w4 (N #[U O 1] 3)) ((Ao w4 (N #[U O 1] 3)).setRow b (Ze x ses (R A4 (Y c) c4) (R (I ⟨w4,0,Z⟩) 1 1)).cs):=AT.grown (Fw _ b _) (fun g hg=>by cases hg;exact .inl Q);have XH:Cu ((Ao w4 (N #[U O 1] 3)).setRow b (Ze x ses (R A4 (Y c) c4) (R (I ⟨w4,0,Z⟩) 1 1)).cs) b (Ze x ses (R A4 (Y c) c4) (R (I ⟨w4,0,Z⟩) 1 1)):=GS _ b _ _ _ (0,0) Jb;exact⟨Ze x ses (R A4 (Y c) c4) (R (I ⟨w4,0,Z⟩) 1 1),_,Q,f3.trans ((Frm.of hb4).trans ((Frm.of b5).trans (Frm.Ik ho (fun k _ e=>by rw[e];exact h.tb)))),h5.store hi ho XH Q Q Q ⟨rfl,rfl,rfl,rfl,rfl,rfl,rfl,rfl⟩ ⟨Imm.nil,Iu,wt5,.inl ⟨rfl,rfl⟩,.inl ⟨rfl,rfl⟩,Imm.nil,Imm.nil,Imm.nil,SV.nil,Imm.nil⟩ (.inl ⟨rfl,rfl⟩) Q Q,.inl ⟨rfl,rfl⟩,⟨Q,Q,Q⟩⟩
end
section
variable {τ:Nat→Nat} {w:V} {i b W nb mb:Nat} {x:BR} {bits:List Bool} {a:Bb}
theorem Ahn(h:Bx τ w i b x W nb mb bits a)(hi:i≠0)(fr:BU τ w)(ok:Gi x.s W)(Gk:x.side=0)(ses:Int)(A C:Option AS)(cA cC:Nat)(p:List AQ)(c:List Bf)(hA:Arr 5 AQ.enc w w A p)(hpl:Y p<=1000000)(hpc:Y p<=cA)(hpn:A=Z->cA=0)(hpt:∀y,A=I y->τ y.block=0)
  (h4:a.ph≠4) (hs:1<=ses/\ses<=1000) (hl:¬ses<=a.last) (BI:(x.z W bits).LI p c=false):
  AL AE 61 #[AI (I ⟨b,0,Z⟩),U O ses,R A (Y p) cA,R C (Y c) cC] w (Sn τ w i b W nb mb bits x ((x.z W bits).Em a ses p c)):=by
 have EP:(x.z W bits).Em a ses p c=(((a.JD ses p [] 2).send x.side W bits 1 ((p.take x.s.head.toNat).map CY)).1,((a.JD ses p [] 2).send x.side W bits 1 ((p.take x.s.head.toNat).map CY)).2,0):=by
  unfold AV.Em;rw[AU h4,AU (not_not_intro hs),AU hl,AU (by rw[BI];decide),AU (show¬(x.z W bits).side=1 by rw[show(x.z W bits).side=0 from Gk];decide)];rfl
 rw[EP];clear EP;have cV:=Qk b x w h.row;have H8:E w ⟨b,39,Z⟩=I (U O a.ph):=by rw[<-h.num.ph];exact h.row.c 39
 have Kz:E w ⟨b,38,Z⟩=I (U O a.last):=by rw[<-h.num.last];exact h.row.c 38
 have Qi:E w ⟨b,35,Z⟩=I (U O 0):=qrb Gk (h.row.c 35);have Mb:E w ⟨b,19,Z⟩=I (U O x.s.slots):=h.row.c 19;have e1:(a.ph == 4)=false:=by simp[h4]
 have e2:AR ses 1 1000=true:=by simp[AR];omega
 have e3:=Ds hl;have Yz:=ok.n.head;unfold AV.LI BR.z at BI;simp only at BI;rw[Bd Gk]at BI;have Wl:(Y p:Int)=x.s.slots/\Bz AQ.ok p=0:=qsu BI;have hlen:=(Lb.1 Wl.2).1;have hall:=F (Lb.1 Wl.2).2;have hsl:=Wl.1.symm;have cS:=fD A cA p x.s.slots w hA J;rw[show(((Y p:Int) == x.s.slots)&&(Bz AQ.ok p == 0))=true by simpa using BI]at cS;have HS:=F hs;have HD:=F Yz;have HL:=F hsl;clear hl h4 BI Wl hs Yz hsl hpl;go_enter Tryz.func61,Tryz.ntmps61;go_wp2_with(first | (go_at_call 70;refine mqv (cV) ?_) | (go_at_call 116;refine mqv (FH _ _ _ _) ?_;rw[e2]));refine gqz cS fun w2 hb2=>?_;have h2:=h.on hb2;have Ry:=AK hb2 Qi;have Qm:E w2 ⟨b,38,Z⟩=I (U O x.last):=h2.row.c 38;have f38:=h2.row.fr 38;clear H8 Kz Qi Mb e1 e2 e3 cV cS;go_upto_region 13 with fail;have h3:=h2.tO hi ses;have f3:Frm τ τ w (Ai w2 ⟨b,38,Z⟩ (U O ses)) i:=(Frm.of hb2).trans (Frm.Ik (AT.set (S:=fun k=>k=b) Q) (fun k _ e=>by rw[e];exact h.tb));obtain⟨w3,hw3⟩:=Az (Ai w2 ⟨b,38,Z⟩ (U O ses));rw[hw3]at h3 f3 ⊢;clear hw3 Ry Qm f38;have Ry:E w3 ⟨b,35,Z⟩=I (U O 0):=qrb Gk (h3.row.c 35);have Ff:=f3.out.arr hA (fun y hy e=>hi (e.symm.trans (hpt y hy)));have cC:=mI A cA p w3 Ff hpn hpc J;go_wp2_with fail;refine cC.mono ?_;rintro e w4⟨v,rfl,ow,hb4⟩;obtain⟨A4,c4,rfl,l4,m4,n4,Qn⟩:=ow.form AQ.BY;have JB:=fr.on (Br f3.out.size hb4.size);have LH:=ow.imm AQ.BY (fun k hk=>fr k (Br f3.out.size hk));have b5:=AB (Ae w4 w4) (N #[U O 2] 3);have h5:=(h3.on hb4).on b5;have Jb:=h5.row;have Iu:=LH.keep (Kp.of b5);have wt5:=Imm.one JB 2 3;clear Ry cC;go_upto_region 17 with(first | (refine Qc rfl 140 _ rfl #[(0,U O 1),(2,R A4 (Y p) c4),(4,R (I ⟨w4,0,Z⟩) 1 1)] AG ({Jn with phase:=1,pulses:= R A4 (Y p) c4,wait:= R (I ⟨w4,0,Z⟩) 1 1}:ON).cs AG ?_) | (refine UF Q 140 _ _ Q b 39 ({Jn with phase:=1,pulses:= R A4 (Y p) c4,wait:= R (I ⟨w4,0,Z⟩) 1 1}:ON).cs AG AG 142 _ (JX x ses (R A4 (Y p) c4) (R (I ⟨w4,0,Z⟩) 1 1)).cs Jb (qiz 140 18) (Fg AG) AG AG ?_))
 have ho:AT (fun k=>k=b) (Ao w4 (N #[U O 2] 3)) ((Ao w4 (N #[U O 2] 3)).setRow b (JX x ses (R A4 (Y p) c4) (R (I ⟨w4,0,Z⟩) 1 1)).cs):=AT.grown (Fw _ b _) (fun g hg=>by cases hg;exact .inl Q);have XH:Cu ((Ao w4 (N #[U O 2] 3)).setRow b (JX x ses (R A4 (Y p) c4) (R (I ⟨w4,0,Z⟩) 1 1)).cs) b (JX x ses (R A4 (Y p) c4) (R (I ⟨w4,0,Z⟩) 1 1)):=GS _ b _ _ _ (0,0) Jb;have h6:Bx τ _ i b (JX x ses (R A4 (Y p) c4) (R (I ⟨w4,0,Z⟩) 1 1)) W nb mb bits (a.JD ses p [] 2):=h5.store hi ho XH Q Q Q ⟨rfl,rfl,rfl,rfl,rfl,rfl,rfl,rfl⟩ ⟨Iu,Imm.nil,wt5,.inl ⟨rfl,rfl⟩,.inl ⟨rfl,rfl⟩,Imm.nil,Imm.nil,Imm.nil,SV.nil,Imm.nil⟩ (.inl ⟨rfl,rfl⟩) Q Q;have f6:=f3.trans ((Frm.of hb4).trans ((Frm.of b5).trans (Frm.Ik ho (fun k _ e=>by rw[e];exact h.tb))));obtain⟨x6,Mo⟩:=Az (JX x ses (R A4 (Y p) c4) (R (I ⟨w4,0,Z⟩) 1 1));have Fs:Fix x x6:=by rw[<-Mo];exact⟨Q,Q,Q⟩
 have p6:x6.k.pulses=R A4 (Y p) c4:=by rw[<-Mo];rfl
 obtain⟨w6,Ge⟩:=Az ((Ao w4 (N #[U O 2] 3)).setRow b (JX x ses (R A4 (Y p) c4) (R (I ⟨w4,0,Z⟩) 1 1)).cs);rw[Ge]at h6 f6 ⊢;rw[Mo]at h6;clear Ge ho XH Jb h5 Iu LH wt5 h3 h2 Ff
 have Jq:Arr 5 AQ.enc w6 w6 A4 p:=by
  have im6:=h6.li.pulses;rw[p6]at im6;obtain⟨A',c',heq,_,_,_,Jq,_⟩:=im6;cases heq;exact Jq
 obtain⟨H,hH⟩:=DV HD.out.1;have hHl:H<=Y p:=by have:=HD.out.2;rw[hH,HL.out]at this;omega
 have Jr:E w6 ⟨b,20,Z⟩=I (U O H):=by rw[<-hH,<-Fs.s];exact h6.row.c 20
 have HH:=F hH;clear hH;have OT:E w6 ⟨b,41,Z⟩=I (R A4 (Y p) c4):=qrb p6 (h6.row.c 41);go_upto_region 18 with fail;go_region;have f7:=f6.trans (Frm.of (Ae w6 w6).drew);have h7:=h6.on (Ae w6 w6).drew;have ND:=Jq.on (Ae w6 w6).drew;obtain⟨w7,Ig⟩:=Az (w6.drew);rw[Ig]at f7 h7 ND ⊢;clear Ig f6 h6 Jq Jr OT f3;go_upto_region 19 with fail;go_loopw [10,104] (fun ov iv wr=>∃k:Nat,k<=H/\iv=U O k/\Own wr w7 3 1 BD ov ((p.take k).map CY)/\Ag w7 w7 wr) (fun _ iv _=>H-(intOf iv).toNat);exact⟨0,J,rfl,Own.nil,Ae _ _⟩
 obtain⟨k,hk,rfl,oj,Co⟩:=hrel;obtain⟨w8,rfl⟩:=qgn wr;by_cases hlt:k<H
 ·have Qp:k<Y p:=J
  obtain⟨bk,off,pb,BK,pc,Cf,ps,rfl,BN,hp,c0,c1,c2,c3,c4⟩:=ND.pls Qp Co;have okp:=EA.1 hall.out _ (DI hp.out);have hpb:pb=0\/pb=1:=by simp[AQ.ok,AR]at okp;omega
  have hst:Aj ((p.take (k+1)).map CY=(p.take k).map CY++ [CY ⟨pb,BK,pc,Cf,ps⟩]):=F (by rw[GU,hp.out];simp);have Cm:(((p.take k).map CY).length+1)*8<=140737488355328:=by rw[Dz,DC];omega
  have FE:∀n:Int,∀u∈BD n,u.oneCell'=true:=fun n u hu=>by
   simp[BD]at hu;subst hu;rfl
  have Js:=oj.alloc (N #[U O pb,Av BK,U O pc,U O Cf,Av ps] 154);have q8:=AB Co (N #[U O pb,Av BK,U O pc,U O Cf,Av ps] 154);have KB:=q8.size;clear h7 oj okp hp;generalize(p.take k).map CY=L at*;rcases hpb with rfl | rfl
  ·cases BK
   ·cases ps
    ·have CW:Aj ((p.take (k+1)).map CY=L++ [(4:Int)]):=F (by rw[hst.out];rfl)
     go_wp2_with(at_builtin;refine Ef underlying37 Gr L (4:Int) Js (FE _) Cm KB ?_;intro v9 w9 CD BC);exact⟨⟨k+1,J,qgm,qrf CW.out CD,q8.trans BC⟩,qio⟩
    ·have CW:Aj ((p.take (k+1)).map CY=L++ [(0:Int)]):=F (by rw[hst.out];rfl)
     go_wp2_with(at_builtin;refine Ef underlying37 Gr L (0:Int) Js (FE _) Cm KB ?_;intro v9 w9 CD BC);exact⟨⟨k+1,J,qgm,qrf CW.out CD,q8.trans BC⟩,qio⟩
   ·cases ps
    ·have CW:Aj ((p.take (k+1)).map CY=L++ [(5:Int)]):=F (by rw[hst.out];rfl)
     go_wp2_with(at_builtin;refine Ef underlying37 Gr L (5:Int) Js (FE _) Cm KB ?_;intro v9 w9 CD BC);exact⟨⟨k+1,J,qgm,qrf CW.out CD,q8.trans BC⟩,qio⟩
    ·have CW:Aj ((p.take (k+1)).map CY=L++ [(1:Int)]):=F (by rw[hst.out];rfl)
     go_wp2_with(at_builtin;refine Ef underlying37 Gr L (1:Int) Js (FE _) Cm KB ?_;intro v9 w9 CD BC);exact⟨⟨k+1,J,qgm,qrf CW.out CD,q8.trans BC⟩,qio⟩
  ·cases BK
   ·cases ps
    ·have CW:Aj ((p.take (k+1)).map CY=L++ [(6:Int)]):=F (by rw[hst.out];rfl)
     go_wp2_with(at_builtin;refine Ef underlying37 Gr L (6:Int) Js (FE _) Cm KB ?_;intro v9 w9 CD BC);exact⟨⟨k+1,J,qgm,qrf CW.out CD,q8.trans BC⟩,qio⟩
    ·have CW:Aj ((p.take (k+1)).map CY=L++ [(2:Int)]):=F (by rw[hst.out];rfl)
     go_wp2_with(at_builtin;refine Ef underlying37 Gr L (2:Int) Js (FE _) Cm KB ?_;intro v9 w9 CD BC);exact⟨⟨k+1,J,qgm,qrf CW.out CD,q8.trans BC⟩,qio⟩
   ·cases ps
    ·have CW:Aj ((p.take (k+1)).map CY=L++ [(7:Int)]):=F (by rw[hst.out];rfl)
     go_wp2_with(at_builtin;refine Ef underlying37 Gr L (7:Int) Js (FE _) Cm KB ?_;intro v9 w9 CD BC);exact⟨⟨k+1,J,qgm,qrf CW.out CD,q8.trans BC⟩,qio⟩
    ·have CW:Aj ((p.take (k+1)).map CY=L++ [(3:Int)]):=F (by rw[hst.out];rfl)
     go_wp2_with(at_builtin;refine Ef underlying37 Gr L (3:Int) Js (FE _) Cm KB ?_;intro v9 w9 CD BC);exact⟨⟨k+1,J,qgm,qrf CW.out CD,q8.trans BC⟩,qio⟩
 ·obtain rfl:k=H:=J
  have hk3:x.s.head.toNat=k:=by rw[HH.out];rfl
  have HK:=F hk3;have Rx:((p.take k).map CY).length<=4096:=by rw[Dz,DC];omega
  have Ct:((p.take k).map CY).all okW=true:=by
   rw[EA];intro y hy;obtain⟨q,hq,rfl⟩:=Ld.1 hy;have okq:=EA.1 hall.out _ (Ui hq);have:=su okq;simp[okW,AR];omega
  obtain⟨ws,Mp⟩:=Az ((p.take k).map CY);rw[Mp]at oj Rx Ct;have HW:=F Mp;have fr7:=fr.on f7.out.size;have im9:=oj.imm DY (fun k hk=>fr7 k hk);have im8:=im9;obtain⟨A5,c5,rfl,_⟩:=im9;have Ki:=fr7.on Co.size;have h8:=h7.on Co;have cS:=Qx h8 hi Ki 1 _ ws im8 (Qy HS.out AC ⟨J,Int.ofNat_le.2 (YN W h8.pool.at_.wd bits h8.pool.at_.bl _ x6.side)⟩ Rx) Ct;rw[Fs.side]at cS;clear h7 oj hk3 Mp Rx Ct hHl hk hlt im8 fr7 Ki h8 hlen;go_wp2_with fail;refine cS.mono ?_;rintro e w9⟨x9,v9,rfl,f9,h9,O9,fx9⟩;go_wp2;go_ret2;rw[HK.out,HW.out];exact⟨x9,v9,Q,f7.trans ((Frm.of Co).trans f9),h9,O9,⟨fx9.s.trans Fs.s,fx9.side.trans Fs.side,fx9.pool.trans Fs.pool⟩⟩
theorem tP(h:Bx τ w i b x W nb mb bits a)(hi:i≠0)(fr:BU τ w)(ok:Gi x.s W)(Gk:x.side=0\/x.side=1)(ses:Int)(p:List AQ)(c:List Bf)(pv cv:An)(hp:Imm 5 AQ.enc τ w pv p)(hc:Imm 2 Bf.enc τ w cv c)(hpl:Y p<=1000000)(DG:Y c<=1000000):
  AL AE 61 #[AI (I ⟨b,0,Z⟩),U O ses,pv,cv] w (Sn τ w i b W nb mb bits x ((x.z W bits).Em a ses p c)):=by
 grind [Sn,AV.Em,BR.z,BU,Imm,AQ.enc,Bf.enc,Ahl,Ahn,Ahm]
end
def Ua:Array An:=#[Bl,.func (.func 196) #[] #[],.func (.func 197) #[] #[],.func (.func 198) #[] #[],.func (.func 199) #[] #[],.func (.func 200) #[] #[],.func (.func 201) #[] #[],.func (.func 202) #[] #[],.func (.func 203) #[] #[],.func (.func 204) #[] #[],.func (.func 205) #[] #[],.func (.func 206) #[] #[]]
def AhC(w:V):AL AE 158 #[] w fun e w'=>e=AN (Ba Ua)/\Ag w w w':=by
 have b1:=AB (Ae w w) (N #[Bl,Bl,Bl,Bl,Bl,Bl,Bl,Bl,Bl,Bl,Bl,Bl] 257);have r1:(Ao w (N #[Bl,Bl,Bl,Bl,Bl,Bl,Bl,Bl,Bl,Bl,Bl,Bl] 257)).heap[w.heap.size]?=I (N #[Bl,Bl,Bl,Bl,Bl,Bl,Bl,Bl,Bl,Bl,Bl,Bl] 257 (0,0)):=CB w _;go_in;go_wp2_with(refine UF Q 257 _ _ Q w 0 Ua AG AG 257 _ Ua r1 (qiz 257 12) (Fg AG) AG AG ?_);refine qti ?_;refine De (v:= Ba Ua) ?_ Q ⟨rfl,?_⟩
 ·rw[aY Q]
  have hrow:((Ao w (N #[Bl,Bl,Bl,Bl,Bl,Bl,Bl,Bl,Bl,Bl,Bl,Bl] 257)).setRow w Ua).heap[w.heap.size]?=I (N Ua 257 (0,0)):=GS _ _ _ _ _ (0,0) r1;generalize(Ao w (N #[Bl,Bl,Bl,Bl,Bl,Bl,Bl,Bl,Bl,Bl,Bl,Bl] 257)).setRow w Ua=y at*;have hl:=WQ (P:=AE) y w 0 257 Ua _ (fun j v hv=>by rw[EE];exact(AX y w j _ _ _ hrow).trans hv) underlying257 Q (qiz 257 12);simp only[Act.put,Array.getD,asAddr];exact hl
 ·exact b1.trans ((AT.grown (S:=fun k=>w.heap.size<=k) (Fw _ w _) (fun g hg=>by cases hg;exact .inl (Bg _))).below b1.size (fun k hk=>hk))
section
variable {τ:Nat→Nat} {w:V} {i b W nb mb:Nat} {x:BR} {bits:List Bool} {a:Bb}
theorem AhD(p q:AS)(w:V):CallsD AE 157 #[AI (I p),AI (I q)] .returning w fun e u' w'=>e=AN (Be #[])/\u'=.returning/\w'=w:=by
 refine callsD_of_wpS func157 Q fun c₀ cs hu=>?_
 apply wpS_seq;apply wpS_region;simp[wpOpsS,go_sem,recoverD,hu,Tryz.ntmps157,Exit.thenS];apply wpS_seq;apply wpS_region;simp[wpOpsS,go_sem,recoverD,hu,Tryz.ntmps157,Exit.thenS];refine wpS_cond (t:=false) (by simp[Act.eval,Array.replicate]) ?_;simp only[Bool.false_eq_true,if_false];refine wpS_of_wp (wp_skip ?_);cases c₀
 simp_all [bodyPostS,results,Tryz.results157]
def AhE(h:Bx τ w i b x W nb mb bits a)(hi:i≠0)(fr:BU τ w)(hl:1<=a.last/\a.last<=1000)(p q:Nat)(hp:E w ⟨p,0,Z⟩=I (AI (I ⟨b,0,Z⟩)))(hq:w.heap[q]?=I (N #[R Z 0 0] 103 (0,0)))(tq:τ q=i+1)(u:TypeId)(pv:An)(ue:List PanicEntry):
  CallsD AE 157 #[AI (I ⟨p,0,Z⟩),AI (I ⟨q,0,Z⟩)] (.panicking ({v:= .iface u pv,recovered:=false}::ue)) w fun e u' w'=>
   e=AN (Be #[])/\u'=.panicking ({v:= .iface u pv,recovered:=true}::ue)/\∃w2 x' v',Frm τ τ w w2 i/\Bx τ w2 i b x' W nb mb bits (a.stop x.side W bits 6).1/\Ju τ w2 v' (a.stop x.side W bits 6).2/\Fix x x'/\w'=Ai w2 ⟨q,0,Z⟩ v':=by
 have cS:=SY h hi fr 6 AC hl;refine callsD_of_wpS func157 Q fun c₀ cs hu=>?_
 apply wpS_seq;apply wpS_region;simp[wpOpsS,go_sem,recoverD,hu,Tryz.ntmps157,Exit.thenS];apply wpS_seq;apply wpS_region;simp[wpOpsS,go_sem,recoverD,hu,Tryz.ntmps157,Exit.thenS];refine wpS_cond (t:=true) (by simp[Act.eval,Array.replicate]) ?_;simp only[if_true];refine wpS_of_wp ?_;have ht:(#[Value.pointer (I ⟨p,0,Z⟩),Value.pointer (I ⟨q,0,Z⟩)]++ ((((Array.replicate 6 undef).setIfInBounds 1 (Value.iface u pv)).setIfInBounds 0 (Value.iface u pv)).setIfInBounds 2 (Value.iface u pv)).setIfInBounds 3 (Value.bool true):Array An)=#[AI (I ⟨p,0,Z⟩),AI (I ⟨q,0,Z⟩),.iface u pv,.iface u pv,.iface u pv,Av true,undef,undef]:=Q;rw[ht];clear ht;go_wp2_with fail;refine cS.mono ?_;rintro e w2⟨x',v',rfl,hf,hs,hO,fx⟩;have Et:=hf.out.row hq (fun e=>by rw[tq]at e;omega);have c2:=AX w2 q 0 _ _ _ Et;have f2:=CJ w2 q 0 _ _ Et;have vs:∃A n c,v'=R A n c:=by rcases hO with⟨_,rfl⟩ | ⟨d,y,_,rfl,_⟩ <;> exact⟨_,_,_,Q⟩
 obtain⟨A,n,c,rfl⟩:=vs;go_wp2_with fail;simp[bodyPostS,results,Tryz.results157]
 first | exact⟨w2,hf,x',hs,_,hO,fx,Q⟩ | (refine⟨Q,w2,hf,x',hs,_,hO,fx,Q⟩)
end
def Ju.keep{τ τ':Nat->Nat}{w w':V}{S:Nat->Prop}{v:An}{l:List Lt}(h:Ju τ w v l)(hf:Kp τ τ' w w' S):Ju τ' w' v l:=by
 rcases h with h | ⟨d,y,h1,h2,h3⟩
 ·exact .inl h
 ·exact .inr ⟨d,y,h1,h2,h3.keep hf⟩
theorem uf{w w2 w3 w5:V}{τ τ2 τ5:Nat->Nat}{i b W nb mb q:Nat}{x x5:BR}{bits:List Bool}{r:Bb × List Lt}{v:An}(hq:↑w<=q)(b2:Ag w w w2)(t2:∀k,k<↑w->τ2 k=τ k)(b3:Ag w2 w2 w3)
  (f:Frm τ2 τ5 w3 w5 i) (Is:BU τ5 w5) (h5:Bx τ5 w5 i b x5 W nb mb bits r.1) (o5:Ju τ5 w5 v r.2) (fx:Fix x x5) (tq:τ5 q=i+1):DA τ w i b W nb mb bits x r (AN v) (Ai w5 ⟨q,0,Z⟩ v):=by
 have AY:Frm τ5 τ5 w5 (Ai w5 ⟨q,0,Z⟩ v) (i+1):=Frm.Ik (AT.set (S:=fun k=>k=q) Q) (fun k _ e=>by grind);have h6:=h5.keep AY J J;have o6:=o5.keep (AY.kp J);have b23:=AH b2 b3;have o:AT (fun k=>τ k=i\/w.heap.size<=k) w (Ai w5 ⟨q,0,Z⟩ v):=((AT.of b23).trans (f.out.mono (fun k _ e=>by grind))).trans (AT.set (.inr hq));exact⟨τ5,x5,v,Q,⟨o.mono (fun k hk e=>by omega),fun k hk=>(f.tag k (Ck hk b23.size)).trans (t2 k hk)⟩,Is.on AY.out.size,h6,o6,fx⟩
theorem Leaves.tmps{P:Program}{fn:Func}{t t':Array An}{AW:Ending->V->Prop}(h:results fn t'=results fn t):∀(ds:List Deferred) (u:FrameMode) (w:V),Leaves P fn t AW ds u w->Leaves P fn t' AW ds u w
 | [],.returning,w,hl=>by
  unfold Leaves at*
  grind
 | [],.panicking _,w,hl=>hl
 | [],.run,w,hl=>hl
 | d::ds,u,w,hl=>by
  obtain⟨hu,fv,cap,f,args,ht,hi,hc⟩:=hl;refine⟨hu,fv,cap,f,args,ht,hi,hc.mono ?_⟩;intro e u' w' he;cases e with
  | returned v=>exact Leaves.tmps h ds _ _ he
  | panicked c=>exact Leaves.tmps h ds _ _ he
  | outgrown=>exact he
def du{AW:Ending->V->Prop}{d:Nat}(hd:d≠6){v:An}{c:List PanicEntry}{a:Act}{w:V}(h:bodyPostD AE Tryz.f109 AW (.panic c) (a.put (I d) v) w):bodyPostD AE Tryz.f109 AW (.panic c) a w:=
 Leaves.tmps (by
  have e:(a.put (I d) v).tmps[6]?.getD undef=a.tmps[6]?.getD undef:=by
   simp[Act.put,Array.getElem?_setIfInBounds,hd]
  simp only[results,Tryz.results109];simp[e]) _ _ _ h
section
variable {τ:Nat→Nat} {w:V} {i b W nb mb:Nat} {x:BR} {bits:List Bool} {a:Bb}
def So(AY:Nat)(kind:Int)(hix:∀y,(Instr.index 257 (Ba #[Bl,.func (.func 196) #[] #[],.func (.func 197) #[] #[],.func (.func 198) #[] #[],.func (.func 199) #[] #[],.func (.func 200) #[] #[],.func (.func 201) #[] #[],.func (.func 202) #[] #[],.func (.func 203) #[] #[],.func (.func 204) #[] #[],.func (.func 205) #[] #[],.func (.func 206) #[] #[]]) (U O kind)).run AE y=.ok (.func (.func AY) #[] #[]) y)(hE:∀(args:Array An) (y:V),(callFunc AY args).run AE y=.ok (.enter AY args) y)(h:Bx τ w i b x W nb mb bits a)(hi:i≠0)(fr:BU τ w)(hl:1<=a.last/\a.last<=1000)(A:Option AS)(n c:Nat)(ws:List Int)(hv:Imm 1 BD τ w (R A n c) ws)(r:Jz)
  (cF:∀(τ:Nat->Nat) (y:V),Bx τ y i b x W nb mb bits a->BU τ y->Imm 1 BD τ y (R A n c) ws->AL AE AY #[AI (I ⟨b,0,Z⟩),R A n c] y fun e w'=>QD τ y i b W nb mb bits x r e w'):
  AL AE 109 #[AI (I ⟨b,0,Z⟩),U O kind,R A n c] w fun e w'=>DA τ w i b W nb mb bits x (r.getD ((x.z W bits).stop a 6)) e w':=by
 have b1:=AB (Ae w w) (N #[AI (I ⟨b,0,Z⟩)] 65);have b2:=AB b1 (N #[R Z 0 0] 103);have r1:(Ao w (N #[AI (I ⟨b,0,Z⟩)] 65)).heap[w.heap.size]?=I (N #[AI (I ⟨b,0,Z⟩)] 65 (0,0)):=CB w _;go_enter_defers func109,ntmps109;go_upto_region 2 with fail;have e1:(Ao w (N #[AI (I ⟨b,0,Z⟩)] 65)).heap.size=w.heap.size+1:=AO;have r2:(Ao (Ao w (N #[AI (I ⟨b,0,Z⟩)] 65)) (N #[R Z 0 0] 103)).heap[w.heap.size]?=I (N #[AI (I ⟨b,0,Z⟩)] 65 (0,0)):=((AB (Ae _ _) _).block w AO).trans r1;have r3:(Ao (Ao w (N #[AI (I ⟨b,0,Z⟩)] 65)) (N #[R Z 0 0] 103)).heap[w.heap.size+1]?=I (N #[R Z 0 0] 103 (0,0)):=by rw[<-e1];exact CB _ _
 obtain⟨w2,hw2⟩:=Az (Ao (Ao w (N #[AI (I ⟨b,0,Z⟩)] 65)) (N #[R Z 0 0] 103));rw[hw2]at b2 r2 r3 ⊢;obtain⟨p,hp⟩:=Az (w.heap.size);obtain⟨q,hq⟩:=Az (w.heap.size+1);rw[hp]at r2 ⊢;rw[hq]at r3;rw[show p+1=q by omega];have cp:E w2 ⟨p,0,Z⟩=I (AI (I ⟨b,0,Z⟩)):=AX w2 p 0 _ _ _ r2;have cD:=fun y=>AhC y
 simp only[Ua]at cD;clear hw2 r1 e1 b1;obtain⟨τ2,hτ2⟩:∃t,t=Fh τ (fun k=>k=p\/k=q) (i+1):=⟨_,Q⟩
 have t2:∀k,k<↑w->τ2 k=τ k:=fun k hk=>by rw[hτ2];exact JY (fun e=>by omega)
 have tq2:τ2 q=i+1:=by rw[hτ2];exact US (.inr Q)
 have tp2:τ2 p=i+1:=by rw[hτ2];exact US (.inl Q)
 have F2:Frm τ τ2 w w2 (i+1):=⟨AT.of b2,t2⟩
 have hqs:=(Bm.1 r3).1;have Ej:BU τ2 w2:=fun k hk=>by rw[hτ2,JY (fun e=>by omega)];exact fr k (Br b2.size hk)
 have h2:=h.keep F2 J J;have im2:=hv.keep (F2.kp J);refine Fz (S:=fun w'=>E w' ⟨p,0,Z⟩=I (AI (I ⟨b,0,Z⟩))) AG cp (fun hHeld=>?_);have S2:E w2.drew ⟨p,0,Z⟩=I (AI (I ⟨b,0,Z⟩)):=cp;have q2:=(Ae w2 w2).drew;refine G3 (i:=1) (v:=?_) Q AG AG AG (fun _ _ _ h=>du AC h) (Or.inl ⟨by rfl,?_⟩) (by assumption) ?_;rotate_left 1;(focus (intro wz hSz;(try dsimp only at hSz);go_simp;(try with_reducible rfl)));refine zq ?_;refine zp ?_;refine G3 (i:=3) (v:=?_) Q AG AG AG (fun _ _ _ h=>du AC h) (Or.inl ⟨by rfl,?_⟩) (by assumption) ?_;rotate_left 1;(focus (intro wz hSz;(try dsimp only at hSz);go_simp;(try with_reducible rfl)));refine zq ?_;refine zp ?_;refine G3 (i:=4) (v:=?_) Q AG AG AG (fun _ _ _ h=>du AC h) (Or.inl ⟨by rfl,?_⟩) (by assumption) ?_;rotate_left 1;(focus (intro wz hSz;(try dsimp only at hSz);go_simp;(try with_reducible rfl)));refine zq ?_;refine zp ?_;refine url 0 (fun KU Bc=>?_);go_simp;refine gqz (cD _) fun w3 I0=>?_;have hb3:=AH q2 I0;have S3:=AK hb3 cp;have h3:=h2.on hb3;have Gz:=Ej.on hb3.size;have im3:=im2.keep (Kp.of hb3);refine Bc.out _ _ S3 (fun _=>?_);refine zp ?_;refine G3 (i:=2) (v:=?_) Q AG AG AG (fun _ _ _ h=>du AC h) (Or.inl ⟨by rfl,?_⟩) (by assumption) ?_;rotate_left 1;(focus (intro wz hSz;(try dsimp only at hSz);go_simp;(try with_reducible rfl)));refine zq ?_;refine zp ?_;refine url 5 (fun KU Bc=>?_);go_simp
 try rw[hE,Oper.upon_enter]
 refine(cF τ2 w3 h3 Gz im3).mono ?_;rintro e w4 (⟨hr,⟨u,v,rfl⟩,hb4⟩ | ⟨P,hr,τ4,x4,v4,rfl,f4,JB,h4,o4,fx4⟩)
 ·have dy:=AH hb3 hb4
  refine leaves_cons (f:=157) (args:=#[AI (I ⟨p,0,Z⟩),AI (I ⟨q,0,Z⟩)]) AO (by simp[go_sem]) ?_;refine(AhE (h3.on hb4) hi (Gz.on hb4.size) hl p q (AK dy cp) ((dy.block q (Bm.1 r3).1).trans r3) tq2 u v []).mono ?_;rintro e u' w6⟨rfl,rfl,w5,x5,v5,f5,h5,o5,fx5,rfl⟩;have vs:∃A n c,v5=R A n c:=by rcases o5 with⟨_,rfl⟩ | ⟨d,y,_,rfl,_⟩ <;> exact⟨_,_,_,Q⟩
  have D:=uf (w:=w) (r:=(x.z W bits).stop a 6) J b2 t2 dy f5 ((Gz.on hb4.size).on f5.out.size) h5 o5 fx5 tq2;obtain⟨A5,n5,c5,rfl⟩:=vs;have q5:=f5.out.row ((dy.block q (Bm.1 r3).1).trans r3) (fun e=>by rw[tq2]at e;omega);have c9:E (Ai w5 ⟨q,0,Z⟩ (R A5 n5 c5)) ⟨q,0,Z⟩=I (R A5 n5 c5):=AX _ _ 0 _ _ _ (CM w5 q 0 _ _ _ q5);generalize Ai w5 ⟨q,0,Z⟩ (R A5 n5 c5)=w6 at*;subst hr;refine⟨R A5 n5 c5,?_,D⟩;simp[results,Tryz.results109,go_sem,c9]
 ·subst hr
  have r4:=f4.out.row ((hb3.block q (Bm.1 r3).1).trans r3) (fun e=>by rw[tq2]at e;omega);have S4:=f4.out.cell S3 (fun e=>by rw[tp2]at e;omega);have tq4:=(f4.tag q (Ck hqs hb3.size)).trans tq2;have vs:∃A n c,v4=R A n c:=by rcases o4 with⟨_,rfl⟩ | ⟨d,y,_,rfl,_⟩ <;> exact⟨_,_,_,Q⟩
  have D:=uf (w:=w) (r:=P) J b2 t2 hb3 f4 JB h4 o4 fx4 tq4;obtain⟨A5,n5,c5,rfl⟩:=vs;have c4:=AX w4 q 0 _ _ _ r4;have f4':=CJ w4 q 0 _ _ r4;have S5:=(Fx (a:=⟨p,0,Z⟩) (Fd w4 ⟨q,0,Z⟩ (R A5 n5 c5) p qsm)).trans S4;have c9:E (Ai w4 ⟨q,0,Z⟩ (R A5 n5 c5)) ⟨q,0,Z⟩=I (R A5 n5 c5):=AX _ _ 0 _ _ _ (CM w4 q 0 _ _ _ r4);refine Bc.out _ _ S4 (fun _=>?_);refine zp ?_;refine url 6 (fun KU Bc=>?_);go_simp;refine Bc.out _ _ S5 (fun _=>?_);refine zp ?_;refine Ce ?_;generalize Ai w4 ⟨q,0,Z⟩ (R A5 n5 c5)=w6 at*;go_wp2_with fail;refine leaves_cons (f:=157) (args:=#[AI (I ⟨p,0,Z⟩),AI (I ⟨q,0,Z⟩)]) AO (by simp[go_sem]) ?_;refine(AhD ⟨p,0,Z⟩ ⟨q,0,Z⟩ _).mono ?_;rintro e u' w7⟨rfl,rfl,rfl⟩;refine⟨R A5 n5 c5,?_,D⟩;simp[results,Tryz.results109,go_sem,c9]
end
def AhF(A:Option AS)(c:Nat)(l:List Int)(B:Option AS)(d:Nat)(m:List Int)(w:V)(hA:Arr 1 BD w w A l)(hB:Arr 1 BD w w B m)(hl:Y l<=1000000)(hm:Y m<=1000000):
  AL AE 153 #[R A (Y l) c,R B (Y m) d] w fun e w'=>e=AN (Av (l == m))/\Ag w w w':=by
 by_cases Oq:Y l=Y m
 case neg=>
  have g1:((Y l:Int) != (Y m:Int))=true:=by simp;omega
  have e1:(l == m)=false:=by
   rw[YP];exact fun e=>Oq (by rw[e])
  rw[e1];clear Oq e1;go_in;go_wp2;go_ret;exact⟨Q,Ae _ _⟩
 have g1:((Y l:Int) != (Y m:Int))=false:=by simp;omega
 have Hlm:=F Oq;obtain⟨AW,hR⟩:=Az ((l == m));rw[hR];have HR:=F hR;clear Oq hR;go_in;go_upto_region 3 with fail;go_upto_region 4 with fail;go_loopw [13] (fun iv wr=>∃k:Nat,k<=Y l/\iv=U O k/\Aj (l.take k=m.take k)/\Ag w w wr) (fun iv _=>Y l-(intOf iv).toNat);exact⟨0,J,rfl,F AO,Ae _ _⟩
 obtain⟨k,hk,rfl,htk,Ez⟩:=hrel;obtain⟨w3,rfl⟩:=qgn wr;by_cases hlt:k<Y l
 ·obtain⟨b1,o1,x,rfl,_,hx,c1⟩:=hA.int hlt Ez
  obtain⟨b2,o2,y,rfl,_,hy,c2⟩:=hB.int (k:=k) (by have:=Hlm.out;omega) Ez;have L1:=Di c1;have L2:=Di c2;have hkm:(k:Int)<(Y m:Int):=by have:=Hlm.out;omega
  go_upto_region 6 with fail;refine qrl ?_;rintro w4⟨⟨_,hb4⟩,rfl⟩;have hb:=AH Ez hb4;by_cases Pb:x=y
  ·have g2:(x != y)=false:=qsu Pb
   have ht2:Aj (l.take (k+1)=m.take (k+1)):=F (by rw[GU,GU,htk.out,hx.out,hy.out,Pb]);subst Pb;go_wp2_with fail;exact⟨⟨k+1,J,qgm,ht2,hb⟩,qio⟩
  ·have g2:(x != y)=true:=qsu Pb
   have hf:Aj (AW=false):=F (by
    rw[<-HR.out,YP];intro e;have:=hx.out;rw[e,hy.out]at this;exact Pb (qsu this.symm))
   clear Pb;go_wp2;go_ret;exact⟨by rw[hf.out];rfl,hb⟩
 ·obtain rfl:k=Y l:=J
  have hf:Aj (AW=true):=F (by
   have h1:=htk.out;rw[Ia,Hlm.out,Ia]at h1;rw[<-HR.out,h1];simp)
  go_wp2;go_ret;exact⟨by rw[hf.out];rfl,Ez⟩
def dz(p q:DE):Bool:=p.ses == q.ses&&(p.kind == q.kind&&(p.num == q.num&&(p.tag == q.tag&&p.ws == q.ws)))
def AhG(p q:DE)(w:V)(hp:p.In w)(hq:q.In w)(lp:Y p.ws<=1000000)(lq:Y q.ws<=1000000):AL AE 105 #[p.val,q.val] w fun e w'=>e=AN (Av (dz p q))/\Ag w w w':=by
 obtain⟨s1,k1,n1,A,c,l,t1⟩:=p;obtain⟨s2,k2,n2,B,d,m,t2⟩:=q;have b1:=AB (AB (Ae w w) (N #[U O s1,U O k1,U O n1,R A (Y l) c,U AA t1] 39)) (N #[U O s2,U O k2,U O n2,R B (Y m) d,U AA t2] 39);have cE:=qbw w fun y hy=>AhF A c l B d m y (hp.a.on hy) (hq.a.on hy) lp lq
 have e0:dz ⟨s1,k1,n1,A,c,l,t1⟩ ⟨s2,k2,n2,B,d,m,t2⟩=(s1 == s2&&(k1 == k2&&(n1 == n2&&(t1 == t2&&l == m)))):=Q;rw[e0];simp only[DE.val,DE.cs];clear hp hq lp lq e0;by_cases h1:s1=s2
 case neg=>
  have g1:(s1 == s2)=false:=qsu h1;rw[g1];clear h1;go_in;go_wp2;go_ret;exact⟨Q,b1⟩
 subst h1;have g1:(s1 == s1)=true:=AO;rw[g1];by_cases h2:k1=k2
 case neg=>
  have g2:(k1 == k2)=false:=qsu h2;rw[g2];clear h2;go_in;go_wp2;go_ret;exact⟨Q,b1⟩
 subst h2;have g2:(k1 == k1)=true:=AO;rw[g2];by_cases h3:n1=n2
 case neg=>
  have g3:(n1 == n2)=false:=qsu h3;rw[g3];clear h3;go_in;go_wp2;go_ret;exact⟨Q,b1⟩
 subst h3;have g3:(n1 == n1)=true:=AO;rw[g3];by_cases h4:t1=t2
 case neg=>
  have g4:(t1 == t2)=false:=qsu h4;rw[g4];have g5:((t1:Int) == (t2:Int))=false:=by simp;omega
  clear h4;go_in;go_wp2;go_ret;exact⟨Q,b1⟩
 subst h4;have g4:(t1 == t1)=true:=AO;rw[g4];obtain⟨AW,hR⟩:=Az ((l == m));simp only[hR]at cE;rw[hR];clear hR;go_in;go_wp2_with(go_at_call 153;refine gqz (cE _ b1) fun w2 hb2=>?_);go_ret;exact⟨by simp only[Bool.true_and];rfl,AH b1 hb2⟩
end Go.Proofs.YtjpidgffdkjjeaaGreat
