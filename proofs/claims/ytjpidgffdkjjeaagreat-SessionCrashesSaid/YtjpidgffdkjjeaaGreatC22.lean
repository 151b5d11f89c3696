/- Contracts and plain laws. No condition. -/
import Derived.Test.YtjpidgffdkjjeaaGreatCA
import Derived.Test.YtjpidgffdkjjeaaGreatC19
set_option linter.all false
set_option maxHeartbeats 16000000
namespace Go.Proofs.YtjpidgffdkjjeaaGreat
open Go.Proofs.Tryz
open Go.Proofs.Tryz renaming prog->AE
open List renaming length->Y
open Go.World renaming cell?->E,setCell->Ai,alloc->Ao,frozen?->Bo
open Go.Value renaming int->U,slice->R,pointer->AI,agg->Ba,tuple->Be,nilFunc->Bl,bool->Av
open Go.IntKind renaming i64->O,u64->AA,u32->BF,u8->Cd
open Option renaming none->Z,some->I
open Go.Ending renaming returned->AN
open Go.Obj renaming cells->N
open Go renaming World->V,Value->An,Calls->AL,Addr->AS
open Go.RowKit renaming Below->Ag,Hid->Aj
set_option maxRecDepth 100000
open Go.RowKit Go.Maps
section
variable {τ:Nat→Nat} {w:V} {i b W nb mb:Nat} {x:BR} {bits:List Bool} {a:Bb}
def Vn:(prog.info? 154).map (fun i=>(i.zero,i.size,i.bytes))=I (I (Ba #[U O 0,Av false,U O 0,U O 0,Av false]),5,40):=AG
def Ain:Go.bits BinOp.and IntKind.i64 0 1=0/\Go.bits BinOp.and IntKind.i64 1 1=1/\Go.bits BinOp.and IntKind.i64 2 1=0/\Go.bits BinOp.and IntKind.i64 3 1=1/\Go.bits BinOp.and IntKind.i64 4 1=0/\Go.bits BinOp.and IntKind.i64 5 1=1/\Go.bits BinOp.and IntKind.i64 6 1=0/\Go.bits BinOp.and IntKind.i64 7 1=1:=by decide+kernel
def Aio{z:AV}{ws:List Int}(h:¬(Y ws:Int)=z.s.head):z.Pj a ws=Z:=by unfold AV.Pj;rw[Bd (fun hh=>h hh.1)]
def Aip{z:AV}{ws:List Int}{q:Int}(h:q∈ws)(hq:¬q<=7):z.Pj a ws=Z:=by
 unfold AV.Pj;rw[Bd (fun hh=>hq (by have:=EA.1 hh.2 q h;simpa using this))]
def Aiq(h:Bx τ w i b x W nb mb bits a)(hi:i≠0)(fr:BU τ w)(ok:Gi x.s W)(iv:BO (x.z W bits) a)(hb1:a.ph=1)(A:Option AS)(c:Nat)(ws:List Int)(hA:Arr 1 BD w w A ws)(lw:Y ws<=4096)(hw:ws.all okW=true):
  AL AE 196 #[AI (I ⟨b,0,Z⟩),R A (Y ws) c] w fun e w'=>QD τ w i b W nb mb bits x ((x.z W bits).Pj a ws) e w':=by
 have Nr:E w ⟨b,20,Z⟩=I (U O x.s.head):=h.row.c 20;by_cases h1:(Y ws:Int)=x.s.head
 case neg=>
  have g1:((Y ws:Int) == x.s.head)=false:=qsu h1;rw[Aio h1];go_in;go_wp2_with(go_at_call 220;refine(IT _).mono ?_;rintro e w2 ⟨⟨u,v,rfl⟩,hb2⟩);exact⟨Q,.inl ⟨rfl,⟨_,_,rfl⟩,hb2⟩⟩
 have FZ:=ok.n;obtain⟨P,hP⟩:=Az ((x.z W bits).Pj a ws);rw[hP];have HP:=F hP;have Hw:=F hw;have H1:=F h1;rw[<-h1]at Nr;clear hP hw h1;go_in;go_upto_region 4 with(go_at_call 220;refine(FM _).mono ?_;rintro e w2 ⟨rfl,rfl⟩)
 go_loopw [5,26] (fun ov iv wr=>∃k:Nat,k<=Y ws/\iv=U O k/\Own wr w 154 5 AQ.enc ov ((ws.take k).map Gx)/\Ag w w wr/\Aj ((ws.take k).all (fun n=>decide (n<=7))=true)) (fun _ iv _=>Y ws-(intOf iv).toNat);exact⟨0,J,rfl,Own.nil,Ae _ _,F rfl⟩
 obtain⟨k,hk,rfl,oj,Co,hall⟩:=hrel;obtain⟨w8,rfl⟩:=qgn wr;by_cases hlt:k<Y ws
 ·obtain⟨bk,off,q,rfl,BN,hq,c0⟩:=hA.int hlt Co
  have XK:Aj (q∈ws):=F (DI hq.out)
  have TX:0<=q:=by
   have h9:=EA.1 Hw.out q XK.out;unfold okW AR at h9;exact(Ib h9).1
  by_cases h7:q<=7
  case neg=>
   have d7:decide (q<=7)=false:=Ds h7;have hno:=F (Aip (a:=a) (z:=x.z W bits) XK.out h7);clear TX h7;go_wp2_with(go_at_call 220;refine(IT _).mono ?_;rintro e w9 ⟨⟨u,v,rfl⟩,BC⟩);exact⟨Q,.inl ⟨HP.out.symm.trans hno.out,⟨_,_,rfl⟩,Co.trans (BC.mono Co.size)⟩⟩
  have hst:Aj ((ws.take (k+1)).map Gx=(ws.take k).map Gx++ [Gx q]):=F (by rw[GU,hq.out];simp);have Air:Aj ((ws.take (k+1)).all (fun n=>decide (n<=7))=true):=F (by rw[GU,hq.out];simp only[Option.toList,List.all_append,hall.out,List.all_cons,List.all_nil,Bool.true_and,Bool.and_true];exact Er h7);have Cm:(((ws.take k).map Gx).length+1)*40<=140737488355328:=by rw[Dz,DC];omega
  have IH:w.heap.size<=w8.heap.size:=Co.size;generalize(ws.take k).map Gx=L at*;have hc8:q=0\/q=1\/q=2\/q=3\/q=4\/q=5\/q=6\/q=7:=J;clear TX h7 XK;obtain⟨z0,z1,z2,z3,z4,z5,z6,z7⟩:=Ain;rcases hc8 with rfl | rfl | rfl | rfl | rfl | rfl | rfl | rfl
  focus
   go_wp2_with(first | (go_at_call 220;refine(FM _).mono ?_;rintro e w2 ⟨rfl,rfl⟩) | (at_builtin;refine Ef underlying80 Vn L (Gx 0) oj (AQ.one _) Cm IH ?_;intro v9 w9 CD BC))
  rotate_left
  focus
   go_wp2_with(first | (go_at_call 220;refine(FM _).mono ?_;rintro e w2 ⟨rfl,rfl⟩) | (at_builtin;refine Ef underlying80 Vn L (Gx 1) oj (AQ.one _) Cm IH ?_;intro v9 w9 CD BC))
  rotate_left
  focus
   go_wp2_with(first | (go_at_call 220;refine(FM _).mono ?_;rintro e w2 ⟨rfl,rfl⟩) | (at_builtin;refine Ef underlying80 Vn L (Gx 2) oj (AQ.one _) Cm IH ?_;intro v9 w9 CD BC))
  rotate_left
  focus
   go_wp2_with(first | (go_at_call 220;refine(FM _).mono ?_;rintro e w2 ⟨rfl,rfl⟩) | (at_builtin;refine Ef underlying80 Vn L (Gx 3) oj (AQ.one _) Cm IH ?_;intro v9 w9 CD BC))
  rotate_left
  focus
   go_wp2_with(first | (go_at_call 220;refine(FM _).mono ?_;rintro e w2 ⟨rfl,rfl⟩) | (at_builtin;refine Ef underlying80 Vn L (Gx 4) oj (AQ.one _) Cm IH ?_;intro v9 w9 CD BC))
  rotate_left
  focus
   go_wp2_with(first | (go_at_call 220;refine(FM _).mono ?_;rintro e w2 ⟨rfl,rfl⟩) | (at_builtin;refine Ef underlying80 Vn L (Gx 5) oj (AQ.one _) Cm IH ?_;intro v9 w9 CD BC))
  rotate_left
  focus
   go_wp2_with(first | (go_at_call 220;refine(FM _).mono ?_;rintro e w2 ⟨rfl,rfl⟩) | (at_builtin;refine Ef underlying80 Vn L (Gx 6) oj (AQ.one _) Cm IH ?_;intro v9 w9 CD BC))
  rotate_left
  focus
   go_wp2_with(first | (go_at_call 220;refine(FM _).mono ?_;rintro e w2 ⟨rfl,rfl⟩) | (at_builtin;refine Ef underlying80 Vn L (Gx 7) oj (AQ.one _) Cm IH ?_;intro v9 w9 CD BC))
  rotate_left
  all_goals
   exact⟨⟨k+1,J,qgm,qrf hst.out CD,Co.trans BC,Air⟩,qio⟩
 ·obtain rfl:k=Y ws:=J
  rw[Ia]at oj hall;obtain⟨A5,c5,rfl,l5,m5,n5,ar5⟩:=oj.form AQ.BY;have h8:=h.on Co;obtain⟨Ac,cc,hcv,lc,mc,nc,arc,tc⟩:=h8.li.clicks;have y42:E w8 ⟨b,42,Z⟩=I (R Ac (Y a.clicks) cc):=qrb hcv (h8.row.c 42);have y21:E w8 ⟨b,21,Z⟩=I (U O x.s.need):=h8.row.c 21;have DG:=Va iv.clk;obtain⟨sh,Qs⟩:=Az ((KK (ws.map Gx) a.clicks x.s.need).1);obtain⟨er,her⟩:=Az ((KK (ws.map Gx) a.clicks x.s.need).2);have cA:=fun y:ED w8=>Ade A5 c5 (ws.map Gx) Ac cc a.clicks x.s.need y.w (ar5.on y.2) (arc.on y.2) (by rw[Dz];exact lw) DG
  rw[Qs,her]at cA;simp only[List.length_map]at cA;have Hsh:=F Qs;have Her:=F her;have L42:=Di y42;have L21:=Di y21;have frj:=fr.on Co.size;clear Qs her oj y42 y21 Nr;go_upto_region 9 with fail;refine Jf AG AG ?_;(repeat(go_big_quiet_step (((go_at_call 32;exact Ss (cA _))))));refine GP ?_;rintro w9⟨⟨_,BC⟩,rfl⟩;have h9:=h8.on BC;have Ek:=frj.on BC.size;have f9:Frm τ τ w w9 i:=Frm.of (Co.trans (BC.mono Co.size));clear cA L42 L21 h8 frj;by_cases e0:er=0
  case neg=>
   have g0:(er != 0)=true:=qsu e0
   have HS:Aj (P=I ((x.z W bits).stop a 17)):=F (by
    rw[<-HP.out];unfold AV.Pj;rw[AU (by rw[Xk];exact⟨H1.out,hall.out⟩),Bd (show(KK (ws.map Gx) a.clicks (x.z W bits).s.need).2≠0 from Her.out.symm▸e0)])
   have cS:=SY h9 hi Ek 17 AC ⟨iv.busy hb1,iv.last.2⟩;go_wp2_with fail;refine cS.mono ?_;rintro e Bs⟨x',v',rfl,hf,hs,hO,fx⟩;go_wp2;go_ret;exact .inr ⟨_,HS.out,DA.fin fr f9 (Fix.refl x) hf hs hO fx⟩
  subst e0;have y48:=h9.row.c 48;have z48:=h9.row.fr 48;have h10:=h9.cell hi 48 (U O sh) (x':={x with k:={x.k with shift:=sh}}) (a':={a with shift:=sh}) Q Q Q Q ⟨h9.num.last,h9.num.ph,h9.num.rs,h9.num.wt,rfl,h9.num.n,h9.num.t,h9.num.has⟩ ⟨h9.li.pulses,h9.li.clicks,h9.li.wait,h9.li.sent,h9.li.took,h9.li.ledger,h9.li.kept,h9.li.slots,h9.li.decoys,h9.li.block⟩ Q Q Q Q;have f10:Frm τ τ w (Ai w9 ⟨b,48,Z⟩ (U O sh)) i:=f9.trans (h9.JA 48 (U O sh));have NZ:=fr.on f10.out.size;go_upto_region 13 with fail;obtain⟨Bs,RC⟩:=Az (Ai w9 ⟨b,48,Z⟩ (U O sh));rw[RC]at h10 f10 NZ ⊢;clear RC y48 z48 h9 Ek f9 BC;obtain⟨Ad,cd,Lj,ld,md,nd,ard,td⟩:=h10.li.clicks;have y42:E Bs ⟨b,42,Z⟩=I (R Ad (Y a.clicks) cd):=qrb Lj (h10.row.c 42);have y19:E Bs ⟨b,19,Z⟩=I (U O x.s.slots):=h10.row.c 19;have Jr:E Bs ⟨b,20,Z⟩=I (U O x.s.head):=h10.row.c 20;have cN:=qbw Bs fun y hy=>AdN Ad cd a.clicks sh x.s.head x.s.slots y (ard.on hy) J
  obtain⟨L,hL⟩:=Az (MK a.clicks sh x.s.head x.s.slots);rw[hL]at cN;have HL:=F hL;have HLl:Aj (Y L<=4096):=F (qrb hL (Br ru DG));have HLw:Aj (∀q∈L,0<=q.slot/\q.slot<=4096/\0<=q.basis/\q.basis<=1):=F (by rw[<-hL];exact fun q hq=>rk FZ.head.1 (by have:=FZ.slots;omega) hq);clear hL;have L42:=qbc y42;have L19:=qbc y19;have L20:=qbc Jr;refine qrh Bs (Ae _ _).drew fun hHeld=>?_
  refine tQ4 0 ?_;refine tQ4 4 ?_;refine tQ4 8 ?_;refine tQ4 12 ?_;refine url 16 (fun KU Bc=>?_);go_simp;refine(cN _ (Ae _ _).drew).mono ?_;rintro e FW⟨v11,rfl,ux,dE⟩;obtain⟨A11,c11,rfl,l11,m11,n11,Ais⟩:=ux.form CK.BY;have GH:=AH (Ae Bs Bs).drew dE;refine Bc.out _ _ (GH) (fun _=>?_);refine zp ?_;refine tQ4 17 ?_;refine tQ 21 ?_;refine Ce ?_;clear L42 L19 L20;have h11:=h10.on GH;have f11:=f10.trans (Frm.of (i:=i) (τ:=τ) GH);have iH:=NZ.on GH.size;clear y42 y19 Jr cN ard ux GH dE;go_upto_region 16 with fail;go_loopw [12,92] (fun ov iv wr=>∃k:Nat,k<=Y L/\iv=U O k/\Own wr FW 3 1 BD ov ((L.take k).map KT)/\Ag FW FW wr) (fun _ iv _=>Y L-(intOf iv).toNat);exact⟨0,J,rfl,Own.nil,Ae _ _⟩
  obtain⟨k,hk,rfl,oj,Pu⟩:=hrel;obtain⟨E7,rfl⟩:=qgn wr;have Lll:=HLl.out;by_cases Qp:k<Y L
  ·obtain⟨bk,off,qs,qb,rfl,BN,hq,c0,c1⟩:=Ais.hrd Qp Pu
   have XK:Aj (⟨qs,qb⟩∈L):=F (DI hq.out);have hw3:0<=qs/\qs<=4096/\0<=qb/\qb<=1:=HLw.out ⟨qs,qb⟩ XK.out;have hst:Aj ((L.take (k+1)).map KT=(L.take k).map KT++ [KT ⟨qs,qb⟩]):=F (by rw[GU,hq.out];simp);have Cm:(((L.take k).map KT).length+1)*8<=140737488355328:=by rw[Dz,DC];omega
   have Js:=oj.alloc (N #[U O qs,U O qb] 326);have q12:=AB Pu (N #[U O qs,U O qb] 326);have Ait:=q12.size;obtain⟨G0,hU⟩:=Az (KT ⟨qs,qb⟩);rw[hU]at hst;have hU2:2*qs+qb=G0:=hU;obtain⟨D,hD⟩:=Az (2*qs);have u1:wrap64 (2*qs)=D:=by rw[<-hD];exact Lg _ J
   have u2:wrap64 (D+qb)=G0:=by rw[<-hU2,<-hD];exact Lg _ J
   clear XK hU oj hU2 hD hw3;generalize(L.take k).map KT=M at*;go_wp2_with(at_builtin;refine Ef underlying37 Gr M G0 Js (On _) Cm Ait ?_;intro v9 w9 CD BC);exact⟨⟨k+1,J,qgm,qrf hst.out CD,q12.trans BC⟩,qio⟩
  ·obtain rfl:k=Y L:=J
   rw[Ia]at oj;have hWs:Aj ((L.map KT).all okW=true):=F (by rw[<-HL.out];exact rt FZ.head.1 (by have:=FZ.slots;omega));have hWl:Aj ((L.map KT).length<=4096):=F (by rw[Dz];exact HLl.out)
   have HS:Aj (P=I ((x.z W bits).send {a with shift:=sh,wait:=[3]} 2 (L.map KT))):=F (by
    rw[<-HP.out,<-HL.out];unfold AV.Pj;rw[AU (by rw[Xk];exact⟨H1.out,hall.out⟩),AU (show¬(KK (ws.map Gx) a.clicks (x.z W bits).s.need).2≠0 from fun e=>e Her.out),<-Hsh.out]
    rfl)
   generalize L.map KT=M at*;have im:=oj.imm DY (fun k hk=>iH k hk);obtain⟨A13,c13,rfl,l13,m13,n13,AjV⟩:=oj.form DY;have DO:=h11.on Pu;have rV:=iH.on Pu.size;have Ma:=AB (Ae E7 E7) (N #[U O 3] 3);have h13:=DO.on Ma;have i13:=Imm.one rV 3 3;have uy:=im.keep (Kp.of Ma);have Sf:=h13.row.c 43;have Sg:=h13.row.fr 43;have Oa:=h13.cell hi 43 (R (I ⟨E7,0,Z⟩) 1 1) (x':={x with k:={x.k with shift:=sh,wait:= R (I ⟨E7,0,Z⟩) 1 1}}) (a':={a with shift:=sh,wait:=[3]}) Q Q Q Q ⟨h.num.last,h.num.ph,h.num.rs,h.num.wt,rfl,h.num.n,h.num.t,h.num.has⟩ ⟨h13.li.pulses,h13.li.clicks,i13,h13.li.sent,h13.li.took,h13.li.ledger,h13.li.kept,h13.li.slots,h13.li.decoys,h13.li.block⟩ Q Q Q Q;have f13:=h13.JA 43 (R (I ⟨E7,0,Z⟩) 1 1);have uz:=uy.keep (f13.kp hi);have f14:Frm τ τ w _ i:=((f11.trans (Frm.of Pu)).trans (Frm.of Ma)).trans f13;have Xu:=fr.on f14.out.size;have cS:=Qx Oa hi Xu 2 _ M uz (Qy ⟨iv.busy hb1,iv.last.2⟩ AC ⟨J,Int.ofNat_le.2 (YN W h.pool.at_.wd bits h.pool.at_.bl a.used x.side)⟩ hWl.out) hWs.out;clear h11 DO h13 Oa f11 f13 im uy uz i13 oj Pu;go_wp2_with fail;refine cS.mono ?_;rintro e Mt⟨x',v',rfl,hf,hs,hO,fx⟩;go_wp2;go_ret;exact .inr ⟨_,HS.out,DA.fin fr f14 (Fix.refl x) hf hs hO ⟨fx.s,fx.side,fx.pool⟩⟩
end
end Go.Proofs.YtjpidgffdkjjeaaGreat
