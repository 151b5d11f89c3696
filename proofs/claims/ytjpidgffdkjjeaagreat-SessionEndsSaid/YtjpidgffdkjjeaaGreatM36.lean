/- Contracts and plain laws. No condition. -/
import Derived.Test.YtjpidgffdkjjeaaGreatMA
import Derived.Test.YtjpidgffdkjjeaaGreatM35
set_option linter.all false
set_option maxHeartbeats 16000000
namespace Go.Proofs.YtjpidgffdkjjeaaGreat
open Go.Proofs.Tryz
open Go.Proofs.Tryz renaming prog->AE
open List renaming length->Y
open Go.World renaming cell?->E,setCell->Ai,alloc->Ao,frozen?->Bo
open Go.Value renaming int->U,slice->R,pointer->AI,agg->Ba,tuple->Be,nilFunc->Bl,bool->Av
open Go.IntKind renaming i64->O,u64->AA,u32->BF,u8->Cd
open Option renaming none->Z,some->I
open Go.Ending renaming returned->AN
open Go.Obj renaming cells->N
open Go renaming World->V,Value->An,Calls->AL,Addr->AS
open Go.RowKit renaming Below->Ag,Hid->Aj
open Go.RowKit Go.Maps
set_option maxRecDepth 100000
def rP{s:Nat}{n k:Int}(hn:0<=n):((NM s n k).length:Int)<=n:=by
 unfold NM;split
 ·rename_i h0
  have:=VV h0;rw[X5 J];omega
 ·simp;exact hn
def rQ(l:List Bool):(l.map EM).all okW=true:=by
 rw[EA];intro y hy;obtain⟨v,_,rfl⟩:=Ld.1 hy;cases v <;> decide
section
variable {τ:Nat→Nat} {w w':V} {i b W nb mb:Nat} {x:BR} {bits:List Bool} {a:Bb}
def Ae0(h:Bx τ w i b x W nb mb bits a)(hi:i≠0)(fr:BU τ w)(ok:Gi x.s W)(L:Nat)(hL:a.last=(L:Int))(hl:1<=L/\L<=1000)(Ae1:Bz Bf.ok a.clicks=0)
  (A:Option AS) (k:Nat) (ws:List Int) (hv:Imm 1 BD τ w (R A (Y ws) k) ws) (hw:ws.all okW=true) (lw:Y ws<=4096):
  AL AE 198 #[AI (I ⟨b,0,Z⟩),R A (Y ws) k] w fun e w'=>QD τ w i b W nb mb bits x ((x.z W bits).T9 a ws) e w':=by
 have FZ:=ok.n;obtain⟨S,hS⟩:=DV (show 0<=x.s.block by have:=FZ.block;omega);have hS1:1<=S/\S<=512:=by have:=FZ.block;omega
 have x22:E w ⟨b,22,Z⟩=I (U O S):=qrb hS (h.row.c 22);have x1:E w ⟨b,1,Z⟩=I (U O x.s.o.k):=h.row.c 1;by_cases hc:(Y ws=S)\/(S<Y ws/\x.s.o.k=1)
 case neg=>
  have e1:(x.z W bits).T9 a ws=Z:=by
   unfold AV.T9;rw[Bd (show¬((Y ws:Int)=(x.z W bits).s.block\/((x.z W bits).s.block<Y ws/\(x.z W bits).s.o.k=1))by rw[show(x.z W bits).s=x.s from rfl,hS];omega)]
  rw[e1];have g1:((Y ws:Int) == (S:Int))=false:=by simp;omega
  by_cases h2:S<Y ws
  focus
   have g2:decide ((S:Int)<(Y ws:Int))=true:=Er J
   have g2':decide (S<Y ws)=true:=Er h2;have g3:(x.s.o.k == 1)=false:=by simp;omega
  rotate_left
  focus
   have g2:decide ((S:Int)<(Y ws:Int))=false:=Ds J
   have g2':decide (S<Y ws)=false:=Ds h2
  rotate_left
  all_goals
   clear e1 hc h2;go_enter Tryz.func198,Tryz.ntmps198;go_wp2_with(go_at_call 220;refine(IT _).mono ?_;rintro e w2 ⟨⟨u,v,rfl⟩,hb2⟩);exact⟨Q,.inl ⟨rfl,⟨_,_,rfl⟩,hb2⟩⟩
 obtain⟨P,hP⟩:=Az ((x.z W bits).T9 a ws);rw[hP];have HP:=F hP;have Hc:=F hc;have HS:=F hS;have hSN:S<=Y ws:=J;clear hP hS;go_enter Tryz.func198,Tryz.ntmps198;go_upto_region 2 with fail;go_cut [5] (fun v5 wx=>v5=U O S/\wx=w)
 case first=>
  rcases hc with hE | ⟨h2,h3⟩
  ·have g1:((Y ws:Int) == (S:Int))=true:=by simp;omega
   clear hE;go_wp2_with(go_at_call 220;refine(FM _).mono ?_;rintro e w2 ⟨rfl,rfl⟩);go_meet
   case rel=>exact⟨rfl,rfl⟩
  ·have g1:((Y ws:Int) == (S:Int))=false:=by simp;omega
   have g2:decide ((S:Int)<(Y ws:Int))=true:=Er J;have g2':decide (S<Y ws)=true:=Er h2;have g3:(x.s.o.k == 1)=true:=by simp;omega
   rw[h3]at x1;clear h2 h3 g3;go_wp2_with(go_at_call 220;refine(FM _).mono ?_;rintro e w2 ⟨rfl,rfl⟩);go_meet
   case rel=>exact⟨rfl,rfl⟩
 obtain⟨hv5,hwc⟩:=hcut;subst hv5;subst hwc;obtain⟨A0,c0,MO,lk,mk,nk,hA,tA⟩:=hv;cases MO;have hne:ws≠[]:=fun e=>by rw[e]at hSN;simp at hSN;omega
 obtain⟨bk,off,rfl,BN,hcell⟩:=hA hne
 have OS:Arr 1 BD wc wc (I ⟨bk,off+S,Z⟩) (ws.drop S):=by
  have:=hA.part S (Y ws-S);rw[JK,EG AO]at this;exact this
 have arT:Arr 1 BD wc wc (I ⟨bk,off,Z⟩) (ws.take S):=by
  have:=hA.part 0 S;rw[Nat.zero_mul,Sz,List.drop_zero]at this;exact this
 obtain⟨w1,rfl⟩:=qgn wc;go_upto_region 4 with fail;go_cut [44,45,46] (fun v44 v45 v46 wx=>wx=w1/\v45=U O ((Y ws-S:Nat):Int)/\v46=U O 0/\∃A' c',v44=R A' (Y ws-S) c'/\Arr 1 BD w1 w1 A' (ws.drop S))
 case first=>
  by_cases hkS:k=S
  ·have hz:Y ws=S:=J
   have hd:ws.drop S=[]:=X6 J;subst hkS;have hz0:Y ws-k=0:=J;go_wp2_with fail;go_meet
   case rel=>exact⟨rfl,by rw[hz0];rfl,Q,I ⟨bk,off,Z⟩,0,by rw[hz0],qrf hd Arr.nil⟩
  ·go_wp2_with fail
   go_meet
   case rel=>exact⟨rfl,rfl,rfl,_,_,rfl,OS⟩
 obtain⟨hwe,h45,h46,A',c',h44,iG⟩:=hcut;subst h44 h45 h46 hwe;obtain⟨D,hD⟩:=Az (ws.drop S);have hDl:Y ws-S=Y D:=by rw[<-hD];simp
 have HD:=F hD;have HDl:=F hDl;have hDw:Aj (D.all okW=true):=F (by rw[<-hD,EA];exact fun y hy=>EA.1 hw y (List.mem_of_mem_drop hy));rw[hD]at iG;rw[hDl];have hD4:Y D<=4096:=J;clear hD hDl OS hne hcell;obtain⟨w1,rfl⟩:=qgn wc;go_upto_region 5 with fail;go_loopw [6,46] (fun ov iv wr=>∃j:Nat,j<=Y D/\iv=U O j/\Own wr w1 3 1 BD ov ((D.take j).map (· / 2))/\Ag w1 w1 wr) (fun _ iv _=>Y D-(intOf iv).toNat)
 case atStart=>exact⟨0,J,rfl,Own.nil,Ae _ _⟩
 case round=>
  obtain⟨j,hj,rfl,oj,Co⟩:=hrel;obtain⟨w8,rfl⟩:=qgn wr;by_cases hlt:j<Y D
  ·obtain⟨bq,ofq,q,rfl,hbq,hq,d0⟩:=iG.int hlt Co
   have hqo:=EA.1 hDw.out q (DI hq.out);obtain⟨n,rfl⟩:=Wi hqo;have hn5:n<=65535:=by unfold okW AR at hqo;have:=Ib hqo;omega
   have hst:Aj ((D.take (j+1)).map (· / 2)=(D.take j).map (· / 2)++ [(n:Int) / 2]):=F (by rw[GU,hq.out];simp);have Cm:(((D.take j).map (· / 2)).length+1)*8<=140737488355328:=by rw[Dz,DC];omega
   have IH:=Co.size;obtain⟨G0,hU⟩:∃G0:Int,(n:Int) / 2=G0:=⟨_,Q⟩
   rw[hU]at hst;have u0:wrap64 G0=G0:=Lg _ J;generalize(D.take j).map (· / 2)=M at*;go_wp2_with(at_builtin;refine Ef underlying37 Gr M G0 oj (On _) Cm IH ?_;intro v9 w9 CD BC);exact⟨⟨j+1,J,qgm,qrf hst.out CD,Co.trans BC⟩,qio⟩
  ·obtain rfl:j=Y D:=J
   rw[Ia]at oj;obtain⟨D2,hD2⟩:=Az (D.map (· / 2));have Ae2:Y D2<=4096:=by rw[<-hD2,Dz];exact hD4
   have HD2:=F hD2;have Ae3:Aj (Y D2=Y D):=F (by rw[<-hD2,Dz]);rw[hD2]at oj;obtain⟨A6,c6,rfl,l6,m6,n6,Jq⟩:=oj.form DY;have h8:=h.on Co;have Ki:=fr.on Co.size;obtain⟨Ac,cc,hcv,lc,mc,nc,arc,tgc⟩:=h8.li.clicks;have y42:E w8 ⟨b,42,Z⟩=I (R Ac (Y a.clicks) cc):=qrb hcv (h8.row.c 42);have y48:E w8 ⟨b,48,Z⟩=I (U O a.shift):=by rw[<-h.num.sh];exact h8.row.c 48
   have DG:=Va Ae1;obtain⟨T,hT⟩:=Az (ws.take S);have hTl:Y T=S:=by rw[<-hT,DC];omega
   have HT:=F hT;rw[hT]at arT;have rR:=arT.on Co;obtain⟨E1,Lk⟩:=Az (MJ a.clicks a.shift T);obtain⟨B1,hB1⟩:=Az (Iq a.clicks a.shift T);obtain⟨E2,Gs⟩:=Az (MJ a.clicks a.shift D2);obtain⟨B2,RK⟩:=Az (Iq a.clicks a.shift D2);have cR1:=qbw w8 fun y hy=>qV Ac cc a.clicks a.shift (I ⟨bk,off,Z⟩) k T y (arc.on hy) (rR.on hy) J J
   have cR2:=qbw w8 fun y hy=>qV Ac cc a.clicks a.shift A6 c6 D2 y (arc.on hy) (Jq.on hy) J J
   simp only[Lk,hB1,hTl]at cR1;simp only[Gs,RK]at cR2;have Ae4:Aj (Y B2<=Y D2):=F (by rw[<-RK];exact ir _ _ _);have HE1:=F Lk;have HB1:=F hB1;have HE2:=F Gs;have HB2:=F RK;have rS:E1=0->Y B1=S:=fun e=>by rw[<-hB1];unfold Iq;rw[Bd (Lk.trans e),Dz,hTl]
   have AjJ:Y B2<=4096:=by rw[<-RK];exact Br (ir _ _ _) Ae2
   have L42:=qbc y42;have L48:=qbc y48;have hSk:S<=k:=J;have S0:=(Ae w8 w8).drew;clear hT Lk hB1 Gs RK hD2 hTl arc arT rR Jq hcv tgc y42 y48 iG oj;go_upto_region 9 with fail;refine qrh w8 S0 fun hHeld=>?_
   refine tQ4 0 ?_;refine tQ4 4 ?_;refine tQ4 8 ?_;refine tQ 12 ?_;refine url 13 (fun KU Bc=>?_);go_simp;refine(cR1 _ S0).mono ?_;rintro e w9⟨v9,rfl,CD,Vb⟩;obtain⟨A9,c9,rfl,l9,m9,n9,Nx⟩:=CD.form Dk;have BC:=AH S0 Vb;refine Bc.out _ _ (BC) (fun _=>?_);refine zp ?_;refine tQ4 14 ?_;refine tQ 18 ?_;refine Ce ?_
   have EQ:Aj (P=if E1≠0 then Z else if E2≠0 then Z else I ((x.z W bits).send {a with block:=DN B1 ((x.z W bits).MN a),wait:=[5]} 4 ((DN B1 ((x.z W bits).NW a)++ B2).map EM))):=F (by
    rw[<-HP.out];unfold AV.T9;have e:(x.z W bits).s.block.toNat=S:=by rw[show(x.z W bits).s=x.s from rfl,HS.out];exact Ro S
    rw[AU (show¬¬((Y ws:Int)=(x.z W bits).s.block\/((x.z W bits).s.block<Y ws/\(x.z W bits).s.o.k=1))by rw[Xk,show(x.z W bits).s=x.s from rfl,HS.out];have:=Hc.out;omega),e,HT.out,HD.out,HD2.out,HE1.out,HB1.out,HE2.out,HB2.out])
   clear cR1;by_cases e1:E1=0
   case neg=>
    have g0:(E1 == 0)=false:=qsu e1;have hno:Aj (P=Z):=F (by rw[EQ.out,Bd e1]);go_wp2_with(go_at_call 220;refine(IT _).mono ?_;rintro e Bs ⟨⟨u,v,rfl⟩,CP⟩);exact⟨Q,.inl ⟨hno.out,⟨_,_,rfl⟩,AH (AH Co BC) CP⟩⟩
   subst e1;have rT:=rS Q;have Ae5:=F rT;clear rS rT;have S9:=BC.drew;go_upto_region 11 with(go_at_call 220;refine(FM _).mono ?_;rintro e w2 ⟨rfl,rfl⟩)
   refine qrh w8 S9 fun hHeld=>?_
   refine tQ4 0 ?_;refine tQ4 4 ?_;refine tQ2 8 ?_;refine tQ 10 ?_;refine url 11 (fun KU Bc=>?_);go_simp;refine(cR2 _ S9).mono ?_;rintro e Bs⟨v10,rfl,Th,QF⟩;obtain⟨DM,c10,rfl,l10,m10,n10,VT⟩:=Th.form Dk;have CP:=AH S9 QF;have Ae6:Ag w9 w9 Bs:=AH (Ae _ _).drew QF;refine Bc.out _ _ (CP) (fun _=>?_);refine zp ?_;refine tQ4 12 ?_;refine tQ 16 ?_;refine Ce ?_;clear cR2;by_cases e2:E2=0
   case neg=>
    have g0:(E2 == 0)=false:=qsu e2;have hno:Aj (P=Z):=F (by rw[EQ.out,AU AO,Bd e2]);go_wp2_with(go_at_call 220;refine(IT _).mono ?_;rintro e FW ⟨⟨u,v,rfl⟩,GH⟩);exact⟨Q,.inl ⟨hno.out,⟨_,_,rfl⟩,AH (AH Co CP) GH⟩⟩
   subst e2;have Kj:Aj (P=I ((x.z W bits).send {a with block:=DN B1 ((x.z W bits).MN a),wait:=[5]} 4 ((DN B1 ((x.z W bits).NW a)++ B2).map EM))):=F (by rw[EQ.out,AU AO,AU AO]);have h10:=h8.on CP;have NZ:=Ki.on CP.size;have cD:=rM h10 ok L hL hl.2 A9 c9 B1 (Nx.on Ae6) (by rw[Ae5.out,HS.out]);obtain⟨R1,Qg⟩:=Az (DN B1 ((x.z W bits).NW a));obtain⟨R2,FV⟩:=Az (DN B1 ((x.z W bits).MN a))
   have rU:Aj (Y R1<=S):=F (by
    rw[<-Qg];unfold DN;rw[Dz];have:=rP (s:=RZ x.s.seed a.last.toNat) (n:=x.s.block) (k:=x.s.sample) (by rw[HS.out];omega);rw[HS.out]at this;unfold AV.NW;rw[show(x.z W bits).s=x.s from rfl,HS.out];omega)
   rw[Qg,FV]at cD Kj;clear EQ Qg FV L42 L48 hHeld S0 S9 Vb;go_upto_region 13 with(go_at_call 220;refine(FM _).mono ?_;rintro e w2 ⟨rfl,rfl⟩)
   go_wp2_with fail;refine cD.mono ?_;rintro e FW⟨v1,v2,rfl,Ii,GZ,GH⟩;have h11:=h10.on GH;have iH:=NZ.on GH.size;have im2:=GZ.imm Dk (fun k hk=>NZ k hk);obtain⟨Ax,cx,rfl,lx,mx,nx,arx⟩:=Ii.form Dk;obtain⟨Ay,cy,rfl,ly,my,ny,ary⟩:=GZ.form Dk;have KW:=h11.row.c 52;have z52:=h11.row.fr 52;have f12:=h11.JA 52 (R Ay (Y R2) cy);have DO:=h11.setBlock hi (R Ay (Y R2) cy) R2 im2;have im1:=(Ii.imm Dk (fun k hk=>NZ k hk)).keep (f12.kp hi);have Pt:=((Th.imm Dk (fun k hk=>Ki k (Br BC.size hk))).keep (Kp.of GH)).keep (f12.kp hi);obtain⟨E7,SP⟩:=Az (FW.setCell ⟨b,52,Z⟩ (R Ay (Y R2) cy));have f012:Frm τ τ w1 E7 i:=by rw[<-SP];exact((Frm.of (AH Co CP)).trans (Frm.of GH)).trans f12
   go_upto_region 16 with fail;rw[SP]at DO im1 Pt
   try rw[SP]
   have rV:=fr.on f012.out.size;obtain⟨Ax',cx',ex,lx',mx',nx',rW,_⟩:=im1;cases ex;obtain⟨AjK,AjL,e10,AjM,AjN,Ae7,rX,_⟩:=Pt;cases e10;have Ma:=AB (Ae E7 E7) (N #[R Ax (Y R1) cx,R DM (Y B2) c10] 44);have q0:E (E7.alloc (N #[R Ax (Y R1) cx,R DM (Y B2) c10] 44)) ⟨E7,0,Z⟩=I (R Ax (Y R1) cx):=Cb Q;have q1:E (E7.alloc (N #[R Ax (Y R1) cx,R DM (Y B2) c10] 44)) ⟨E7,1,Z⟩=I (R DM (Y B2) c10):=Cb Q;have hRS:=rU.out;have cC:=AeZ E7 Ax DM cx c10 R1 B2 _ q0 q1 (rW.on Ma) (rX.on Ma) nx' Ae7 J J;obtain⟨C,hC⟩:=Az (R1++ B2)
   have hCl:Y C<=4096:=by
    rw[<-hC,KZ];have t1:=Ae4.out;have t2:=Ae3.out;have t3:=HDl.out;omega
   rw[hC]at cC Kj;clear Ii GZ Th CD im2 h10 h8 h11 hC KW z52 cD f12 SP Nx VT arx ary rW rX q0 q1;go_wp2_with fail;refine cC.mono ?_;rintro e Mr⟨v14,rfl,bS,O1⟩;obtain⟨A14,c14,rfl,l14,m14,n14,rY⟩:=bS.form Dk;have rZ:=AH Ma O1;have Oa:=DO.on rZ;have f014:=f012.trans (Frm.of rZ);have Xu:=fr.on f014.out.size;go_upto_region 17 with fail;go_loopw [14,110] (fun ov iv wr=>∃j:Nat,j<=Y C/\iv=U O j/\Own wr Mr 3 1 BD ov ((C.take j).map EM)/\Ag Mr Mr wr) (fun _ iv _=>Y C-(intOf iv).toNat)
   case atStart=>exact⟨0,J,rfl,Own.nil,Ae _ _⟩
   case round=>
    obtain⟨j,hj,rfl,oj,Pu⟩:=hrel;obtain⟨Mt,rfl⟩:=qgn wr;by_cases Qp:j<Y C
    ·obtain⟨bq,ofq,t,rfl,hbq,hq,d0⟩:=rY.bool Qp Pu
     have hst:Aj ((C.take (j+1)).map EM=(C.take j).map EM++ [EM t]):=F (by rw[GU,hq.out];simp);have Cm:(((C.take j).map EM).length+1)*8<=140737488355328:=by rw[Dz,DC];omega
     have IH:=Pu.size;have cB:=fun y=>bI t y
     obtain⟨G0,hU⟩:=Az (EM t);rw[hU]at hst;simp only[hU]at cB;clear hU;generalize(C.take j).map EM=M at*;go_wp2_with(first | (go_at_call 224;refine(cB _).mono ?_;rintro e w2 ⟨rfl,rfl⟩) | (at_builtin;refine Ef underlying37 Gr M G0 oj (On _) Cm IH ?_;intro v9 w16 CD bU));exact⟨⟨j+1,J,qgm,qrf hst.out CD,Pu.trans bU⟩,qio⟩
    ·obtain rfl:j=Y C:=J
     rw[Ia]at oj;have hWs:Aj ((C.map EM).all okW=true):=F (rQ C);have hWl:Aj ((C.map EM).length<=4096):=F (by rw[Dz];exact hCl);generalize C.map EM=M at*;have im:=oj.imm DY (fun k hk=>Xu k hk);obtain⟨A16,c16,rfl,l16,m16,n16,AjO⟩:=oj.form DY;have h15:=Oa.on Pu;have iI:=Xu.on Pu.size;obtain⟨Sf,Sg,GM,f17⟩:=h15.wait hi iI #[U O 5] 3 [5] Q AC;simp only[List.length_cons,List.length_nil,Nat.zero_add]at GM f17;have f017:=(f014.trans (Frm.of Pu)).trans f17;have TZ:=fr.on f017.out.size;have Z6:=im.keep (f17.kp hi);have KA:1<=a.last/\a.last<=1000:=by rw[hL];omega
     have cS:=Qx GM hi TZ 4 _ M Z6 (Qy KA AC (TY GM) hWl.out) hWs.out;clear h15 Oa DO GM im Z6 oj;go_wp2_with fail;refine cS.mono ?_;rintro e w18⟨x',v',rfl,hf,hs,hO,fx⟩;go_wp2_with fail;go_ret;exact .inr ⟨_,Kj.out,DA.send fr f017 (x1:={x with k:={x.k with block:= R Ay (Y R2) cy,wait:= R (I ⟨Mt,0,Z⟩) 1 1}}) ⟨rfl,rfl,rfl⟩ hf hs hO fx⟩
end
end Go.Proofs.YtjpidgffdkjjeaaGreat
