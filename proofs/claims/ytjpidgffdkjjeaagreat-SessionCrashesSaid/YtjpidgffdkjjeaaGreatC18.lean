/- Contracts and plain laws. No condition. -/
import Derived.Test.YtjpidgffdkjjeaaGreatCA
import Derived.Test.YtjpidgffdkjjeaaGreatC17
set_option linter.all false
set_option maxHeartbeats 16000000
namespace Go.Proofs.YtjpidgffdkjjeaaGreat
open Go.Proofs.Tryz
open Go.Proofs.Tryz renaming prog->AE
open List renaming length->Y
open Go.World renaming cell?->E,setCell->Ai,alloc->Ao,frozen?->Bo
open Go.Value renaming int->U,slice->R,pointer->AI,agg->Ba,tuple->Be,nilFunc->Bl,bool->Av
open Go.IntKind renaming i64->O,u64->AA,u32->BF,u8->Cd
open Option renaming none->Z,some->I
open Go.Ending renaming returned->AN
open Go.Obj renaming cells->N
open Go renaming World->V,Value->An,Calls->AL,Addr->AS
open Go.RowKit renaming Below->Ag,Hid->Aj
set_option maxRecDepth 100000
open Go.RowKit
def Ags:(prog.info? 162).map (·.size)=I 2:=AG
def Xw(dark:Int)(z:Bool × Bool × Nat):Nat->Bool × Bool × Nat
 | 0=>z
 | 1=>(z.1||En z.2.2 dark,z.2.1,Bk z.2.2)
 | _=>(z.1||En z.2.2 dark,z.2.1||En (Bk z.2.2) dark,Bk (Bk z.2.2))
def j5(b s:Nat)(o:Bw)(x:C7)(w:V)(h:Cs w b s)(hp:x.br=false->x.ph<=3):AL AE 216 #[o.val,Ba x,AI (I ⟨b,0,Z⟩)] w fun e w'=>
  e=AN (Ba #[U O (IX o.eta o.dark x s).1.basis,U O (IX o.eta o.dark x s).1.kind])/\Cs w' b (IX o.eta o.dark x s).2/\w.grownBy w' (I b):=by
 obtain⟨AF,hV⟩:=Az (IX o.eta o.dark x s);rw[hV];have HV:=F hV;clear hV;unfold Bw.val Bw.cs
 have D3:Cs (Ao (Ao (Ao w (N o.cs 54)) (N x 315)) (N #[U O 0,U O 0] 162)) b s:=
  ((h.keep (row:=Z) (JH _ _ Z) AO).keep (row:=Z) (JH _ _ Z) AO).keep (row:=Z) (JH _ _ Z) AO
 have cB:=Ve b s 2 _ D3 AC AC;unfold Bw.cs at cB;go_in;go_wp2_with fail;refine cB.mono ?_;rintro e w2⟨rfl,D2,g2⟩;have J0:=KJ.new w b s (Bk s) o x ((C9 s%2:Nat):Int) h D2 g2;clear cB D3 D2 g2;obtain⟨q,hq⟩:=Az (C9 s%2);obtain⟨s1,hs1⟩:=Az (Bk s);rw[hq];rw[hq,hs1]at J0;have Hq:=F hq;have Hs1:=F hs1;clear hq hs1;go_upto_region 3 with fail;obtain⟨W,hW⟩:=Az (Ao (Ao w2 (N #[U O q,U O 0] 162)) (N #[Av false,Av false] 356));rw[hW]at J0 ⊢;clear hW;obtain⟨By,hO⟩:=Az (w.heap.size);obtain⟨L,hL⟩:=Az (w.heap.size+1);obtain⟨AW,hR⟩:=Az (w.heap.size+1+1);obtain⟨C,hC⟩:=Az (w2.heap.size);obtain⟨AY,hF⟩:=Az (w2.heap.size+1);rw[hR,hL,hO,hF,hC]at J0 ⊢;clear hO hL hR hC hF h;obtain⟨PV,hPV⟩:=Az (Value.agg x);rw[hPV];clear hPV;have yb:=J0.l3;go_upto_if 16 with fail;go_cut [] (fun wx=>∃(f0 f1:Bool) (s9:Nat),Aj (IX o.eta o.dark x s=(⟨(q:Int),Tj f0 f1⟩,s9))/\KJ w wx b s9 By L AW C AY o x q 0 f0 f1)
 case first=>
  rcases(Bool.eq_false_or_eq_true x.br).symm with hbr | hbr
  ·rw[hbr]at yb ⊢
   have hp3:=hp hbr;have y0:=J0.l0;obtain⟨xb,MT⟩:=Az (x.basis);obtain⟨xt,hxt⟩:=Az (x.bit);have Hxb:=F MT;have Hxt:=F hxt;have Hbr:=F hbr;clear MT hxt hbr hp;obtain⟨sm,hsm⟩:=Az (decide ((q:Int)=x.basis));have Hsm:=F hsm;have Qv:Aj (((q:Int) != xb) = !sm):=F (by rw[<-hsm,Hxb.out];by_cases h9:(q:Int)=xb <;> simp[h9]);clear hsm;go_wp2_with fail;go_loopw [9,28] (fun at_ i wr=>∃(u9:An) (j s9:Nat) (z0 z1:Bool),j<=x.ph/\at_=u9/\i=U O j/\Aj (QG o.eta sm x.bit s1 j=(z0,z1,s9))/\KJ w wr b s9 By L AW C AY o x q 0 z0 z1) (fun _ i _=>x.ph-(intOf i).toNat);exact⟨_,0,s1,false,false,BM _,rfl,rfl,F rfl,J0⟩
   clear J0 y0 yb;obtain⟨u9,j,s9,z0,z1,hj,rfl,rfl,hz,Bi⟩:=hrel;obtain⟨wi,rfl⟩:=qgn wr;rcases D4 j x.ph with GD | D8
   ·have cC:=Vf b s9 o.eta wi Bi.d
    have yx:=Bi.o_.x16;have hst:Aj (QG o.eta sm x.bit s1 (j+1)=if En s9 o.eta=true then(if sm=true then(z0 || !x.bit,z1||x.bit,Bk s9)else(z0||decide (C9 (Bk s9)%2=0),z1||decide (C9 (Bk s9)%2=1),Bk (Bk s9)))else(z0,z1,Bk s9)):=F (by rw[QG,hz.out]);obtain⟨u,hu⟩:=Az (En s9 o.eta);rw[hu]at cC hst;clear hu;go_wp2_with fail;refine cC.mono ?_;rintro e w5⟨rfl,D5,g5⟩;have J5:=Bi.step D5 g5;clear Bi cC yx D5 g5;cases u
    ·have hs2:Aj (QG o.eta sm x.bit s1 (j+1)=(z0,z1,Bk s9)):=F (by rw[hst.out,AU AO])
     go_wp2_with fail;exact⟨⟨_,j+1,Bk s9,z0,z1,J,Q,qgm,hs2,J5⟩,qio⟩
    ·have y2:=J5.l2
     have y1:=J5.l1;have c0:=J5.c0;have g0:=J5.ff 0;have g1:=J5.ff 1;have h0:=J5.d0;have h1:=J5.d1;rw[Hxt.out]at y2;rw[Hxb.out]at y1;cases sm
     ·have d1:((q:Int) != xb)=true:=Qv.out
      have cS:=d6 xt w5;obtain⟨Gp,sN⟩:∃n:Int,(if xt=true then 1 else 0)=n:=⟨_,Q⟩
      rw[sN]at cS;clear sN;have cB:=Ve b (Bk s9) 2 w5 J5.d AC AC;obtain⟨r,hr⟩:=Az (C9 (Bk s9)%2);have hr2:r<2:=by rw[<-hr];exact IB _ AC
      rw[hr]at cB hst;have hs2:Aj (QG o.eta false x.bit s1 (j+1)=(z0||decide (r=0),z1||decide (r=1),Bk (Bk s9))):=F (by rw[hst.out,Bd Q,AU AO]);clear hr hst;go_upto_region 10 with(go_at_call 255;refine cS.mono ?_;rintro e w' ⟨rfl,rfl⟩)
      go_wp2_with fail;refine cB.mono ?_;rintro e w6⟨rfl,D6,g6⟩;have J6:=J5.step D6 g6;clear cB cS J5 D6 g6 y1 y2 c0 g0 g1 h0 h1 d1;have g0:=J6.ff 0;have g1:=J6.ff 1;have h0:=J6.d0;have h1:=J6.d1;rcases(show r=0\/r=1 by omega)with rfl | rfl
      ·have J7:=J6.Vj 0 (Av true) (e0:=true) (e1:=z1) Q
       have hs3:Aj (QG o.eta false x.bit s1 (j+1)=(true,z1,Bk (Bk s9))):=F (by rw[hs2.out];simp);clear hs2 J6 hr2;go_wp2_with fail;exact⟨⟨_,j+1,_,true,z1,J,Q,qgm,hs3,J7⟩,qio⟩
      ·have J7:=J6.Vj 1 (Av true) (e0:=z0) (e1:=true) Q
       have hs3:Aj (QG o.eta false x.bit s1 (j+1)=(z0,true,Bk (Bk s9))):=F (by rw[hs2.out];simp);clear hs2 J6 hr2;go_wp2_with fail;exact⟨⟨_,j+1,_,z0,true,J,Q,qgm,hs3,J7⟩,qio⟩
     ·have d1:((q:Int) != xb)=false:=Qv.out
      have cS:=d6 xt w5;have hs2:Aj (QG o.eta true x.bit s1 (j+1)=(z0 || !xt,z1||xt,Bk s9)):=F (by rw[hst.out,Bd Q,Bd Q,Hxt.out]);clear hst;cases xt
      ·have J6:=J5.Vj 0 (Av true) (e0:=true) (e1:=z1) Q
       have hs3:Aj (QG o.eta true x.bit s1 (j+1)=(true,z1,Bk s9)):=F (by rw[hs2.out];simp);clear hs2 J5;go_wp2_with(go_at_call 255;refine cS.mono ?_;rintro e w' ⟨rfl,rfl⟩);exact⟨⟨_,j+1,_,true,z1,J,Q,qgm,hs3,J6⟩,qio⟩
      ·have J6:=J5.Vj 1 (Av true) (e0:=z0) (e1:=true) Q
       have hs3:Aj (QG o.eta true x.bit s1 (j+1)=(z0,true,Bk s9)):=F (by rw[hs2.out];simp);clear hs2 J5;go_wp2_with(go_at_call 255;refine cS.mono ?_;rintro e w' ⟨rfl,rfl⟩);exact⟨⟨_,j+1,_,z0,true,J,Q,qgm,hs3,J6⟩,qio⟩
   ·obtain rfl:j=x.ph:=J
    go_wp2_with fail;go_loopw [10,11,48] (fun a_ d_ i wr=>∃(ua ud:An) (j s8:Nat) (e0 e1:Bool),j<=2/\a_=ua/\d_=ud/\i=U O j/\Aj (Xw o.dark (z0,z1,s9) j=(e0,e1,s8))/\KJ w wr b s8 By L AW C AY o x q 0 e0 e1) (fun _ _ i _=>2-(intOf i).toNat);exact⟨_,_,0,s9,z0,z1,J,rfl,rfl,rfl,F rfl,Bi⟩
    clear Bi;obtain⟨ua,ud,j,s8,e0,e1,hj2,rfl,rfl,rfl,hd,Bi⟩:=hrel;obtain⟨wk,rfl⟩:=qgn wr;rcases(show j=0\/j=1\/j=2 by omega)with rfl | rfl | rfl
    ·have cC:=Vf b s8 o.dark wk Bi.d
     have yx:=Bi.o_.x17;have hst:Aj (Xw o.dark (z0,z1,s9) 1=(e0||En s8 o.dark,e1,Bk s8)):=F (by have:=hd.out;simp only[Xw]at this ⊢;cases this;rfl);obtain⟨u,hu⟩:=Az (En s8 o.dark);rw[hu]at cC hst;clear hu;go_wp2_with fail;refine cC.mono ?_;rintro e w6⟨rfl,D6,g6⟩;have J6:=Bi.step D6 g6;clear Bi cC yx D6 g6;have g0:=J6.ff 0;have h0:=J6.d0;have J7:=J6.Vj 0 (Av (e0||u)) (e0:=e0||u) (e1:=e1) Q;clear J6;cases e0 <;> cases u
     all_goals(
      go_wp2_with fail;exact⟨⟨_,_,1,_,_,_,J,Q,Q,qgm,hst,J7⟩,by simp[intOf]⟩)
    ·have cC:=Vf b s8 o.dark wk Bi.d
     have yx:=Bi.o_.x17;have hst:Aj (Xw o.dark (z0,z1,s9) 2=(e0,e1||En s8 o.dark,Bk s8)):=F (by have:=hd.out;simp only[Xw]at this ⊢;cases this;rfl);obtain⟨u,hu⟩:=Az (En s8 o.dark);rw[hu]at cC hst;clear hu;go_wp2_with fail;refine cC.mono ?_;rintro e w6⟨rfl,D6,g6⟩;have J6:=Bi.step D6 g6;clear Bi cC yx D6 g6;have g0:=J6.ff 1;have h0:=J6.d1;have J7:=J6.Vj 1 (Av (e1||u)) (e0:=e0) (e1:=e1||u) Q;clear J6;cases e1 <;> cases u
     all_goals(
      go_wp2_with fail;exact⟨⟨_,_,2,_,_,_,J,Q,Q,qgm,hst,J7⟩,by simp[intOf]⟩)
    ·have hv:Aj (IX o.eta o.dark x s=(⟨(q:Int),Tj e0 e1⟩,s8)):=F (by
      have h1:=hd.out;simp only[Xw]at h1;unfold IX;rw[AU (by rw[Hbr.out];simp),Hq.out,Hs1.out,Hsm.out,hz.out];cases h1
      rfl)
     go_wp2;go_meet;exact⟨e0,e1,s8,hv,Bi⟩
  ·rw[hbr]at yb ⊢
   have y1:=J0.l1;have y2:=J0.l2;have z0:=J0.c0;have g0:=J0.ff 0;have g1:=J0.ff 1;have h0:=J0.d0;have h1:=J0.d1;obtain⟨eqb,he⟩:=Az (((q:Int) == x.basis));obtain⟨xb,MT⟩:=Az (x.basis);cases hbt:x.bit
   ·have hv:Aj (IX o.eta o.dark x s=(⟨(q:Int),Tj eqb false⟩,s1)):=F (by
     unfold IX;rw[Bd hbr,Hq.out,Hs1.out,hbt,<-he];by_cases h9:(q:Int)=x.basis <;> simp[h9,Tj])
    rw[hbt]at y2;have he2:((q:Int) == xb)=eqb:=qrb MT he;rw[MT]at y1;have cS:=d6 false W.drew;have J1:=(J0.drew).Vj 0 (Av eqb) (e0:=eqb) (e1:=false) Q;clear hp J0 he MT;go_wp2_with fail;go_region_with (go_at_call 255;refine cS.mono ?_;rintro e w' ⟨rfl,rfl⟩)
    all_goals(
     go_wp2;go_meet;exact⟨eqb,false,s1,hv,J1⟩)
   ·have hv:Aj (IX o.eta o.dark x s=(⟨(q:Int),Tj false eqb⟩,s1)):=F (by
     unfold IX;rw[Bd hbr,Hq.out,Hs1.out,hbt,<-he];by_cases h9:(q:Int)=x.basis <;> simp[h9,Tj])
    rw[hbt]at y2;have he2:((q:Int) == xb)=eqb:=qrb MT he;rw[MT]at y1;have cS:=d6 true W.drew;have J1:=(J0.drew).Vj 1 (Av eqb) (e0:=false) (e1:=eqb) Q;clear hp J0 he MT;go_wp2_with fail;go_region_with (go_at_call 255;refine cS.mono ?_;rintro e w' ⟨rfl,rfl⟩)
    all_goals(
     go_wp2;go_meet
     case rel=>exact⟨false,eqb,s1,hv,J1⟩)
 case rest=>
  clear yb J0 hp;obtain⟨f0,f1,s9,hv,Bi⟩:=hcut;cases f0 <;> cases f1
  focus
   have y0:E wc ⟨AY,0,Z⟩=I (Av false):=Bi.d0
   have y1:E wc ⟨AY,1,Z⟩=I (Av false):=Bi.d1;have c1:E wc ⟨C,1,Z⟩=I (U O 0):=Bi.c1;have cf:=Bi.cf 1;go_upto_region 23 with fail;clear y1 c1 cf;have c0:=Bi.c0;have c1:E wc ⟨C,1,Z⟩=I (U O 0):=Bi.c1;have r0:=Bi.r0;have r1:=Bi.r1;have rf0:=Bi.rf 0;have rf1:=Bi.rf 1;have JF:=Bi.fin (U O q) (U O 0);have hW:=HV.out.symm.trans hv;go_wp2_with fail;refine qti ?_;subst hW;refine De (v:= Ba #[U O q,U O 0]) ?_ Q ⟨rfl,JF.1,JF.2.1⟩
  rotate_left
  focus
   have y0:E wc ⟨AY,0,Z⟩=I (Av false):=Bi.d0
   have y1:E wc ⟨AY,1,Z⟩=I (Av true):=Bi.d1;have c1:E wc ⟨C,1,Z⟩=I (U O 0):=Bi.c1;have cf:=Bi.cf 1;have J2:=Bi.d8 2;go_upto_region 23 with fail;obtain⟨u2,hu2⟩:=Az (Ai wc ⟨C,1,Z⟩ (U O 2));rw[hu2]at J2 ⊢;clear hu2 y1 c1 cf;have c0:=J2.c0;have c1:E u2 ⟨C,1,Z⟩=I (U O 2):=J2.c1;have r0:=J2.r0;have r1:=J2.r1;have rf0:=J2.rf 0;have rf1:=J2.rf 1;have JF:=J2.fin (U O q) (U O 2);have hW:=HV.out.symm.trans hv;go_wp2_with fail;refine qti ?_;subst hW;refine De (v:= Ba #[U O q,U O 2]) ?_ Q ⟨rfl,JF.1,JF.2.1⟩
  rotate_left
  focus
   have y0:E wc ⟨AY,0,Z⟩=I (Av true):=Bi.d0
   have y1:E wc ⟨AY,1,Z⟩=I (Av false):=Bi.d1;have c1:E wc ⟨C,1,Z⟩=I (U O 0):=Bi.c1;have cf:=Bi.cf 1;have J1:=Bi.d8 1;go_upto_region 21 with fail;obtain⟨u1,hu1⟩:=Az (Ai wc ⟨C,1,Z⟩ (U O 1));rw[hu1]at J1 ⊢;clear hu1 y0 y1 c1 cf;have y1:E u1 ⟨AY,1,Z⟩=I (Av false):=J1.d1;have c1:E u1 ⟨C,1,Z⟩=I (U O 1):=J1.c1;have cf:=J1.cf 1;go_upto_region 23 with fail;clear y1 c1 cf;have c0:=J1.c0;have c1:E u1 ⟨C,1,Z⟩=I (U O 1):=J1.c1;have r0:=J1.r0;have r1:=J1.r1;have rf0:=J1.rf 0;have rf1:=J1.rf 1;have JF:=J1.fin (U O q) (U O 1);have hW:=HV.out.symm.trans hv;go_wp2_with fail;refine qti ?_;subst hW;refine De (v:= Ba #[U O q,U O 1]) ?_ Q ⟨rfl,JF.1,JF.2.1⟩
  rotate_left
  focus
   have y0:E wc ⟨AY,0,Z⟩=I (Av true):=Bi.d0
   have y1:E wc ⟨AY,1,Z⟩=I (Av true):=Bi.d1;have c1:E wc ⟨C,1,Z⟩=I (U O 0):=Bi.c1;have cf:=Bi.cf 1;have J1:=Bi.d8 1;go_upto_region 21 with fail;obtain⟨u1,hu1⟩:=Az (Ai wc ⟨C,1,Z⟩ (U O 1));rw[hu1]at J1 ⊢;clear hu1 y0 y1 c1 cf;have y1:E u1 ⟨AY,1,Z⟩=I (Av true):=J1.d1;have c1:E u1 ⟨C,1,Z⟩=I (U O 1):=J1.c1;have cf:=J1.cf 1;have J2:=J1.d8 3;go_upto_region 23 with fail;obtain⟨u2,hu2⟩:=Az (u1.setCell ⟨C,1,Z⟩ (U O 3));rw[hu2]at J2 ⊢;clear hu2 y1 c1 cf;have c0:=J2.c0;have c1:E u2 ⟨C,1,Z⟩=I (U O 3):=J2.c1;have r0:=J2.r0;have r1:=J2.r1;have rf0:=J2.rf 0;have rf1:=J2.rf 1;have JF:=J2.fin (U O q) (U O 3);have hW:=HV.out.symm.trans hv;go_wp2_with fail;refine qti ?_;subst hW;refine De (v:= Ba #[U O q,U O 3]) ?_ Q ⟨rfl,JF.1,JF.2.1⟩
  rotate_left
  all_goals
   exact WX Q _ _ AW _ _ _ _ Q JF.2.2 Tryz.underlying162 Q Ags
def Agt:(prog.info? 162).map (fun i=>(i.zero,i.size,i.bytes))=I (I (Ba #[U O 0,U O 0]),2,16):=AG
def Oc:Bf:=⟨0,0⟩
def Arr.lgt{w w':V}{B:Nat}{A:Option AS}{k:Nat}{l:List C7}(h:Arr 4 C7.enc w B A l)(hk:k<Y l)(hb:Ag B w w'):
  ∃b off x,A=I ⟨b,off,Z⟩/\b<B/\Aj (l[k]?=I x)/\E w' ⟨b,off+k*4,Z⟩=I (U O x.ph)/\E w' ⟨b,off+k*4+1,Z⟩=I (U O x.basis)/\
   E w' ⟨b,off+k*4+2,Z⟩=I (Av x.bit)/\E w' ⟨b,off+k*4+3,Z⟩=I (Av x.br):=by
 obtain⟨b,off,rfl,BN,hc⟩:=h.get hk hb;exact⟨b,off,_,Q,BN,F (CH hk),hc 0 _ Q,hc 1 _ Q,hc 2 _ Q,hc 3 _ Q⟩
theorem sP{eta dark sh:Int}{l:List C7}{s k:Nat}:∀{n:Nat},k<n->(Eu eta dark l sh s n).1[k]?=I (IX eta dark (PA l sh k) (Eu eta dark l sh s k).2).1
 | 0,h=>by omega
 | n+1,h=>by
  have hn:=Za eta dark l sh s n;rw[Eu];simp only;by_cases e:k=n
  ·grind
  ·rw[Xe J]
   exact sP J
structure LM(B:Nat)(W:V)(b By g n s:Nat)(o:Bw)(outs:List Bf):Prop where
 d:Cs W b s
 o_:CC W By o
 c:Go.Proofs.YtjpidgffdkjjeaaGreat.Own W B 162 2 Bf.enc (R (I ⟨g,0,Z⟩) n n) outs
 lb:B<=b/\B<=↑W
section
variable {B:Nat} {W W':V} {b By g n s s':Nat} {o:Bw} {outs:List Bf}
theorem LM.row(h:LM B W b By g n s o outs):∃cs,B<=g/\W.heap[g]?=I (N cs 162 (0,0)):=by
 rcases h.c.2 with⟨h0,_⟩ | ⟨g',cap,cur,h0,hb,hg,_⟩
 all_goals grind
theorem LM.grown(h:LM B W b By g n s o outs)(hd:Cs W' b s')(hg:W.grownBy W' (I b)):LM B W' b By g n s' o outs:=by
 obtain⟨cs,h1,h2⟩:=h.row;have n1:=KX h2 h.d AC;have n2:=KX h.o_ h.d AC;exact⟨hd,(hg.block _ (Bm.1 h.o_).1 (by grind)).trans h.o_,h.c.keep hg (.inr (by simp[Value.ownBlock];exact n1)),⟨h.lb.1,by have:=hg.size;grind⟩⟩
def LM.alloc(h:LM B W b By g n s o outs)(ob:Obj):LM B (Ao W ob) b By g n s o outs:=h.grown (h.d.keep (row:=Z) (JH _ _ Z) AO) (JH _ _ _)
theorem LM.turn(h:LM B W b By g n s o outs){X:Nat}{cs:Array An}(hX:W.heap[X]?=I (N cs 315 (0,0)))(hg:W.grownBy W' (I X)):LM B W' b By g n s o outs:=by
 obtain⟨cs',h1,h2⟩:=h.row;have n1:=KX h2 hX AC;have n2:=KX h.o_ hX AC;have n3:=KX hX h.d AC;exact⟨h.d.keep hg (by grind),(hg.block _ (Bm.1 h.o_).1 (by grind)).trans h.o_,h.c.keep hg (.inr (by simp[Value.ownBlock];exact n1)),⟨h.lb.1,by have:=hg.size;grind⟩⟩
theorem LM.set(h:LM B W b By g n s o outs)(hl:Y outs=n){k:Nat}{x:Bf}(hx:outs[k]?=I x)(x':Bf):
  LM B (Ai (Ai W ⟨g,k*2,Z⟩ (U O x'.basis)) ⟨g,k*2+1,Z⟩ (U O x'.kind)) b By g n s o (outs.set k x')/\
  (∀{x:V},Ag B x W->Ag B x (Ai (Ai W ⟨g,k*2,Z⟩ (U O x'.basis)) ⟨g,k*2+1,Z⟩ (U O x'.kind))):=by
 have hk:=(EF.1 hx).1;obtain⟨cs,hBg,hg⟩:=h.row;have hG:W.grownBy (Ai (Ai W ⟨g,k*2,Z⟩ (U O x'.basis)) ⟨g,k*2+1,Z⟩ (U O x'.kind)) (I g):=Fj (Dt W g _ _) (Dt _ g _ _);have o1:=h.c.TH hl Bf.BY (x':=⟨x'.basis,x.kind⟩) hx (j:=0) (u:= U O x'.basis) AC Q;have o2:=o1.TH (by grind) Bf.BY (x':=x') (da hk) (j:=1) (u:= U O x'.kind) AC Q;rw[List.set_set]at o2;have n1:=KX h.d hg AC;have n2:=KX h.o_ hg AC;exact⟨⟨h.d.keep hG (by grind),(hG.block _ (Bm.1 h.o_).1 (by grind)).trans h.o_,o2,⟨h.lb.1,by have:=hG.size;grind⟩⟩,fun hb=>hb.grown hG h.lb.2 (fun j hj=>by grind)⟩
end
def Agu(o:Bw)(A:Option AS)(cA:Nat)(l:List C7)(sh:Int)(s:Nat)(w:V)(ho:Jh o=true)(hA:Arr 4 C7.enc w w A l)(hl:Y l<=4096)(BI:l.all C7.ok=true)(hs1: -16<=sh)(hs2:sh<=16):
  AL AE 173 #[o.val,R A (Y l) cA,U O sh,U AA s] w fun e w'=>∃v,e=AN (Be #[v,U O 0])/\Own w' w 162 2 Bf.enc v (Eu o.eta o.dark l sh s (Y l)).1/\Ag w w w':=by
 have KE:=F BI;clear BI;have Ci:=F (CC.new w o);have hb0:=AB (Ae w w) (N o.cs 54);have cC:=Yf o (Ao w (N o.cs 54));have e0:FG o=0:=by unfold FG;rw[Bd ho]
 rw[e0]at cC;have d1:decide (sh < -16)=false:=by simp;omega
 have d2:decide (16<sh)=false:=by simp;omega
 have d3:decide (4096<(Y l:Int))=false:=by simp;omega
 unfold Bw.val Bw.cs at*;go_in;go_wp2_with(refine qlr 54 Ci underlying54 ?_);refine gqz cC fun w1 hb1=>?_;have Nq:=Ci.out.on hb1;have q1:=AH hb0 hb1;clear cC Ci hb0 hb1 e0 ho;go_wp2_with fail;go_loopw [34] (fun i wr=>∃k:Nat,k<=Y l/\i=U O k/\Ag w1 w1 wr) (fun i _=>Y l-(intOf i).toNat);exact⟨0,BM _,rfl,Ae _ _⟩
 obtain⟨k,hk,rfl,hb⟩:=hrel;obtain⟨wi,rfl⟩:=qgn wr;rcases D4 k (Y l)with hlt | D8
 ·obtain⟨bp,op,x,rfl,BN,hx,x0,x1,x2,x3⟩:=hA.lgt hlt (AH q1 hb)
  have hxo:=EA.1 KE _ (DI hx);unfold C7.ok at hxo;simp only[AR,Bool.and_eq_true,decide_eq_true_eq]at hxo;obtain⟨⟨a1,a2⟩,a3⟩:=hxo;have e1:decide (x.basis<0)=false:=by simp;omega
  have e2:decide (1<x.basis)=false:=by simp;omega
  have e3:decide ((x.ph:Int)<0)=false:=AO;have e4:decide ((3:Int)<(x.ph:Int))=false:=by simp;omega
  have q7:=AB hb (N x 315);go_wp2_with fail;exact⟨⟨k+1,J,qgm,q7⟩,qio⟩
 ·obtain rfl:k=Y l:=J
  have Fy:=Nq.on hb;have q2:=AH q1 hb;clear Nq q1 hb;go_wp2_with fail;refine gqz (TJ s wi) fun w3 hw3=>?_;have D3:Cs w3 wi s:=qrf hw3 (Cs.new wi s);have q3:Ag w w w3:=by rw[hw3];exact AB q2 _
  have EH:CC w3 w o:=by rw[hw3];exact Fy.on (AB (Ae _ _) _)
  have BN:=q2.size;generalize wi.heap.size=b at*;clear hw3 q2 Fy;go_upto_region 16 with(at_make;refine qmK underlying81 Agt Bf.BY Oc (Y l) ?_;intro w7 Mm Cl)
  have q7:=AH q3 Cl;have O7:LM w w7 b w w3 (Y l) s o (List.replicate (Y l) Oc):=⟨D3.on Cl,EH.on Cl,Go.Proofs.YtjpidgffdkjjeaaGreat.Own.down Mm q3.size,⟨BN,q7.size⟩⟩
  generalize w3.heap.size=g at*;clear D3 q3 EH BN Mm Cl;have Cm:(Eu o.eta o.dark l sh s (Y l)).1.length=Y l:=Za _ _ _ _ _ _;have st0:Aj (Dm (Eu o.eta o.dark l sh s (Y l)).1 Oc 0=List.replicate (Y l) Oc):=F (by rw[Ug,Cm]);have Hln:=F Cm;clear Cm;go_wp2_with fail;go_loopw [64] (fun i wr=>∃k:Nat,k<=Y l/\i=U O k/\LM w wr b w g (Y l) (Eu o.eta o.dark l sh s k).2 o (Dm (Eu o.eta o.dark l sh s (Y l)).1 Oc k)/\Ag w w wr) (fun i _=>Y l-(intOf i).toNat);exact⟨0,BM _,rfl,qrf st0.out O7,q7⟩
  clear O7 q7 hk D8;obtain⟨k,hk,rfl,By,hb⟩:=hrel;obtain⟨wo,rfl⟩:=qgn wr;rcases D4 k (Y l)with hlt | D8
  ·have hat:=F (sP (eta:=o.eta) (dark:=o.dark) (sh:=sh) (l:=l) (s:=s) hlt)
   have hst:=F (show Eu o.eta o.dark l sh s (k+1)=((Eu o.eta o.dark l sh s k).1++ [(IX o.eta o.dark (PA l sh k) (Eu o.eta o.dark l sh s k).2).1],(IX o.eta o.dark (PA l sh k) (Eu o.eta o.dark l sh s k).2).2)from rfl);obtain⟨s5,hs5⟩:=Az ((Eu o.eta o.dark l sh s k).2);rw[hs5]at By hat hst;clear hs5;have Cw:Aj ((Dm (Eu o.eta o.dark l sh s (Y l)).1 Oc k).length=Y l):=F (by rw[Sv _ _ (by rw[Hln.out];omega)];exact Hln.out);have Ha:=F (Ts (L:=(Eu o.eta o.dark l sh s (Y l)).1) Oc (k:=k) (qrf Hln.out hlt));have PC:=F (Tr Oc hat)
   have Xx:Aj ((PA l sh k).br=false->(PA l sh k).ph<=3):=F (fun _=>by
    unfold PA;split
    ·cases h9:l[((k:Int)-sh).toNat]? with
     | none=>exact BM _
     | some y=>
      have:=EA.1 KE _ (DI h9);unfold C7.ok at this;simp only[Bool.and_eq_true,decide_eq_true_eq]at this;exact this.2
    ·exact BM _)
   go_upto_region 20 with fail;have O2:=By.alloc (N #[U O 0,U O 0,Av false,Av false] 315);have hb2:=AB hb (N #[U O 0,U O 0,Av false,Av false] 315);have hX:=World.alloc_heap_new wo (N #[U O 0,U O 0,Av false,Av false] 315);obtain⟨W1,hW1⟩:=Az (Ao wo (N #[U O 0,U O 0,Av false,Av false] 315));obtain⟨X,hXn⟩:=Az (wo.heap.size);have hbX:↑w<=X:=qrb hXn hb.size;rw[hW1,hXn]at hX;rw[hW1]at O2 hb2;rw[hW1,hXn];clear hW1 hXn By hb;go_cut [17] (fun v wx=>v=U O ((k:Int)-sh)/\wx=W1)
   case first=>
    go_wp2;go_meet
    case rel=>exact⟨rfl,rfl⟩
   case rest=>
    obtain⟨rfl,hwc⟩:=hcut;rw[<-hwc]at O2 hX hb2;clear hwc W1;have xx0:E wc ⟨X,0,Z⟩=I (U O 0):=AX _ _ _ _ _ _ hX;have xx1:E wc ⟨X,1,Z⟩=I (U O 0):=AX _ _ _ _ _ _ hX;have xx2:E wc ⟨X,2,Z⟩=I (Av false):=AX _ _ _ _ _ _ hX;have xx3:E wc ⟨X,3,Z⟩=I (Av false):=AX _ _ _ _ _ _ hX;by_cases h1:0<=(k:Int)-sh
    ·obtain⟨m,hm⟩:∃m:Nat,(k:Int)-sh=(m:Int):=⟨((k:Int)-sh).toNat,J⟩
     by_cases h2:m<Y l
     ·obtain⟨bp,op,x,rfl,BN,hx,x0,x1,x2,x3⟩:=hA.lgt h2 hb2
      have Mh:Aj (PA l sh k=x):=F (by unfold PA;rw[Bd h1,hm,Ro,hx.out];rfl);clear h1 hx;have ff0:Bo wc ⟨X,0,Z⟩=false:=CJ _ _ _ _ _ hX;have ff1:Bo wc ⟨X,1,Z⟩=false:=CJ _ _ _ _ _ hX;have ff2:Bo wc ⟨X,2,Z⟩=false:=CJ _ _ _ _ _ hX;have ff3:Bo wc ⟨X,3,Z⟩=false:=CJ _ _ _ _ _ hX;go_upto_region 23 with fail;have hG:wc.grownBy (Ai (Ai (Ai (Ai wc ⟨X,0,Z⟩ (U O x.ph)) ⟨X,1,Z⟩ (U O x.basis)) ⟨X,2,Z⟩ (Av x.bit)) ⟨X,3,Z⟩ (Av x.br)) (I X):=Fj (Fj (Fj (Dt wc X _ _) (Dt _ X _ _)) (Dt _ X _ _)) (Dt _ X _ _);have O3:=O2.turn hX hG;have hb3:=hb2.grown hG hb2.size (fun j hj=>by cases hj;exact hbX);have a1:(Ai wc ⟨X,0,Z⟩ (U O x.ph)).heap[X]?=I (N #[U O x.ph,U O 0,Av false,Av false] 315 (0,0)):=CM _ _ 0 _ _ _ hX;have a2:(Ai (Ai wc ⟨X,0,Z⟩ (U O x.ph)) ⟨X,1,Z⟩ (U O x.basis)).heap[X]?=I (N #[U O x.ph,U O x.basis,Av false,Av false] 315 (0,0)):=CM _ _ 1 _ _ _ a1;have a3:(Ai (Ai (Ai wc ⟨X,0,Z⟩ (U O x.ph)) ⟨X,1,Z⟩ (U O x.basis)) ⟨X,2,Z⟩ (Av x.bit)).heap[X]?=I (N #[U O x.ph,U O x.basis,Av x.bit,Av false] 315 (0,0)):=CM _ _ 2 _ _ _ a2;have a4:(Ai (Ai (Ai (Ai wc ⟨X,0,Z⟩ (U O x.ph)) ⟨X,1,Z⟩ (U O x.basis)) ⟨X,2,Z⟩ (Av x.bit)) ⟨X,3,Z⟩ (Av x.br)).heap[X]?=I (N x 315 (0,0)):=CM _ _ 3 _ _ _ a3;obtain⟨W3,hW3⟩:=Az (Ai (Ai (Ai (Ai wc ⟨X,0,Z⟩ (U O x.ph)) ⟨X,1,Z⟩ (U O x.basis)) ⟨X,2,Z⟩ (Av x.bit)) ⟨X,3,Z⟩ (Av x.br));rw[hW3]at O3 hb3 a4 ⊢;clear hW3 a1 a2 a3 hG O2 hb2 hX xx0 xx1 xx2 xx3 ff0 ff1 ff2 ff3 x0 x1 x2 x3;have xx0:E W3 ⟨X,0,Z⟩=I (U O x.ph):=AX _ _ _ _ _ _ a4;have xx1:E W3 ⟨X,1,Z⟩=I (U O x.basis):=AX _ _ _ _ _ _ a4;have xx2:E W3 ⟨X,2,Z⟩=I (Av x.bit):=AX _ _ _ _ _ _ a4;have xx3:E W3 ⟨X,3,Z⟩=I (Av x.br):=AX _ _ _ _ _ _ a4;clear a4;have At9:=F O3.o_;have cK:=j5 b s5 o x W3 O3.d (qrb Mh.out Xx);obtain⟨K,hK⟩:=Az (IX o.eta o.dark x s5);have Vk:Aj ((Dm (Eu o.eta o.dark l sh s (Y l)).1 Oc k).set k K.1=Dm (Eu o.eta o.dark l sh s (Y l)).1 Oc (k+1)):=F (by rw[<-hK,<-Mh.out];exact PC.out);have CW:Aj ((Eu o.eta o.dark l sh s (k+1)).2=K.2):=F (by rw[<-hK,<-Mh.out,hst.out]);rw[hK]at cK;clear hK PC hst hat Xx Mh;unfold Bw.val Bw.cs at cK;go_wp2_with(refine qlr 54 At9 underlying54 ?_);refine cK.mono ?_;rintro e w9⟨rfl,D9,g9⟩;have O9:=O3.grown D9 g9;have BC:=hb3.grown g9 hb3.size (fun j hj=>by cases hj;exact O3.lb.1);obtain⟨O10,B10⟩:=O9.set Cw Ha K.1;rw[Vk.out]at O10;have CP:=B10 BC;have z0:E w9 ⟨g,k*2,Z⟩=I (U O 0):=O9.c.OI Cw Bf.BY Ha (j:=0) Q;have z1:E w9 ⟨g,k*2+1,Z⟩=I (U O 0):=O9.c.OI Cw Bf.BY Ha (j:=1) Q;have f0:=O9.c.OJ Cw (k*2);have f1:=O9.c.OJ Cw (k*2+1);clear cK At9 D9 g9 O3 hb3 O9 B10 BC Cw Ha Vk;go_wp2_with fail;exact⟨⟨k+1,J,qgm,qrf CW.out O10,CP⟩,qio⟩
     ·skip
      have Mh:Aj (PA l sh k=IW):=F (by unfold PA;rw[Bd h1,hm,Ro,QO J];rfl);clear h1;have At9:=F O2.o_;have cK:=j5 b s5 o IW wc O2.d (qrb Mh.out Xx);obtain⟨K,hK⟩:=Az (IX o.eta o.dark IW s5);have Vk:Aj ((Dm (Eu o.eta o.dark l sh s (Y l)).1 Oc k).set k K.1=Dm (Eu o.eta o.dark l sh s (Y l)).1 Oc (k+1)):=F (by rw[<-hK,<-Mh.out];exact PC.out);have CW:Aj ((Eu o.eta o.dark l sh s (k+1)).2=K.2):=F (by rw[<-hK,<-Mh.out,hst.out]);rw[hK]at cK;clear hK PC hst hat Xx Mh;unfold Bw.val Bw.cs at cK;unfold IW at cK;go_wp2_with(refine qlr 54 At9 underlying54 ?_);refine cK.mono ?_;rintro e w9⟨rfl,D9,g9⟩;have O9:=O2.grown D9 g9;have BC:=hb2.grown g9 hb2.size (fun j hj=>by cases hj;exact O2.lb.1);obtain⟨O10,B10⟩:=O9.set Cw Ha K.1;rw[Vk.out]at O10;have CP:=B10 BC;have z0:E w9 ⟨g,k*2,Z⟩=I (U O 0):=O9.c.OI Cw Bf.BY Ha (j:=0) Q;have z1:E w9 ⟨g,k*2+1,Z⟩=I (U O 0):=O9.c.OI Cw Bf.BY Ha (j:=1) Q;have f0:=O9.c.OJ Cw (k*2);have f1:=O9.c.OJ Cw (k*2+1);clear cK At9 D9 g9 O2 hb2 O9 B10 BC Cw Ha Vk;go_wp2_with fail;exact⟨⟨k+1,J,qgm,qrf CW.out O10,CP⟩,qio⟩
    ·skip
     have Mh:Aj (PA l sh k=IW):=F (by unfold PA;rw[AU h1]);clear hX;have At9:=F O2.o_;have cK:=j5 b s5 o IW wc O2.d (qrb Mh.out Xx);obtain⟨K,hK⟩:=Az (IX o.eta o.dark IW s5);have Vk:Aj ((Dm (Eu o.eta o.dark l sh s (Y l)).1 Oc k).set k K.1=Dm (Eu o.eta o.dark l sh s (Y l)).1 Oc (k+1)):=F (by rw[<-hK,<-Mh.out];exact PC.out);have CW:Aj ((Eu o.eta o.dark l sh s (k+1)).2=K.2):=F (by rw[<-hK,<-Mh.out,hst.out]);rw[hK]at cK;clear hK PC hst hat Xx Mh;unfold Bw.val Bw.cs at cK;unfold IW at cK;go_wp2_with(refine qlr 54 At9 underlying54 ?_);refine cK.mono ?_;rintro e w9⟨rfl,D9,g9⟩;have O9:=O2.grown D9 g9;have BC:=hb2.grown g9 hb2.size (fun j hj=>by cases hj;exact O2.lb.1);obtain⟨O10,B10⟩:=O9.set Cw Ha K.1;rw[Vk.out]at O10;have CP:=B10 BC;have z0:E w9 ⟨g,k*2,Z⟩=I (U O 0):=O9.c.OI Cw Bf.BY Ha (j:=0) Q;have z1:E w9 ⟨g,k*2+1,Z⟩=I (U O 0):=O9.c.OI Cw Bf.BY Ha (j:=1) Q;have f0:=O9.c.OJ Cw (k*2);have f1:=O9.c.OJ Cw (k*2+1);clear cK At9 D9 g9 O2 hb2 O9 B10 BC Cw Ha Vk;go_wp2_with fail;exact⟨⟨k+1,J,qgm,qrf CW.out O10,CP⟩,qio⟩
  ·obtain rfl:k=Y l:=J
   have hout:=By.c;rw[Uh _ _ (by rw[Hln.out];exact Bg _)]at hout;go_wp2;go_ret2;exact⟨_,Q,hout,hb⟩
def Agy{l:List C5}{k:Nat}{r:C5}(h:l[k]?=I r):Iw (l.drop k)=if r.k=3 then r.a*(1-2*r.b)else Iw (l.drop (k+1)):=by
 obtain⟨hk,rfl⟩:=EF.1 h;rw[PI hk,Iw]
def Agz(A:Option AS)(c:Nat)(l:List C5)(w:V)(hA:Arr 5 C5.enc w w A l)(hr:LZ l=0)(hr2:l.all DU=true)(hr3:Y l<=32):
  AL AE 171 #[R A (Y l) c] w fun e w'=>e=AN (Be #[U O (Iw l),U O 0])/\Ag w w w':=by
 have cR:=ZV A c l w hA J;rw[hr]at cR;have Hr2:=F hr2;clear hr hr2;go_in;go_wp2_with fail;refine gqz cR fun w1 hb1=>?_;clear cR;go_wp2_with fail;go_loopw [14] (fun i wr=>∃k:Nat,k<=Y l/\i=U O k/\Aj (Iw l=Iw (l.drop k))/\Ag w w wr) (fun i _=>Y l+1-(intOf i).toNat);exact⟨0,BM _,rfl,F AO,hb1⟩
 obtain⟨k,hk,rfl,inv,hb⟩:=hrel;obtain⟨wi,rfl⟩:=qgn wr;rcases D4 k (Y l)with hlt | D8
 ·obtain⟨b,off,x,rfl,BN,hx,c0,c1,c2,c3,c4⟩:=hA.rul hlt hb
  have hst:=F (Agy hx);have NR:=EA.1 Hr2 _ (DI hx);have q7:=AB hb (N x 196);by_cases h3:x.k=3
  ·have hab:(x.b=0\/x.b=1)/\x.b<=x.a/\x.a<=16:=by
    unfold DU at NR;rw[AU J,Bd h3]at NR;simp only[Bool.and_eq_true,Us,Bool.or_eq_true,beq_iff_eq,decide_eq_true_eq]at NR;exact⟨NR.1.1.2,NR.1.2,NR.2⟩
   have hv:Aj (Iw l=x.a*(1-2*x.b)):=F (by rw[inv.out,hst.out,Bd h3]);obtain⟨xk,xf,xt,xa,xb⟩:=x;simp only at h3 hab hv c0 c1 c2 c3 c4 q7;subst h3;obtain⟨MT,AjT,AjU⟩:=hab;clear hst inv hx NR;rcases MT with rfl | rfl
   ·go_wp2_with fail
    go_ret2;exact⟨by rw[hv.out];simp,q7⟩
   ·go_wp2_with fail
    go_ret2;have e9:xa*(1-2*1)=-xa:=J;exact⟨by rw[hv.out,e9];rfl,q7⟩
  ·have hn:Aj (Iw l=Iw (l.drop (k+1))):=F (by rw[inv.out,hst.out,AU h3])
   have e3:(x.k == 3)=false:=qsu h3;clear hst inv hx NR;go_wp2_with fail;exact⟨⟨k+1,J,qgm,hn,q7⟩,qio⟩
 ·have hn:Aj (Iw l=0):=F (by rw[inv.out,WB D8];rfl)
  go_wp2;go_ret2;exact⟨by rw[hn.out];rfl,hb⟩
structure MV(W:V)(By s0 s1 s2:Nat)(o:Bw):Prop where
 op:CC W By o
 sd:W.heap[By+1]?=I (N #[U AA s0,U AA s1,U AA s2] 203 (0,0))
 r:W.heap[By+1+1]?=I (N #[R Z 0 0,R Z 0 0,R Z 0 0,U O 0] 84 (0,0))
section
variable {W W':V} {By s0 s1 s2:Nat} {o:Bw}
theorem MV.grown(h:MV W By s0 s1 s2 o){row:Option Nat}(hg:W.grownBy W' row)(hr:∀k,row=I k->By+1+1<k):MV W' By s0 s1 s2 o:=by
 have k:∀{j:Nat} {v:Obj},W.heap[j]?=I v->j<=By+1+1->W'.heap[j]?=I v:=fun hj hb=>(hg.block _ (Bm.1 hj).1 (fun e=>by grind)).trans hj
 exact⟨k h.op J,k h.sd J,k h.r (Bg _)⟩
def MV.on(h:MV W By s0 s1 s2 o)(hb:Ag W W W'):MV W' By s0 s1 s2 o:=h.grown (Db hb) AO
def MV.c0(h:MV W By s0 s1 s2 o):E W ⟨By+1,0,Z⟩=I (U AA s0):=AX _ _ _ _ _ _ h.sd
def MV.c1(h:MV W By s0 s1 s2 o):E W ⟨By+1,1,Z⟩=I (U AA s1):=AX _ _ _ _ _ _ h.sd
def MV.c2(h:MV W By s0 s1 s2 o):E W ⟨By+1,2,Z⟩=I (U AA s2):=AX _ _ _ _ _ _ h.sd
theorem MV.new(w:V)(s0 s1 s2:Nat)(o:Bw):MV (Ao (Ao (Ao w (N o.cs 54)) (N #[U AA s0,U AA s1,U AA s2] 203)) (N #[R Z 0 0,R Z 0 0,R Z 0 0,U O 0] 84)) w s0 s1 s2 o:=by
 refine⟨?_,?_,?_⟩
 ·exact(Vg _ _ qsm).trans (Uq w _ _)
 ·exact(Vg _ _ AO).trans (Ur w _ _)
 ·have e:(Ao (Ao w (N o.cs 54)) (N #[U AA s0,U AA s1,U AA s2] 203)).heap.size=w.heap.size+1+1:=AO
  rw[<-e];exact CB _ _
end
def Tk{α:Type}{w w':V}{B e sz:Nat}{enc:α->List An}{v:An}{l:List α}(o:Go.Proofs.YtjpidgffdkjjeaaGreat.Own w B e sz enc v l){X:Nat}{cs:Array An}{T:TypeId}{fr:Nat × Nat}(hX:w.heap[X]?=I (N cs T fr))(hT:T≠e)(hg:w.grownBy w' (I X)):Go.Proofs.YtjpidgffdkjjeaaGreat.Own w' B e sz enc v l:=by
 refine o.keep hg ?_;rcases o.2 with⟨rfl,_⟩ | ⟨g,cap,cur,rfl,_,hgb,_⟩
 ·exact .inl Q
 ·have:=KX hgb hX (fun e=>hT e.symm)
  exact .inr (by simp[Value.ownBlock];omega)
def GA(W:V)(AY:Nat)(a b c d:An):Prop:=W.heap[AY]?=I (N #[a,b,c,d] 84 (0,0))
section
variable {W W':V} {AY:Nat} {a b c d:An}
def GA.on(h:GA W AY a b c d)(hb:Ag W W W'):GA W' AY a b c d:=(hb.block _ (Bm.1 h).1).trans h
def GA.c0(h:GA W AY a b c d):E W ⟨AY,0,Z⟩=I a:=AX _ _ _ _ _ _ h
def GA.c1(h:GA W AY a b c d):E W ⟨AY,1,Z⟩=I b:=AX _ _ _ _ _ _ h
def GA.c2(h:GA W AY a b c d):E W ⟨AY,2,Z⟩=I c:=AX _ _ _ _ _ _ h
def GA.c3(h:GA W AY a b c d):E W ⟨AY,3,Z⟩=I d:=AX _ _ _ _ _ _ h
theorem GA.fr(h:GA W AY a b c d)(j:Nat):Bo W ⟨AY,j,Z⟩=false:=CJ _ _ _ _ _ h
def GA.Ft(h:GA W AY a b c d)(v:An):GA (Ai W ⟨AY,1,Z⟩ v) AY a v c d:=CM _ _ 1 _ _ v h
def GA.AgA(h:GA W AY a b c d)(v:An):GA (Ai W ⟨AY,2,Z⟩ v) AY a b v d:=CM _ _ 2 _ _ v h
def GA.AgB(h:GA W AY a b c d)(v:An):GA (Ai W ⟨AY,3,Z⟩ v) AY a b c v:=CM _ _ 3 _ _ v h
end
def AgC(o:Bw)(A:Option AS)(cA:Nat)(l:List C5)(n s0 s1 s2:Nat)(w:V)(ho:Jh o=true)(hA:Arr 5 C5.enc w w A l)(hr:LZ l=0)(hr2:l.all DU=true)(hr3:Y l<=32)(hn:n<=4096):
  AL AE 121 #[o.val,R A (Y l) cA,U O n,Ba #[U AA s0,U AA s1,U AA s2]] w fun e w'=>∃v1 v2 v3,e=AN (Be #[Ba #[v1,v2,v3,U O (Iw l)],U O 0])/\
   Own w' w 154 5 AQ.enc v1 (Fb o s0 n).1/\Own w' w 162 2 Bf.enc v2 (Eu o.eta o.dark (CQ l (Fb o s0 n).1 s1 n).1 (Iw l) s2 n).1/\Own w' w 165 4 CA.enc v3 (CQ l (Fb o s0 n).1 s1 n).2.2/\Ag w w w':=by
 have S0:=MV.new w s0 s1 s2 o;have hb0:=AB (AB (AB (Ae w w) (N o.cs 54)) (N #[U AA s0,U AA s1,U AA s2] 203)) (N #[R Z 0 0,R Z 0 0,R Z 0 0,U O 0] 84);have e0:FG o=0:=by unfold FG;rw[Bd ho]
 have hval:o.val=Ba o.cs:=Q;unfold Bw.val Bw.cs at*;have Ho:=F ho;have hel:=Z9 o s0 n;have heo:=iP o s0 n;have hpe:=Lb.2 ⟨J,heo⟩;obtain⟨PL,hPL⟩:=Az ((Fb o s0 n).1);have DG:=ce l PL s1 n (by rw[<-hPL];omega);have Qe:=iR l hr2 PL (qrb hPL heo) s1 n;have Qs:=sH hr2;simp only[AR,decide_eq_true_eq]at Qs;rw[hPL]at hel hpe ⊢;have Hel:=F hel;have Hpe:=F hpe;have Hcl:=F DG;have Hco:=F Qe;have Hr:=F hr;have Hr2:=F hr2;have HPL:=F hPL;clear hel hpe heo DG Qe hr hr2 hPL ho;go_in;go_upto_region 1 with fail;obtain⟨W0,hW0⟩:=Az (Ao (Ao (Ao w (N o 54)) (N #[U AA s0,U AA s1,U AA s2] 203)) (N #[R Z 0 0,R Z 0 0,R Z 0 0,U O 0] 84));rw[hW0]at S0 hb0 ⊢;clear hW0;have Ci:=F S0.op;have cC:=Yf o W0;rw[e0]at cC;unfold Bw.val Bw.cs at cC;go_wp2_with(refine qlr 54 Ci underlying54 ?_);refine gqz cC fun w1 hb1=>?_;have S1:=S0.on hb1;have q1:=AH hb0 hb1;clear cC Ci S0 hb0 hb1 e0;go_wp2_with fail;have cR:=ZV A cA l w1 (hA.on q1) J;rw[Hr.out]at cR;refine gqz cR fun w2 hb2=>?_;have S2:=S1.on hb2;have q2:=AH q1 hb2;clear cR S1 q1 hb2;have Fy:=F S2.op;have y0:=S2.c0;go_wp2_with(refine qlr 54 Fy underlying54 ?_);have cE:=Af9 o n s0 w2 Ho hn;rw[HPL.out]at cE;unfold Bw.val Bw.cs at cE;refine cE.mono ?_;rintro e w3⟨v1,rfl,Dy,hb3⟩;obtain⟨A1,c1,rfl,_,_,_,hr1⟩:=Dy.form AQ.BY;have S3:=S2.on hb3;have q3:=AH q2 hb3;have Dy:=Go.Proofs.YtjpidgffdkjjeaaGreat.Own.down Dy q2.size;clear cE Fy y0 S2 q2 hb3;have F4:GA (Ao w3 (N #[R A1 (Y PL) c1,R Z 0 0,R Z 0 0,U O 0] 84)) w3 (R A1 (Y PL) c1) (R Z 0 0) (R Z 0 0) (U O 0):=World.alloc_heap_new _ _;have S4:=S3.on (AB (Ae _ _) (N #[R A1 (Y PL) c1,R Z 0 0,R Z 0 0,U O 0] 84));have q4:=AB q3 (N #[R A1 (Y PL) c1,R Z 0 0,R Z 0 0,U O 0] 84);have Eb:=Dy.alloc (N #[R A1 (Y PL) c1,R Z 0 0,R Z 0 0,U O 0] 84);go_wp2_with fail;have hFO:=(Bm.1 S3.r).1;obtain⟨AY,hF⟩:=Az (w3.heap.size);obtain⟨W4,hW4⟩:=Az (Ao w3 (N #[R A1 (Y PL) c1,R Z 0 0,R Z 0 0,U O 0] 84));rw[hW4,hF]at F4;rw[hW4]at S4 q4 Eb ⊢;rw[hF]at hFO ⊢;clear hW4 hF S3 q3 Dy hr1;have cS:=Agz A cA l W4 (hA.on q4) Hr Hr2 hr3;refine gqz cS fun w5 Bh=>?_;have S5:=S4.on Bh;have F5:=F4.on Bh;have q5:=AH q4 Bh;have Ed:=Eb.below Bh;clear cS S4 F4 q4 Eb Bh;obtain⟨sh,hsv⟩:=Az (Iw l);rw[hsv]at Qs ⊢;have Hsv:=F hsv;clear hsv;have y3:=F5.c3;have f3:=F5.fr 3;have F6:=F5.AgB (U O sh);have S6:=S5.grown (Dt w5 AY 3 (U O sh)) (fun k hk=>by cases hk;exact hFO);have Ls:=Tk Ed F5 AC (Dt w5 AY 3 (U O sh));have q6:Ag w w (Ai w5 ⟨AY,3,Z⟩ (U O sh)):=q5.setCell (p:=⟨AY,3,Z⟩) (by show w.heap.size<=AY;omega) _;have z1:=S5.c1;go_wp2_with fail;obtain⟨W6,hW6⟩:=Az (Ai w5 ⟨AY,3,Z⟩ (U O sh));rw[hW6]at F6 S6 Ls q6 ⊢;clear hW6 F5 S5 Ed q5 y3 f3 z1;have Jq:=Ls.form AQ.BY;obtain⟨A1',c1',CZ,_,_,_,Jq⟩:=Jq;cases CZ;have cK:=Agx A cA l A1 c1 PL s1 W6 (hA.on q6) Jq Hr Hr2 hr3 Hpe;rw[Hel.out]at cK;rw[<-Hel.out]at cK;refine cK.mono ?_;rintro e w7⟨v,u,rfl,Xy,Xz,Cl⟩;rw[Hel.out]at Xy Xz;have S7:=S6.on Cl;have F7:=F6.on Cl;have q7:=AH q6 Cl;have Mm:=Ls.below Cl;have Xz:=Go.Proofs.YtjpidgffdkjjeaaGreat.Own.down Xz q6.size;have Xy:=Go.Proofs.YtjpidgffdkjjeaaGreat.Own.down Xy q6.size;obtain⟨A2,c2,rfl,_,_,_,_⟩:=Xy.form C7.BY;obtain⟨A3,c3,rfl,_,_,_,_⟩:=Xz.form CA.BY;clear cK S6 F6 q6 Ls Cl Jq;have y2:=F7.c2;have f2:=F7.fr 2;have F8:=F7.AgA (R A3 (CQ l PL s1 n).2.2.length c3);have S8:=S7.grown (Dt w7 AY 2 (R A3 (CQ l PL s1 n).2.2.length c3)) (fun k hk=>by cases hk;exact hFO);have VM:=Tk Mm F7 AC (Dt w7 AY 2 (R A3 (CQ l PL s1 n).2.2.length c3));have db:=Tk Xy F7 AC (Dt w7 AY 2 (R A3 (CQ l PL s1 n).2.2.length c3));have j7:=Tk Xz F7 AC (Dt w7 AY 2 (R A3 (CQ l PL s1 n).2.2.length c3));have q8:Ag w w (Ai w7 ⟨AY,2,Z⟩ (R A3 (CQ l PL s1 n).2.2.length c3)):=q7.setCell (p:=⟨AY,2,Z⟩) (by show w.heap.size<=AY;omega) _;go_upto_region 14 with fail;obtain⟨W8,hW8⟩:=Az (Ai w7 ⟨AY,2,Z⟩ (R A3 (CQ l PL s1 n).2.2.length c3));rw[hW8]at F8 S8 VM db j7 q8 ⊢;clear hW8 F7 S7 Mm q7 y2 f2 Xy Xz;have At8:=F S8.op;have z2:=S8.c2;have y3:=F8.c3;obtain⟨LL,hLL⟩:=Az ((CQ l PL s1 n).1);have DG:=Hcl.out;have Qe:=Hco.out;rw[hLL]at db DG Qe ⊢;obtain⟨A2',c2',hv2,_,_,_,ar8⟩:=db.form C7.BY;cases hv2;have cD:=Agu o A2 c2 LL sh s2 W8 Ho ar8 J Qe Qs.1 Qs.2;have AgD:=F DG;unfold Bw.val Bw.cs at cD;have HLL:=F hLL;clear DG Qe hLL db ar8;go_wp2_with(refine qlr 54 At8 underlying54 ?_);refine cD.mono ?_;rintro e w9⟨v2,rfl,CU,BC⟩;rw[AgD.out]at CU;have S9:=S8.on BC;have F9:=F8.on BC;have q9:=AH q8 BC;have KR:=VM.below BC;have j8:=j7.below BC;have CU:=Go.Proofs.YtjpidgffdkjjeaaGreat.Own.down CU q8.size;obtain⟨A4,c4,rfl,_,_,_,_⟩:=CU.form Bf.BY;clear cD At8 z2 y3 S8 F8 q8 VM j7 BC;obtain⟨CL,hCL⟩:=Az ((Eu o.eta o.dark LL sh s2 n).1);rw[hCL]at CU ⊢;have HCL:=F hCL;clear hCL;obtain⟨NL,hNL⟩:=Az ((CQ l PL s1 n).2.2);rw[hNL]at j8 F9 ⊢;have HNL:=F hNL;clear hNL;have y1:=F9.c1;have f1:=F9.fr 1;have F10:=F9.Ft (R A4 (Y CL) c4);have FL:=S9.grown (Dt w9 AY 1 (R A4 (Y CL) c4)) (fun k hk=>by cases hk;exact hFO);have DX:=Tk KR F9 AC (Dt w9 AY 1 (R A4 (Y CL) c4));have j9:=Tk j8 F9 AC (Dt w9 AY 1 (R A4 (Y CL) c4));have ja:=Tk CU F9 AC (Dt w9 AY 1 (R A4 (Y CL) c4));have q10:Ag w w (Ai w9 ⟨AY,1,Z⟩ (R A4 (Y CL) c4)):=q9.setCell (p:=⟨AY,1,Z⟩) (by show w.heap.size<=AY;omega) _;go_upto_region 15 with fail;obtain⟨QH,sX⟩:=Az (Ai w9 ⟨AY,1,Z⟩ (R A4 (Y CL) c4));rw[sX]at F10 FL DX j9 ja q10 ⊢;clear sX F9 S9 KR j8 CU q9 y1 f1;have k0:=F10.c0;have k1:=F10.c1;have k2:=F10.c2;have k3:=F10.c3;have r0:E QH ⟨↑w+1+1,0,Z⟩=I (R Z 0 0):=AX _ _ _ _ _ _ FL.r;have r1:E QH ⟨↑w+1+1,1,Z⟩=I (R Z 0 0):=AX _ _ _ _ _ _ FL.r;have r2:E QH ⟨↑w+1+1,2,Z⟩=I (R Z 0 0):=AX _ _ _ _ _ _ FL.r;have r3:E QH ⟨↑w+1+1,3,Z⟩=I (U O 0):=AX _ _ _ _ _ _ FL.r;have rf0:Bo QH ⟨↑w+1+1,0,Z⟩=false:=CJ _ _ _ _ _ FL.r;have rf1:Bo QH ⟨↑w+1+1,1,Z⟩=false:=CJ _ _ _ _ _ FL.r;have rf2:Bo QH ⟨↑w+1+1,2,Z⟩=false:=CJ _ _ _ _ _ FL.r;have rf3:Bo QH ⟨↑w+1+1,3,Z⟩=false:=CJ _ _ _ _ _ FL.r
 have hG:QH.grownBy ((((QH.setCell ⟨↑w+1+1,0,Z⟩ (R A1 (Y PL) c1)).setCell ⟨↑w+1+1,1,Z⟩ (R A4 (Y CL) c4)).setCell ⟨↑w+1+1,2,Z⟩ (R A3 (Y NL) c3)).setCell ⟨↑w+1+1,3,Z⟩ (U O sh)) (I (w.heap.size+1+1)):=
  Fj (Fj (Fj (Dt QH _ _ _) (Dt _ _ _ _)) (Dt _ _ _ _)) (Dt _ _ _ _)
 have o1:=Tk DX FL.r AC hG;have o2:=Tk ja FL.r AC hG;have o3:=Tk j9 FL.r AC hG;have qq:=q10.grown hG q10.size (fun k hk=>by cases hk;omega);have g1:GA (QH.setCell ⟨↑w+1+1,0,Z⟩ (R A1 (Y PL) c1)) (w.heap.size+1+1) (R A1 (Y PL) c1) (R Z 0 0) (R Z 0 0) (U O 0):=CM _ _ 0 _ _ _ FL.r;clear hG DX ja j9 q10 g1 FL F10;go_wp2_with fail;refine qti ?_;refine De (v:= Be #[Ba #[R A1 (Y PL) c1,R A4 (Y CL) c4,R A3 (Y NL) c3,U O sh],U O 0]) ?_ Q ⟨R A1 (Y PL) c1,R A4 (Y CL) c4,R A3 (Y NL) c3,by rw[Hsv.out],o1,(by rw[HLL.out,Hsv.out,HCL.out];exact o2),(qrf HNL.out o3),qq⟩;rw[Jg Q];go_simp
end Go.Proofs.YtjpidgffdkjjeaaGreat
