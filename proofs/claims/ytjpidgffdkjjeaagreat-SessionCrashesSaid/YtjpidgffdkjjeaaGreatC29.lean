/- Contracts and plain laws. No condition. -/
import Derived.Test.YtjpidgffdkjjeaaGreatCA
import Derived.Test.YtjpidgffdkjjeaaGreatC27
import Derived.Test.YtjpidgffdkjjeaaGreatC28
set_option linter.all false
set_option maxHeartbeats 16000000
namespace Go.Proofs.YtjpidgffdkjjeaaGreat
open Go.Proofs.Tryz
open Go.Proofs.Tryz renaming prog->AE
open List renaming length->Y
open Go.World renaming cell?->E,setCell->Ai,alloc->Ao,frozen?->Bo
open Go.Value renaming int->U,slice->R,pointer->AI,agg->Ba,tuple->Be,nilFunc->Bl,bool->Av
open Go.IntKind renaming i64->O,u64->AA,u32->BF,u8->Cd
open Option renaming none->Z,some->I
open Go.Ending renaming returned->AN
open Go.Obj renaming cells->N
open Go renaming World->V,Value->An,Calls->AL,Addr->AS
open Go.RowKit renaming Below->Ag,Hid->Aj
set_option maxRecDepth 100000
open Go.RowKit Go.Maps
section
variable{M:Dg}{f:Oe}{n:Nat}{q:Bt}{v:Bj}{w:V}{τ:Nat->Nat}
structure uJ(τ:Nat->Nat)(w:V)(M:Dg)(q:Bt)(n:Nat)(f:Oe)(fv:List BW)(x:BW)(g cw:Nat):Prop where
 map:fv.map BW.f=q.way
 own:Own w 0 41 6 BW.enc (R (I ⟨g,0,Z⟩) (Y fv) cw) fv
 im:∀x∈fv,x.Im τ w
 val:M.X.way=R (I ⟨g,0,Z⟩) (Y fv) cw
 lt:n<Y fv
 at_:fv[n]?=I x
 fx:x.f=f
 cells:∀j u,x.enc[j]?=I u->E w ⟨g,n*6+j,Z⟩=I u
def uK{α:Type}{enc:α->List An}{sz:Nat}(hs:∀x,(enc x).length=sz){l:List α}{x:α}(h:l[n]?=I x){j:Nat}(hj:j<sz):(l.flatMap enc)[n*sz+j]?=(enc x)[j]?:=Vr hs l n x h j hj
theorem CO.AiQ(h:CO τ w M v q)(hf:q.way[n]?=I f):∃fv x g cw,uJ τ w M q n f fv x g cw:=by
 obtain⟨fv,f1,f2,f3,f4⟩:=h.way
 have hlt:n<Y fv:=by
  grind
 have hx:=CH hlt
 have hfx:fv[n].f=f:=by
  grind
 rcases f2.2 with⟨_,h0⟩ | ⟨g,cap,cur,hv,_⟩
 ·omega
 ·have own:=hv▸f2
  refine⟨fv,fv[n],g,cap,f1,own,f3,hv,hlt,hx,hfx,fun j u hu=>?_⟩;have hj:j<6:=(EF.1 hu).1;have h9:w.ownsRow 0 41 6 (R (I ⟨g,0,Z⟩) (Y fv) cap) (Y fv) (fv.flatMap BW.enc):=own;rw[h9.cellAt (n*6+j) J,uK BW.BY hx hj];exact hu
structure AiR(τ:Nat->Nat)(w w2:V)(M:Dg)(AM B:Nat)(k:Int)(n:Nat)(c:Int)(x:BW):Prop where
 b:Ag w w w2
 row:w2.heap[B]?=I (N x.enc.toArray 41 (0,0))
 e:w2.heap[AM]?=I (N #[U O k,U O n,U O c] 29 (0,0))
 lo:↑w<=B/\w.heap.size<=AM
 ne:AM<B
theorem uL{w5:V}{fv:List BW}{x:BW}{g cw:Nat}(h:CO τ w M v q)(fr:BU τ w)(ow:uJ τ w M q n f fv x g cw)(b5:Ag w w w5){x':BW}(im:x'.Im τ w5):
  ∃old,w5.heap[g]?=I (N old 41 (0,0))/\n*6+6<=old.size/\Dh τ w M v {q with way:=q.way.set n x'.f} (w5.setRow g (old.toList.take (n*6)++ x'.enc++ old.toList.drop (n*6+6)).toArray):=by
 have P5:=h.on b5;obtain⟨old,o1,o2,o3⟩:=AiJ BW.BY (Own.below ow.own b5) x' ow.lt;refine⟨old,o1,o2,?_⟩;have hO:AT (fun k=>M.X.way.ownBlock=I k) w5 (w5.setRow g (old.toList.take (n*6)++ x'.enc++ old.toList.drop (n*6+6)).toArray):=AT.grown (Fw w5 g _) (fun k hk=>by cases hk;exact .inl (by rw[ow.val];rfl));have o3':Own (w5.setRow g (old.toList.take (n*6)++ x'.enc++ old.toList.drop (n*6+6)).toArray) 0 41 6 BW.enc M.X.way (fv.set n x'):=by rw[ow.val];exact o3
 obtain⟨f6,P6⟩:=P5.AgZ hO o3' (fun y hy=>by
  rcases List.mem_or_eq_of_mem_set hy with hy | hy
  ·exact Imm.keep (ow.im y hy) (Kp.of b5)
  grind)
 refine⟨τ,M,(EN.of b5).trans (f6.t (.inl Q)),(fr.on b5.size).on f6.out.size,?_,GO.refl M⟩;have e:(fv.set n x').map BW.f=q.way.set n x'.f:=by rw[List.map_set,ow.map]
 grind
def AiS(h:CO τ w M v q)(fr:BU τ w)(hv:Gm v)(iv:Dv v q)(k:Int)(n:Nat)(c:Int)(hf:q.way[n]?=I f)(hk:k=2\/k=3\/k=4\/k=5):
    AL AE 15 #[AI (I ⟨M.b,0,Z⟩),Ba #[U O k,U O n,U O c]] w (DoR τ w M v (v.CI q ⟨k,n,c⟩)):=by
  have q0:=AB (Ae w w) (N #[U O k,U O n,U O c] 29);have cV:=Zc (h.on q0);obtain⟨fv,x,g,cw,ow⟩:=h.AiQ hf;have Cm:Y fv=Y q.way:=by rw[<-ow.map,Dz]
  have Nz:E w ⟨M.b,39,Z⟩=I (R (I ⟨g,0,Z⟩) (Y fv) cw):=by rw[<-ow.val];exact h.row.c 39
  have IK:=AK q0 Nz;have lt:=ow.lt;have g1:decide (k<1)=false:=by simp;omega
  have g2:decide (8<k)=false:=by simp;omega
  have g3:(k == 1)=false:=by simp;omega
  have g4:decide (6<=k)=false:=by simp;omega
  have g5:decide ((Y fv:Int)<=(n:Int))=false:=by simp;omega
  have uM:=iv.len;have Hln:=F Cm;have HL:=F uM;have HF:=F hf;have HK:=F hk;obtain⟨AW,hR⟩:=Az (v.CI q ⟨k,n,c⟩)
  have HR:Aj (AW=if k=4 then(if Y q.way=64 then(q,12)else({q with way:=q.way++ [f]},0))else if k=5 then({q with way:=q.way.set n ⟨f.d,f.l.QI c⟩},0)else if k=3 then({q with way:=q.way.eraseIdx n},0)else v.Tm q n f):=F (by
    rw[<-hR];unfold Bj.CI;rw[AU (show¬(k<1\/8<k)by omega),AU (show¬k=1 by omega),AU (show¬6<=k by omega),AU (show¬((⟨k,n,c⟩:Ev).a<0)by simp only;omega)];simp only[Int.toNat_natCast,hf])
  rw[hR];clear Cm uM hf hk hR;have e0:(Ao w (N #[U O k,U O n,U O c] 29)).heap[w.heap.size]?=I (N #[U O k,U O n,U O c] 29 (0,0)):=CB w _;have xc:=ow.cells;go_enter Tryz.func15,Tryz.ntmps15;go_upto_region 9 with(go_at_call 56;refine mqv (cV) ?_)
  obtain⟨w1,BJ⟩:=Az (Ao w (N #[U O k,U O n,U O c] 29));rw[BJ]at q0 e0 IK ⊢;obtain⟨AM,hE⟩:=Az (w.heap.size);rw[hE]at e0 ⊢;have HE:=F hE;have Q1:=F q0;clear BJ q0 hE Nz cV;have e1':=AX w1 AM 1 _ _ _ e0;have L39:=qbc IK;have LE:∀w',Ag w1 w1 w'->E w' ⟨AM,1,Z⟩=I (U O n):=qbc e1';refine qrh w1 (Ae _ _).drew fun hHeld=>?_
  refine tQ4 0 ?_;refine tQ4 4 ?_;refine tQ4 8 ?_;refine tQ 12 ?_;refine Ce ?_;have b1:=(Ae w1 w1).drew;obtain⟨w1',BJ⟩:=Az (w1.drew);have e0':=(b1.block AM (Bm.1 e0).1).trans e0;have Zl:=L39 _ b1;rw[BJ]at b1 e0' Zl ⊢;have Q1:=F (AH Q1.out b1);clear BJ e0 IK L39 LE e1' b1 hHeld;obtain⟨w1,rfl⟩:=qgn w1';have e1':=AX w1 AM 1 _ _ _ e0';go_upto_region 11 with fail;have L39:=qbc Zl;have LE:∀w',Ag w1 w1 w'->E w' ⟨AM,1,Z⟩=I (U O n):=qbc e1';have LX:∀w',Ag w1 w1 w'->∀(j:Nat) (u:An),x.enc.toArray[j]?=I u->E w' ⟨g,n*6+j,Z⟩=I u:=fun w' hw' j u hu=>AK hw' (AK Q1.out (xc j u (qsu hu)))
  refine qrh w1 (Ae _ _).drew fun hHeld=>?_
  refine tQ4 0 ?_;refine tQ2 4 ?_;refine tQ 6 ?_;refine G3 (i:=7) (v:= Ba x.enc.toArray) Q AG AG AG (fun _ _ _ h=>h) (MQ Q 41 _ (by rfl) g (n*6) (by rfl) x.enc.toArray _ LX underlying41 Q (qiz 41 6)) (by assumption) ?_;refine zp ?_;refine url 8 (fun KU Bc=>?_);go_simp;refine Bc.out _ _ (AB (Ae _ _) _).drew (fun _=>?_);refine zp ?_;refine url 9 (fun KU Bc=>?_);refine Zh Q 41 _ _ Q w1 x.enc.toArray AG AG 41 _ (CB w1 _) (qiz 41 6) Q AG ?_;have b2:Ag w1 w1 (Ao w1 (N x.enc.toArray 41)).drew:=(AB (Ae _ _) _).drew;change KU _ ((Ao w1 (N #[U O 0,U O 0,U O 0,U O 0,R Z 0 0,U AA 0] 41)).setRow w1 x.enc.toArray).drew;rw[World.setRow_alloc_new];refine Bc.out _ _ b2 (fun _=>?_);refine zp ?_;refine Ce ?_;obtain⟨B,hB⟩:=Az (w1.heap.size);have I1:(Ao w1 (N x.enc.toArray 41)).drew.heap[w1.heap.size]?=I (N x.enc.toArray 41 (0,0)):=CB w1 _;have e2:=(b2.block AM (Bm.1 e0').1).trans e0';have G:AiR τ w (Ao w1 (N x.enc.toArray 41)).drew M AM w1 k n c x:=⟨AH Q1.out b2,I1,e2,⟨Q1.out.size,Nat.le_of_eq HE.out⟩,(Bm.1 e0').1⟩
  obtain⟨w2,hw2⟩:=Az ((Ao w1 (N x.enc.toArray 41)).drew);rw[hw2]at G ⊢;rw[hB]at G ⊢;clear hw2 I1 e2 b2 hB L39 LE LX e1' e0' Zl g1 g2 g3 g4 g5 xc;have P2:=h.on G.b;have Ej:=fr.on G.b.size;have GZ:M.X.way=R (I ⟨g,0,Z⟩) (Y fv) cw:=ow.val;have IK:E w2 ⟨M.b,39,Z⟩=I (R (I ⟨g,0,Z⟩) (Y fv) cw):=qrb GZ (P2.row.c 39);have e0:E w2 ⟨AM,0,Z⟩=I (U O k):=AX w2 AM 0 _ _ _ G.e;have e2:E w2 ⟨AM,2,Z⟩=I (U O c):=AX w2 AM 2 _ _ _ G.e;have e1:E w2 ⟨AM,1,Z⟩=I (U O n):=AX w2 AM 1 _ _ _ G.e;clear GZ;go_upto_region 13 with fail;rcases HK.out with hk | hk | hk | hk
  case inr.inr.inl=>
    subst hk;go_upto_region 14 with fail;by_cases h64:Y q.way=64
    · have hr:Aj (AW=(q,12)):=F (by rw[HR.out,Bd Q,Bd h64])
      have g6:((Y fv:Int) == 64)=true:=by have:=Hln.out;simp;omega
      clear h64;go_wp2;go_ret;rw[hr.out];exact⟨Q,Dh.stay h fr G.b⟩
    · have hr:Aj (AW=({q with way:=q.way++ [f]},0)):=F (by rw[HR.out,Bd Q,AU h64])
      have g6:((Y fv:Int) == 64)=false:=by have:=Hln.out;simp;omega
      clear h64;go_upto_region 16 with fail;have xm:x∈fv:=DI ow.at_;have f7:Own w2 0 41 6 BW.enc (R (I ⟨g,0,Z⟩) (Y fv) cw) fv:=Own.below ow.own G.b;have I1:w2.heap[B]?=I (N x 41 (0,0)):=G.row;have S0:w2.drew.heap[B]?=I (N x 41 (0,0)):=I1;have W8:Ag w2 w2 (Ao w2 (N x 41)).drew:=(AB (Ae _ _) _).drew;have S8:(Ao w2 (N x 41)).drew.heap[B]?=I (N x 41 (0,0)):=(W8.block B (Bm.1 I1).1).trans I1;have Ag3:=AK W8 IK;have hMb:M.b<↑w2:=(Bm.1 P2.row).1;have hMn:M.b≠↑w2:=J;have Tv8:=F (Own.below f7 W8)
      have Nw8:Aj (∀j u,(BW.enc x)[j]?=I u->E (Ao w2 (N x 41)).drew ⟨w2,j,Z⟩=I u):=F (fun j u hu=>by
        have hcs:(#[U O x.f.d,U O x.f.l.ses,U O x.f.l.kind,U O x.f.l.num,R x.A (Y x.f.l.ws) x.c,U AA x.f.l.tag]:Array An).toList=BW.enc x:=Q;exact Cb (w:=w2) (by rw[<-hu,<-hcs];simp))
      have One:Aj (∀u∈BW.enc x,u.oneCell'=true):=F (BW.one x);have Hby:=F (show(Y fv+1)*64<=140737488355328 by have:=Hln.out;have:=HL.out;omega);have AjW:=P2.XD;have nB:Aj (M.X.way.ownBlock≠I B):=F (fun e=>by have:=(h.XD B e).2;have:=G.lo.1;omega);have nBb:Aj (B≠M.b):=F (fun e=>by have:=(Bm.1 h.row).1;have:=G.lo.1;omega);refine Fz (S:=fun w'=>w'.heap[B]?=I (N x 41 (0,0))) AG I1 (fun hHeld=>?_);refine tQ4 0 ?_;refine G3 (i:=5) (v:= Ba x) Q AG AG AG (fun _ _ _ h=>h) (MQ Q 41 _ (by rfl) B 0 (by rfl) #[U O x.f.d,U O x.f.l.ses,U O x.f.l.kind,U O x.f.l.num,R x.A (Y x.f.l.ws) x.c,U AA x.f.l.tag] _ (fun w hS j v hv=>by rw[EE];exact(AX w B j _ _ _ hS).trans hv) underlying41 Q (qiz 41 6)) (by assumption) ?_;refine zp ?_;refine I8 [4,6] ?_;refine Dj Q (fun KU Bc=>?_) (Dj Q (fun KU Bc=>?_) GQ)
      all_goals(first | (go_simp;refine Bc.out _ _ S0 (fun _=>?_);refine zp ?_;(refine url 6 (fun KU Bc=>?_);go_simp)) | (go_simp;refine Bc.out _ _ S8 (fun _=>?_);refine zp ?_;(refine url 4 (fun KU Bc=>?_);go_simp)))
      all_goals(
        refine Bc.out _ _ S8 (fun _=>?_);refine zp ?_;refine url 7 (fun KU Bc=>?_);refine UL (enc:=BW.enc) underlying34 tx fv x Tv8.out Nw8.out One.out Hby.out (BM _) ?_;intro v10 Bs DX FI Ln;have Sj:AT (fun k=>M.X.way.ownBlock=I k) w2 Bs:=(AT.of W8).trans (AT.grown FI (fun g hg=> .inl (by rw[ow.val];exact hg)))
        have Z5:∀k,v10.ownBlock=I k->M.X.way.ownBlock=I k\/w2.heap.size<=k:=fun k hk=>by
          rcases Ln with h1 | ⟨X,h1,h2⟩
          · left;rw[ow.val,<-h1];exact hk
          · right
            rw[h1]at hk;obtain rfl:=Option.some.inj hk;exact Br W8.size h2
        have FL:Bs.heap[B]?=I (N x 41 (0,0)):=Sj.row I1 nB.out
        have MX:∀y∈fv++ [x],y.Im τ w2:=fun y hy=>by
          have hy:y∈fv:=by
            rcases OV.1 hy with hy | hy
            · exact hy
            · simp only[List.mem_singleton]at hy
              rw[hy];exact xm
          exact Imm.keep (ow.im y hy) (Kp.of G.b)
        obtain⟨τ9,f9,Ek,h9⟩:=P2.je Ej Sj DX MX Z5;have Fr:Gu Bs M.b M.X:=Sj.row P2.row (fun e=>P2.wb _ e Q);have H8:=Fr.c 39;have IK:=Fr.fr 39;obtain⟨DM,c10,OO,_,_,_,_⟩:=DX.form BW.BY;obtain⟨n10,UO⟩:=Az ((fv++ [x]).length);rw[UO]at OO
        have RL:Aj (Dh τ w M v {q with way:=q.way++ [f]} (Bs.setCell ⟨M.b,39,Z⟩ v10)):=F (by
          refine⟨τ9,{M with X:={M.X with way:=v10}},(EN.of G.b).trans (f9.t (.inl Q)),Ek,?_,⟨Q,Q,Q,Q⟩⟩;have e:(fv++ [x]).map BW.f=q.way++ [f]:=by rw[SQ,ow.map,<-ow.fx];rfl
          rw[e]at h9;exact h9)
        clear h9 f9 Ek;subst OO;refine Bc.out _ _ FL (fun _=>?_);refine zp ?_;refine tQ2 8 ?_;have S11:(Bs.setCell ⟨M.b,39,Z⟩ (R DM n10 c10)).heap[B]?=I (N x 41 (0,0)):=(Jo Bs ⟨M.b,39,Z⟩ B _ (qsu nBb.out)).trans FL;refine url 10 (fun KU Bc=>?_);go_simp;refine Bc.out _ _ S11 (fun _=>?_);refine zp ?_;refine Ce ?_;go_wp2;go_ret;rw[hr.out];exact⟨Q,RL.out⟩)
  case inr.inr.inr=>
    have hr:Aj (AW=({q with way:=q.way.set n ⟨f.d,f.l.QI c⟩},0)):=F (by rw[HR.out,AU (by rw[hk];decide),Bd hk]);subst hk;have xm:x∈fv:=DI ow.at_;have I1:w2.heap[B]?=I (N x 41 (0,0)):=G.row;have b4:=AX w2 B 4 _ _ _ I1;have bf:=CJ w2 B 4 _ _ I1;obtain⟨A',c',he,l1,m1,n1,ar,tg⟩:=Imm.keep (ow.im x xm) (Kp.of G.b);cases he;have lok:=(iv.way f (DI HF.out)).2;have cC:=WV x.A x.c x.f.l.ws w2 ar n1 l1 (by have:=lok.len;rw[<-ow.fx]at this;omega);go_upto_region 19 with fail;go_wp2_with fail;refine cC.mono ?_;rintro e w3⟨v3,rfl,EW,hb3⟩;have b4':=AK hb3 b4;have X3:=(hb3.block B (Bm.1 I1).1).trans I1;have bf':=CJ w3 B 4 _ _ X3;obtain⟨A3,c3,rfl,l3,m3,n3,Mq⟩:=EW.form DY;have P3:=P2.on hb3;have Gz:=Ej.on hb3.size;have e2':=AK hb3 e2;have e1':=AK hb3 e1;have Zl:=AK hb3 IK;have Tp:(Ai w3 ⟨B,4,Z⟩ (R A3 (Y x.f.l.ws) c3)).heap[B]?=I (N #[U O x.f.d,U O x.f.l.ses,U O x.f.l.kind,U O x.f.l.num,R A3 (Y x.f.l.ws) c3,U AA x.f.l.tag] 41 (0,0)):=CM w3 B 4 _ _ _ X3;have Bsz:↑w<=B:=G.lo.1;have Blt:B<↑w2:=(Bm.1 I1).1;have nBE:AM≠B:=by have:=G.ne;omega
    have nBM:M.b≠B:=by have:=(Bm.1 h.row).1;omega
    have Eb:Own (Ai w3 ⟨B,4,Z⟩ (R A3 (Y x.f.l.ws) c3)) w2 3 1 BD (R A3 (Y x.f.l.ws) c3) x.f.l.ws:=Own.keep EW (Fo w3 B 4 _) (by
      cases hv:(Value.slice A3 (Y x.f.l.ws) c3).ownBlock with
      | none=>exact .inl Q
      | some k=>exact .inr (fun e=>by
        have h1:=(Cp EW k hv).1;have h2:k=B:=qsu e;omega))
    have b4:Ag w w (Ai w3 ⟨B,4,Z⟩ (R A3 (Y x.f.l.ws) c3)):=(AH G.b hb3).setCell Bsz _;have eE1:(Ai w3 ⟨B,4,Z⟩ (R A3 (Y x.f.l.ws) c3)).heap[AM]?=I (N #[U O 5,U O n,U O c] 29 (0,0)):=(Jo w3 ⟨B,4,Z⟩ AM _ (qsu nBE)).trans ((hb3.block AM (Bm.1 G.e).1).trans G.e);obtain⟨w4,hw4⟩:=Az (Ai w3 ⟨B,4,Z⟩ (R A3 (Y x.f.l.ws) c3));rw[hw4]at Tp Eb b4 eE1;have c2:=AX w4 AM 2 _ _ _ eE1;have r4:=AX w4 B 4 _ _ _ Tp;have r5:=AX w4 B 5 _ _ _ Tp;go_upto_region 20 with fail;have Lok:=F lok;clear HR lok ar Mq tg m1 n1 m3 n3 EW X3 bf' b4' e2' e1' Zl P3 Gz e0 e1 e2 bf I1 cC l1;by_cases hc:0<=c/\c<Y x.f.l.ws
    · have g7:decide (0<=c)=true:=qsu hc.1
      have g8:decide (c<(Y x.f.l.ws:Int))=true:=qsu hc.2;obtain⟨cn,rfl⟩:=DV hc.1;have hcn:cn<Y x.f.l.ws:=J;have jB:=Eb;rcases Eb.2 with⟨_,h0⟩ | ⟨g3,cap,cur,hv3,hg3,_⟩
      · have:Y x.f.l.ws=0:=h0
        omega
      cases hv3;have Mp:x.f.l.ws[cn]?=I x.f.l.ws[cn]:=CH hcn;obtain⟨wd,hwd⟩:=Az (x.f.l.ws[cn]);rw[hwd]at Mp;have h9:w4.ownsRow w2 3 1 (R (I ⟨g3,0,Z⟩) (Y x.f.l.ws) c3) (Y x.f.l.ws) (x.f.l.ws.flatMap BD):=jB
      have wc:E w4 ⟨g3,cn,Z⟩=I (U O wd):=by
        have h10:=h9.cellAt (cn*1+0) J;rw[uK (sz:=1) DY Mp AC]at h10;rw[JK,Sz]at h10;exact h10
      have wf:Bo w4 ⟨g3,cn,Z⟩=false:=h9.frozenAt cn
      have wr:0<=wd/\wd<=65535:=by
        have h11:=Lok.out.ws;rw[<-ow.fx]at h11;have DO:=EA.1 h11 wd (DI Mp);unfold okW AR at DO;exact Ib DO
      have xw:=AiM wr;have b5:Ag w w (Ai w4 ⟨g3,cn,Z⟩ (U O (IY wd))):=b4.setCell (Br G.b.size hg3) _
      have Ed:Own (Ai w4 ⟨g3,cn,Z⟩ (U O (IY wd))) w2 3 1 BD (R (I ⟨g3,0,Z⟩) (Y x.f.l.ws) c3) (x.f.l.ws.set cn (IY wd)):=by
        have:=AiI DY jB Mp (k:=0) AC (r':=IY wd) (u:= U O (IY wd)) Q;rw[JK,Sz]at this;exact this
      have Iu:Imm 1 BD τ (Ai w4 ⟨g3,cn,Z⟩ (U O (IY wd))) (R (I ⟨g3,0,Z⟩) (Y x.f.l.ws) c3) (x.f.l.ws.set cn (IY wd)):=Own.imm Ed DY (fun k hk=>Ej k hk);have Jb:(Ai w4 ⟨g3,cn,Z⟩ (U O (IY wd))).heap[B]?=I (N #[U O x.f.d,U O x.f.l.ses,U O x.f.l.kind,U O x.f.l.num,R (I ⟨g3,0,Z⟩) (Y x.f.l.ws) c3,U AA x.f.l.tag] 41 (0,0)):=(Jo w4 ⟨g3,cn,Z⟩ B _ qsm).trans Tp;have eE5:(Ai w4 ⟨g3,cn,Z⟩ (U O (IY wd))).heap[AM]?=I (N #[U O 5,U O n,U O cn] 29 (0,0)):=(Jo w4 ⟨g3,cn,Z⟩ AM _ (by simp;have:=G.ne;omega)).trans eE1
      have eb:f.l.QI (cn:Int)={f.l with ws:=f.l.ws.set cn (IY wd)}:=by
        unfold Lt.QI;rw[<-ow.fx,Bd hc,Ro,YE,Mp]
        rfl
      obtain⟨old,o1,o2,pe⟩:=uL h fr ow b5.drew (x':=⟨⟨x.f.d,{x.f.l with ws:=x.f.l.ws.set cn (IY wd)}⟩,I ⟨g3,0,Z⟩,c3⟩) (by
        unfold BW.Im;simp only[List.length_set];have:=Iu.keep (Kp.of (Ae _ _).drew);unfold Imm at this ⊢;simpa using this)
      have Pe:Aj (Dh τ w M v {q with way:=q.way.set n ⟨f.d,f.l.QI (cn:Int)⟩} ((Ai w4 ⟨g3,cn,Z⟩ (U O (IY wd))).drew.setRow g (old.toList.take (n*6)++ ([U O x.f.d,U O x.f.l.ses,U O x.f.l.kind,U O x.f.l.num,R (I ⟨g3,0,Z⟩) (Y x.f.l.ws) c3,U AA x.f.l.tag]:List An)++ old.toList.drop (n*6+6)).toArray)):=F (by
        rw[eb,<-ow.fx];simp only[BW.enc,List.length_set]at pe;exact pe)
      have p39:=(h.on b5).row.c 39;rw[show M.X.cs[39]?=I (R (I ⟨g,0,Z⟩) (Y fv) cw)from by rw[<-ow.val];rfl]at p39;clear pe eb Iu Ed Eb jB h9 hc;go_upto_region 21 with fail;go_upto_region 23 with fail;obtain⟨w5,Ct⟩:=Az (Ai w4 ⟨g3,cn,Z⟩ (U O (IY wd)));rw[Ct]at b5 Jb eE5 o1 Pe p39 ⊢;clear Ct;have gM:g≠M.b:=fun e=>h.wb g (by rw[ow.val];rfl) e
      have glt:g<↑w:=(h.XD g (by rw[ow.val];rfl)).2;have gB:B≠g:=J;have gE:AM≠g:=by have:=G.lo.2;omega
      refine Fz (S:=fun w'=>w'.heap[B]?=I (N #[U O x.f.d,U O x.f.l.ses,U O x.f.l.kind,U O x.f.l.num,R (I ⟨g3,0,Z⟩) (Y x.f.l.ws) c3,U AA x.f.l.tag] 41 (0,0))/\E w' ⟨AM,1,Z⟩=I (U O n)/\E w' ⟨M.b,39,Z⟩=I (R (I ⟨g,0,Z⟩) (Y fv) cw)) AG ⟨Jb,AX w5 AM 1 _ _ _ eE5,p39⟩ (fun hHeld=>?_);refine tQ4 0 ?_;refine tQ2 4 ?_;refine G3 (i:=6) (v:= Ba #[U O x.f.d,U O x.f.l.ses,U O x.f.l.kind,U O x.f.l.num,R (I ⟨g3,0,Z⟩) (Y x.f.l.ws) c3,U AA x.f.l.tag]) Q AG AG AG (fun _ _ _ h=>h) (MQ Q 41 _ (by rfl) B 0 (by rfl) #[U O x.f.d,U O x.f.l.ses,U O x.f.l.kind,U O x.f.l.num,R (I ⟨g3,0,Z⟩) (Y x.f.l.ws) c3,U AA x.f.l.tag] _ (fun w hS j v hv=>by rw[EE];exact(AX w B j _ _ _ hS.1).trans hv) underlying41 Q (qiz 41 6)) (by assumption) ?_;refine zp ?_;refine tQ 7 ?_;refine url 8 (fun KU Bc=>?_);refine gG Q 41 _ _ Q g (n*6) #[U O x.f.d,U O x.f.l.ses,U O x.f.l.kind,U O x.f.l.num,R (I ⟨g3,0,Z⟩) (Y x.f.l.ws) c3,U AA x.f.l.tag] (by rfl) (by rfl) 41 _ _ o1 (qiz 41 6) o2 AG Q ?_;have oS:AT (fun k=>k=g) w5 (w5.setRow g (old.toList.take (n*6)++ ([U O x.f.d,U O x.f.l.ses,U O x.f.l.kind,U O x.f.l.num,R (I ⟨g3,0,Z⟩) (Y x.f.l.ws) c3,U AA x.f.l.tag]:List An)++ old.toList.drop (n*6+6)).toArray):=AT.grown (Fw w5 g _) (fun k hk=>by cases hk;exact .inl Q);refine Bc.out _ _ ⟨oS.row Jb gB,oS.cell (AX w5 AM 1 _ _ _ eE5) gE,oS.cell p39 gM.symm⟩ (fun _=>?_);refine zp ?_;refine Ce ?_;go_wp2;go_ret;rw[hr.out];have e9:=Pe.out;simp only[List.append_assoc,List.cons_append,List.nil_append]at e9;exact⟨Q,e9⟩
    · have hb0:decide (0<=c)=false\/(decide (0<=c)=true/\decide (c<(Y x.f.l.ws:Int))=false):=by
        by_cases h0:0<=c
        · exact .inr ⟨by simpa using h0,by simp;omega⟩
        · exact .inl (qsu h0)
      have tl:x.f.l.tag<2^64:=by
        have h1:=Lok.out.tag;rw[<-ow.fx]at h1;have h2:If (v.W:Int)<=2^64:=by rcases hv.wd with e | e | e <;> rw[e] <;> decide
        omega
      have xt:=AiL tl;have b5:Ag w w (Ai w4 ⟨B,5,Z⟩ (U AA (Ix x.f.l.tag:Int))):=b4.setCell Bsz _
      have Ed:Own (Ai w4 ⟨B,5,Z⟩ (U AA (Ix x.f.l.tag:Int))) w2 3 1 BD (R A3 (Y x.f.l.ws) c3) x.f.l.ws:=Own.keep Eb (Fo w4 B 5 _) (by
        cases hv:(Value.slice A3 (Y x.f.l.ws) c3).ownBlock with
        | none=>exact .inl Q
        | some k=>exact .inr (fun e=>by
          have h1:=(Cp Eb k hv).1;have h2:k=B:=qsu e;omega))
      have Iu:Imm 1 BD τ (Ai w4 ⟨B,5,Z⟩ (U AA (Ix x.f.l.tag:Int))) (R A3 (Y x.f.l.ws) c3) x.f.l.ws:=Own.imm Ed DY (fun k hk=>Ej k hk);have Jb:(Ai w4 ⟨B,5,Z⟩ (U AA (Ix x.f.l.tag:Int))).heap[B]?=I (N #[U O x.f.d,U O x.f.l.ses,U O x.f.l.kind,U O x.f.l.num,R A3 (Y x.f.l.ws) c3,U AA (Ix x.f.l.tag:Int)] 41 (0,0)):=CM w4 B 5 _ _ _ Tp;have eE5:(Ai w4 ⟨B,5,Z⟩ (U AA (Ix x.f.l.tag:Int))).heap[AM]?=I (N #[U O 5,U O n,U O c] 29 (0,0)):=(Jo w4 ⟨B,5,Z⟩ AM _ (qsu nBE)).trans eE1
      have eb:f.l.QI c={f.l with tag:=Ix f.l.tag}:=by
        unfold Lt.QI;rw[<-ow.fx,AU hc]
      have bf5:=CJ w4 B 5 _ _ Tp;obtain⟨old,o1,o2,pe⟩:=uL h fr ow b5.drew (x':=⟨⟨x.f.d,{x.f.l with tag:=Ix x.f.l.tag}⟩,A3,c3⟩) (Iu.keep (Kp.of (Ae _ _).drew))
      have Pe:Aj (Dh τ w M v {q with way:=q.way.set n ⟨f.d,f.l.QI c⟩} ((Ai w4 ⟨B,5,Z⟩ (U AA (Ix x.f.l.tag:Int))).drew.setRow g (old.toList.take (n*6)++ ([U O x.f.d,U O x.f.l.ses,U O x.f.l.kind,U O x.f.l.num,R A3 (Y x.f.l.ws) c3,U AA (Ix x.f.l.tag:Int)]:List An)++ old.toList.drop (n*6+6)).toArray)):=F (by
        rw[eb,<-ow.fx];exact pe)
      have p39:=(h.on b5).row.c 39;rw[show M.X.cs[39]?=I (R (I ⟨g,0,Z⟩) (Y fv) cw)from by rw[<-ow.val];rfl]at p39;clear pe eb Iu Ed Eb hc;rcases hb0 with g7 | ⟨g7,g8⟩
      all_goals(
      go_upto_region 22 with fail;go_upto_region 23 with fail;obtain⟨w5,Ct⟩:=Az (Ai w4 ⟨B,5,Z⟩ (U AA (Ix x.f.l.tag:Int)));rw[Ct]at b5 Jb eE5 o1 Pe p39 ⊢;clear Ct;have gM:g≠M.b:=fun e=>h.wb g (by rw[ow.val];rfl) e
      have glt:g<↑w:=(h.XD g (by rw[ow.val];rfl)).2;have gB:B≠g:=J;have gE:AM≠g:=by have:=G.lo.2;omega
      refine Fz (S:=fun w'=>w'.heap[B]?=I (N #[U O x.f.d,U O x.f.l.ses,U O x.f.l.kind,U O x.f.l.num,R A3 (Y x.f.l.ws) c3,U AA (Ix x.f.l.tag:Int)] 41 (0,0))/\E w' ⟨AM,1,Z⟩=I (U O n)/\E w' ⟨M.b,39,Z⟩=I (R (I ⟨g,0,Z⟩) (Y fv) cw)) AG ⟨Jb,AX w5 AM 1 _ _ _ eE5,p39⟩ (fun hHeld=>?_);refine tQ4 0 ?_;refine tQ2 4 ?_;refine G3 (i:=6) (v:= Ba #[U O x.f.d,U O x.f.l.ses,U O x.f.l.kind,U O x.f.l.num,R A3 (Y x.f.l.ws) c3,U AA (Ix x.f.l.tag:Int)]) Q AG AG AG (fun _ _ _ h=>h) (MQ Q 41 _ (by rfl) B 0 (by rfl) #[U O x.f.d,U O x.f.l.ses,U O x.f.l.kind,U O x.f.l.num,R A3 (Y x.f.l.ws) c3,U AA (Ix x.f.l.tag:Int)] _ (fun w hS j v hv=>by rw[EE];exact(AX w B j _ _ _ hS.1).trans hv) underlying41 Q (qiz 41 6)) (by assumption) ?_;refine zp ?_;refine tQ 7 ?_;refine url 8 (fun KU Bc=>?_);refine gG Q 41 _ _ Q g (n*6) #[U O x.f.d,U O x.f.l.ses,U O x.f.l.kind,U O x.f.l.num,R A3 (Y x.f.l.ws) c3,U AA (Ix x.f.l.tag:Int)] (by rfl) (by rfl) 41 _ _ o1 (qiz 41 6) o2 AG Q ?_;have oS:AT (fun k=>k=g) w5 (w5.setRow g (old.toList.take (n*6)++ ([U O x.f.d,U O x.f.l.ses,U O x.f.l.kind,U O x.f.l.num,R A3 (Y x.f.l.ws) c3,U AA (Ix x.f.l.tag:Int)]:List An)++ old.toList.drop (n*6+6)).toArray):=AT.grown (Fw w5 g _) (fun k hk=>by cases hk;exact .inl Q);refine Bc.out _ _ ⟨oS.row Jb gB,oS.cell (AX w5 AM 1 _ _ _ eE5) gE,oS.cell p39 gM.symm⟩ (fun _=>?_);refine zp ?_;refine Ce ?_;go_wp2;go_ret;rw[hr.out];have e9:=Pe.out;simp only[List.append_assoc,List.cons_append,List.nil_append]at e9;exact⟨Q,e9⟩)
  all_goals(
    have hr:Aj (AW=if k=3 then({q with way:=q.way.eraseIdx n},0)else v.Tm q n f):=F (by rw[HR.out,AU (by rw[hk];decide),AU (by rw[hk];decide)]);subst hk;clear HR;go_upto_region 25 with fail;obtain⟨Af,cf,hef,lef,cmx,_,arf⟩:=ow.own.form BW.BY;cases hef;obtain⟨A2,FK⟩:=Az ((if cw=n+1 then I (⟨g,0,Z⟩:AS)else I ⟨g,(n+1)*6,Z⟩))
    have uN:Arr 6 BW.enc w w A2 (fv.drop (n+1)):=by
      rw[<-FK];split
      · have e0:fv.drop (n+1)=[]:=X6 J
        rw[e0];exact Arr.nil
      · have h1:=Arr.drop arf (n+1)
        rw[EE]at h1;exact h1
    have nA2:A2=Z->cw-(n+1)=0:=by rw[<-FK];split <;> (intro e;cases e)
    have uO:=Arr.take arf n;have l1:n<=cw:=J;have l2:(n:Int)+1<=(Y fv:Int):=J;have l5:(0:Int)<=(n:Int)+1:=J;have l3:IntKind.i64.wrap ((n:Int)+1)=(n:Int)+1:=by have:=Hln.out;have:=HL.out;rw[IntKind.wrap_i64];omega
    have l4:((n:Int)+1).toNat=n+1:=J;have S0:E w2.drew ⟨AM,1,Z⟩=I (U O n):=e1;have b3:Ag w2 w2 (Ao w2 (N #[R (I ⟨g,0,Z⟩) n cw,R A2 (Y fv-(n+1)) (cw-(n+1))] 34)).drew:=(AB (Ae _ _) _).drew;have S3:=AK b3 e1;have Ll:(fv.take n).length=n:=by rw[DC];omega
    have hl2:(fv.drop (n+1)).length=Y fv-(n+1):=SI;have c0:E (Ao w2 (N #[R (I ⟨g,0,Z⟩) n cw,R A2 (Y fv-(n+1)) (cw-(n+1))] 34)).drew ⟨w2,0,Z⟩=I (R (I ⟨g,0,Z⟩) n cw):=Cb Q;have c1:E (Ao w2 (N #[R (I ⟨g,0,Z⟩) n cw,R A2 (Y fv-(n+1)) (cw-(n+1))] 34)).drew ⟨w2,1,Z⟩=I (R A2 (Y fv-(n+1)) (cw-(n+1))):=Cb Q;have cC:=AiP w2 (I ⟨g,0,Z⟩) A2 cw (cw-(n+1)) (fv.take n) (fv.drop (n+1)) (Ao w2 (N #[R (I ⟨g,0,Z⟩) n cw,R A2 (Y fv-(n+1)) (cw-(n+1))] 34)).drew (qrf Ll c0) (qrf hl2 c1) ((uO.on G.b).on b3) ((uN.on G.b).on b3) (by intro e;cases e) nA2 (by have:=Hln.out;have:=HL.out;omega) (by have:=Hln.out;have:=HL.out;omega);have B3:=F (AH G.b b3);have T3:=F b3;obtain⟨w3,hw3⟩:=Az ((Ao w2 (N #[R (I ⟨g,0,Z⟩) n cw,R A2 (Y fv-(n+1)) (cw-(n+1))] 34)).drew);rw[hw3]at T3 B3 cC S3;clear b3 c0 c1 uO uN Ll hl2 nA2;refine Fz (S:=fun w'=>E w' ⟨AM,1,Z⟩=I (U O n)) AG e1 (fun hHeld=>?_);refine tQ4 0 ?_;refine tQ2 5 ?_;refine tQ2 8 ?_;refine tQ 10 ?_;refine tQ2 12 ?_;refine tQ 14 ?_;refine I8 [4,11] ?_;refine Dj Q (fun KU Bc=>?_) (Dj Q (fun KU Bc=>?_) GQ)
    all_goals(first | (go_simp;refine Bc.out _ _ S0 (fun _=>?_);refine zp ?_;refine tQ 7 ?_;(refine url 11 (fun KU Bc=>?_);go_simp);refine Bc.out _ _ S0 (fun _=>?_);refine zp ?_;refine tQ 15 ?_;refine zp ?_) | (go_simp;refine Bc.out _ _ S0 (fun _=>?_);refine zp ?_;refine tQ 15 ?_;(refine url 4 (fun KU Bc=>?_);go_simp);refine Bc.out _ _ S0 (fun _=>?_);refine zp ?_;refine tQ 7 ?_;refine zp ?_))
    all_goals(
      refine url 16 (fun KU Bc=>?_);go_simp;refine Bc.out _ _ S3 (fun _=>?_);refine zp ?_;refine url 17 (fun KU Bc=>?_);go_simp;refine cC.mono ?_;rintro e w4⟨v4,rfl,Eb,hb4⟩;have S4:=AK hb4 S3;have B4:=AH T3.out hb4;have Tf:∀k,v4.ownBlock=I k->M.X.way.ownBlock=I k\/w2.heap.size<=k:=fun k hk=> .inr (Br T3.out.size (Cp Eb k hk).1)
      have MX:∀y∈fv.take n++ fv.drop (n+1),y.Im τ w2:=fun y hy=>by
        have hy:y∈fv:=by
          rcases OV.1 hy with hy | hy
          · exact Ui hy
          · exact List.mem_of_mem_drop hy
        exact Imm.keep (ow.im y hy) (Kp.of G.b)
      obtain⟨τ9,f9,Ek,h9⟩:=P2.je Ej (AT.of B4) (Own.down Eb (BM _)) MX Tf;have Tp:Gu w4 M.b M.X:=(P2.on B4).row;have H8:=Tp.c 39;have IK:=Tp.fr 39;obtain⟨A4,c4,hv4,_,_,_,_⟩:=Eb.form BW.BY;obtain⟨n4,hn4⟩:=Az ((fv.take n++ fv.drop (n+1)).length);rw[hn4]at hv4
      have RL:Aj (∃τ' M',EN M.T τ τ' w (Ai w4 ⟨M.b,39,Z⟩ v4)/\BU τ' (Ai w4 ⟨M.b,39,Z⟩ v4)/\CO τ' (Ai w4 ⟨M.b,39,Z⟩ v4) M' v {q with way:=q.way.eraseIdx n}/\GO M M'/\τ' B=0):=F (by
        refine⟨τ9,{M with X:={M.X with way:=v4}},(EN.of G.b).trans (f9.t (.inl Q)),Ek,?_,⟨Q,Q,Q,Q⟩,(f9.tag B (Bm.1 G.row).1).trans (fr B G.lo.1)⟩;have e:(fv.take n++ fv.drop (n+1)).map BW.f=q.way.eraseIdx n:=by rw[SQ,List.map_take,List.map_drop,ow.map,List.eraseIdx_eq_take_drop_succ]
        rw[e]at h9;exact h9)
      have nEM:AM≠M.b:=by have:=(Bm.1 h.row).1;have:=G.lo.1;have:=G.lo.2;omega
      have eE5:(Ai w4 ⟨M.b,39,Z⟩ v4).heap[AM]?=I (N #[U O _,U O n,U O c] 29 (0,0)):=(Jo w4 ⟨M.b,39,Z⟩ AM _ (qsu nEM)).trans ((B4.block AM (Bm.1 G.e).1).trans G.e);have S5:=AX _ AM 1 _ _ _ eE5;have k5:=AX _ AM 0 _ _ _ eE5;clear eE5;clear h9 f9 Ek Tp Tf MX Eb hb4;subst hv4;refine Bc.out _ _ S4 (fun _=>?_);refine zp ?_;refine tQ2 18 ?_;refine url 20 (fun KU Bc=>?_);go_simp;refine Bc.out _ _ S5 (fun _=>?_);refine zp ?_;refine Ce ?_
      first
      | (go_wp2_with fail
         go_ret;rw[hr.out,Bd (by trivial)];obtain⟨τ9,M9,F9,Ek,h9,px9,_⟩:=RL.out;exact⟨Q,τ9,M9,F9,Ek,h9,px9⟩)
      | (obtain⟨τ9,M9,F9,Ek,h9,px9,TB⟩:=RL.out
         have hfw:=DI HF.out;have hfd:=(iv.way f hfw).1;have lok:=(iv.way f hfw).2;rw[<-ow.fx]at hfd lok;have xm:x∈fv:=DI ow.at_;obtain⟨w5,Ct⟩:=Az (Ai w4 ⟨M.b,39,Z⟩ (Value.slice A4 n4 c4));have bB:w5.heap[B]?=I (N x 41 (0,0)):=by rw[<-Ct];exact(Jo w4 ⟨M.b,39,Z⟩ B _ (by have:=(Bm.1 h.row).1;have:=G.lo.1;simp;omega)).trans ((B4.block B (Bm.1 G.row).1).trans G.row)
         rw[Ct]at F9 Ek h9 S5 k5 ⊢;have im9:=Imm.keep (ow.im x xm) (F9.kp h.tags.zero);have iv9:BO (v.z x.f.d) ((⟨q.x,q.y,q.way.eraseIdx n,q.fl⟩:Bt).at x.f.d):=iv.at hfd;obtain⟨b,Ja,cT⟩:=AiH h9 Ek hv hfd iv9 (by have:=HL.out;have:=List.length_eraseIdx_le (l:=q.way) (i:=n);simp only;omega) x.f.l (by have:=lok.len;omega) im9;rw[px9.b]at Ja cT;obtain⟨r,hr2⟩:=Az ((v.z x.f.d).Gj ((⟨q.x,q.y,q.way.eraseIdx n,q.fl⟩:Bt).at x.f.d) x.f.l);rw[hr2]at cT
         have hr3:Aj (AW=(⟨((⟨q.x,q.y,q.way.eraseIdx n,q.fl⟩:Bt).put x.f.d r.1).x,((⟨q.x,q.y,q.way.eraseIdx n,q.fl⟩:Bt).put x.f.d r.1).y,I2 (1-x.f.d) (q.way.eraseIdx n) r.2.1,((⟨q.x,q.y,q.way.eraseIdx n,q.fl⟩:Bt).put x.f.d r.1).fl⟩,r.2.2)):=F (by
           rw[hr.out,AU AC,<-hr2,<-ow.fx];unfold Bj.Tm Bt.put Bt.at;split <;> simp[*])
         have F10:=F F9;have Px9:=F px9;have TB9:=F TB;clear hr2 Ct F9 Ek h9 im9 iv9 lok S5 px9 TB RL S4 B4;obtain⟨D,hD⟩:=Az (x.f.d);rw[hD]at bB Ja cT hr3 hfd;clear hD;have c0:=AX w5 B 0 _ _ _ bB
         have LL:∀w':V,w'.heap[B]?=w5.heap[B]?->∀(j:Nat) (u:An),(#[U O x.f.l.ses,U O x.f.l.kind,U O x.f.l.num,R x.A (Y x.f.l.ws) x.c,U AA x.f.l.tag]:Array An)[j]?=I u->E w' ⟨B,1+j,Z⟩=I u:=fun w' hw j u hu=>by
           refine(AX w' B (1+j) _ _ _ (hw.trans bB)).trans ?_;rw[Nat.add_comm 1 j];simpa using hu
         have bR:=F bB;clear bB;rcases hfd with rfl | rfl
         all_goals(
           first | simp only[show 37+Int.toNat 0=37 from rfl]at Ja | simp only[show 37+Int.toNat 1=38 from rfl]at Ja
           first | simp only[show(1:Int)-0=1 from rfl]at cT | simp only[show(1:Int)-1=0 from rfl]at cT
           go_upto_region 28 with fail;refine Fz (S:=fun w'=>w'.heap[B]?=w5.heap[B]?/\E w' ⟨B,0,Z⟩=I (U O _)/\E w' ⟨M.b,_,Z⟩=I (AI (I ⟨b,0,Z⟩))) AG ⟨rfl,c0,Ja⟩ (fun gU=>?_);refine tQ4 0 ?_;refine tQ4 4 ?_;refine G3 (i:=8) (v:= Ba #[U O x.f.l.ses,U O x.f.l.kind,U O x.f.l.num,R x.A (Y x.f.l.ws) x.c,U AA x.f.l.tag]) Q AG AG AG (fun _ _ _ h=>h) (MQ Q 39 _ (by rfl) B 1 (by rfl) #[U O x.f.l.ses,U O x.f.l.kind,U O x.f.l.num,R x.A (Y x.f.l.ws) x.c,U AA x.f.l.tag] _ (fun w hS j v hv=>LL w hS.1 j v hv) underlying39 Q (qiz 39 5)) (by assumption) ?_;refine zp ?_;refine url 9 (fun KU Bc=>?_);go_simp;refine(cT _ (Ae _ _).drew).mono ?_;rintro e w6⟨vl,rfl,kB,kM,cF⟩;refine Bc.out _ _ ⟨(kB B _ TB9.out bR.out).trans bR.out.symm,AX w6 B 0 _ _ _ (kB B _ TB9.out bR.out),kM _ _ Ja⟩ (fun _=>?_);refine zp ?_;refine tQ4 10 ?_;refine tQ 14 ?_;refine Ce ?_;have d0:=AX w6 B 0 _ _ _ (kB B _ TB9.out bR.out);clear LL cT kM kB c0 Ja;have cG:=cF w6 (Ae _ _);clear cF;go_wp2_with fail;refine gqz cG fun w7 pe=>?_;have pe2:=F (Dh.of F10.out Px9.out pe);clear pe;go_wp2;go_ret;rw[hr3.out];exact⟨Q,pe2.out⟩))))
end
end Go.Proofs.YtjpidgffdkjjeaaGreat
