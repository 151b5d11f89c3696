/- Contracts and plain laws. No condition. -/
import Derived.Test.YtjpidgffdkjjeaaGreatCA
import Derived.Test.YtjpidgffdkjjeaaGreatC19
set_option linter.all false
set_option maxHeartbeats 16000000
namespace Go.Proofs.YtjpidgffdkjjeaaGreat
open Go.Proofs.Tryz
open Go.Proofs.Tryz renaming prog->AE
open List renaming length->Y
open Go.World renaming cell?->E,setCell->Ai,alloc->Ao,frozen?->Bo
open Go.Value renaming int->U,slice->R,pointer->AI,agg->Ba,tuple->Be,nilFunc->Bl,bool->Av
open Go.IntKind renaming i64->O,u64->AA,u32->BF,u8->Cd
open Option renaming none->Z,some->I
open Go.Ending renaming returned->AN
open Go.Obj renaming cells->N
open Go renaming World->V,Value->An,Calls->AL,Addr->AS
open Go.RowKit renaming Below->Ag,Hid->Aj
set_option maxRecDepth 100000
open Go.RowKit Go.Maps
section
variable {τ:Nat→Nat} {w w':V} {i b W nb mb:Nat} {x:BR} {bits:List Bool} {a:Bb}
theorem Aeu{z:AV}{ws:List Int}(h:Y ws≠3):z.Ta a ws=Z:=by
 unfold AV.Ta
 grind
theorem Aev{ws:List Int}(h:Y ws=3):∃p q r,ws=[p,q,r]:=by
 cases ws with
 | nil=>simp at h
 | cons p l=>cases l with
  | nil=>simp at h
  | cons q l=>cases l with
   | nil=>simp at h
   | cons r l=>grind
def Wi{p:Int}(h:okW p=true):∃n:Nat,p=(n:Int):=by
 unfold okW AR at h;exact DV (Ib h).1
def rK(v:Bool):([EM v]).all okW=true:=by cases v <;> decide
def Aew(h:Bx τ w i b x W nb mb bits a)(hi:i≠0)(fr:BU τ w)(ok:Gi x.s W)(L:Nat)(hL:a.last=(L:Int))(hl:1<=L/\L<=1000)(MP:CF a.ledger=0)(hbl:Y a.block<=512)
  (A:Option AS) (k:Nat) (ws:List Int) (hv:Imm 1 BD τ w (R A (Y ws) k) ws) (hw:ws.all okW=true):
  AL AE 201 #[AI (I ⟨b,0,Z⟩),R A (Y ws) k] w fun e w'=>QD τ w i b W nb mb bits x ((x.z W bits).Ta a ws) e w':=by
 by_cases h1:Y ws=3
 case neg=>
  rw[Aeu h1];have g1:((Y ws:Int) == 3)=false:=by simp;omega
  go_in;go_wp2_with(go_at_call 220;refine(IT _).mono ?_;rintro e w2 ⟨⟨u,v,rfl⟩,hb2⟩);exact⟨Q,.inl ⟨rfl,⟨_,_,rfl⟩,hb2⟩⟩
 obtain⟨p',f',t',rfl⟩:=Aev h1;have hall:=EA.1 hw;obtain⟨p,rfl⟩:=Wi (hall p' AO);obtain⟨f,rfl⟩:=Wi (hall f' AO);obtain⟨t,rfl⟩:=Wi (hall t' AO);obtain⟨A',c',MO,_,_,_,hA,tA⟩:=hv;cases MO;obtain⟨bk,off,y,rfl,BN,hq,c0⟩:=hA.int (k:=0) AO (Ae _ _);obtain rfl:(p:Int)=y:=qsu hq.out;obtain⟨bk1,Aex,y1,he1,_,CT,c1⟩:=hA.int (k:=1) AO (Ae _ _);obtain rfl:(f:Int)=y1:=qsu CT.out;cases he1;obtain⟨bk2,TQ,y2,he2,_,Et,c2⟩:=hA.int (k:=2) AO (Ae _ _);obtain rfl:(t:Int)=y2:=qsu Et.out;cases he2;have JW:E w ⟨bk,off,Z⟩=I (U O p):=qsu c0;rw[show([(p:Int),(f:Int),(t:Int)]:List Int).length=3 from rfl];obtain⟨Ab,cb,FU,lb,Fi,FC,arb,tgb⟩:=h.li.block;have Po:E w ⟨b,52,Z⟩=I (R Ab (Y a.block) cb):=qrb FU (h.row.c 52);have FZ:=ok.n;obtain⟨P,hP⟩:=DV (show 0<=x.s.passes by have:=FZ.passes;omega);obtain⟨K,hK⟩:=DV (show 0<=x.s.pblk by have:=FZ.pblk;omega);have cP:=rB (h.on (Ae _ _).drew) L hL hl.2 ok;simp only[hP,hK]at cP;obtain⟨Cr,hZ⟩:=Az ((x.s.pseed+Ph x.s.seed L)%18446744073709551616);rw[hZ]at cP;obtain⟨c,hc⟩:∃c0:Cas,c0=⟨P,K,Cr,Y a.block⟩:=⟨_,Q⟩
 have Xt:(x.z W bits).Pi a=c:=by
  rw[hc];unfold AV.Pi;rw[hL,show(x.z W bits).s=x.s from rfl,hP,hK];simp only[Int.toNat_natCast];rw[hZ]
 have BI:c.Ok:=by
  rw[hc];have h1:=FZ.passes;have h2:=FZ.pblk;exact⟨by simp only;omega,by simp only;omega,hbl⟩
 have hval:c.val ⟨p,f,t⟩↔((p:Int)<x.s.passes/\(f:Int)<(t:Int)/\(t:Int)<=(Y a.block:Int)):=by
  rw[hc,hP];unfold Cas.val;simp only;omega
 have S0:=(Ae w w).drew;have Aey:=qbc Po;have A0:=qbc JW;have A1:=qbc c1;have A2:=qbc c2;clear hA hq CT Et c0 h1 hw hall hZ FU tgb hP hK;by_cases Dp:c.val ⟨p,f,t⟩
 case neg=>
  have e1:(x.z W bits).Ta a [(p:Int),f,t]=Z:=by show(if(p:Int)<x.s.passes/\(f:Int)<t/\(t:Int)<=Y a.block then _ else Z)=Z;rw[AU (fun e=>Dp (hval.2 e))]
  rw[e1]
  have cR:∀y,AL AE 234 #[Ba #[U O P,U O K,U AA Cr],R Ab (Y a.block) cb,Ba #[U O p,U O f,U O t]] y fun e w'=>e=AN (Be #[Av false,U O 3])/\Ag y y w':=fun y=>by
   have:=Aes c BI Ab cb ⟨p,f,t⟩ Dp y;rw[hc]at this;exact this
  clear hval Dp Xt hc BI e1;go_in;go_upto_region 2 with(go_at_call 220;refine(FM _).mono ?_;rintro e w2 ⟨rfl,rfl⟩)
  refine qrh w S0 fun hHeld=>?_
  refine tQ 0 ?_;refine tQ4 2 ?_;refine tQ4 6 ?_;refine tQ4 10 ?_;refine tQ2 14 ?_;refine tQ 16 ?_;refine url 1 (fun KU Bc=>?_);go_simp;refine gqz cP fun w3 I0=>?_;have hb3:=AH S0 I0;refine Bc.out _ _ hb3 (fun _=>?_);refine zp ?_;refine url 17 (fun KU Bc=>?_);go_simp;refine gqz (cR _) fun w4 LU=>?_;have hb4:=AH hb3 LU;refine Bc.out _ _ (hb4) (fun _=>?_);refine zp ?_;refine tQ4 18 ?_;refine tQ 22 ?_;refine Ce ?_;go_wp2_with(go_at_call 220;refine(IT _).mono ?_;rintro e w5 ⟨⟨u,v,rfl⟩,Bh⟩);exact⟨Q,.inl ⟨rfl,⟨_,_,rfl⟩,AH hb4 Bh⟩⟩
 obtain⟨AW,hR⟩:=Az (par a.block (c.part ⟨p,f,t⟩))
 have E1:Aj ((x.z W bits).Ta a [(p:Int),f,t]=I ((x.z W bits).send (a.enter 1 1) 7 [EM AW])):=F (by
  show(if(p:Int)<x.s.passes/\(f:Int)<t/\(t:Int)<=Y a.block then _ else Z)=_;rw[Bd (hval.1 Dp),Xt];simp only[Int.toNat_natCast];rw[hR])
 have cR:∀y,Ag w w y->AL AE 234 #[Ba #[U O P,U O K,U AA Cr],R Ab (Y a.block) cb,Ba #[U O p,U O f,U O t]] y fun e w'=>e=AN (Be #[Av AW,U O 0])/\Ag y y w':=fun y hy=>by
  have:=Aet c BI Ab cb a.block (by rw[hc]) ⟨p,f,t⟩ Dp y (arb.on hy);rw[hR,hc]at this;exact this
 clear hval Dp Xt hc BI hR;go_in;go_upto_region 2 with(go_at_call 220;refine(FM _).mono ?_;rintro e w2 ⟨rfl,rfl⟩)
 refine qrh w S0 fun hHeld=>?_
 refine tQ 0 ?_;refine tQ4 2 ?_;refine tQ4 6 ?_;refine tQ4 10 ?_;refine tQ2 14 ?_;refine tQ 16 ?_;refine url 1 (fun KU Bc=>?_);go_simp;refine gqz cP fun w3 I0=>?_;have hb3:=AH S0 I0;refine Bc.out _ _ hb3 (fun _=>?_);refine zp ?_;refine url 17 (fun KU Bc=>?_);go_simp;refine gqz (cR _ hb3) fun w4 LU=>?_;have hb4:=AH hb3 LU;refine Bc.out _ _ (hb4) (fun _=>?_);refine zp ?_;refine tQ4 18 ?_;refine tQ 22 ?_;refine Ce ?_;have h4:=h.on hb4;have JB:=fr.on hb4.size;have cE:=bJ h4 hi JB (Ns.1 MP).1 1 1;clear cR cP Aey A0 A1 A2 I0 LU Po JW c1 c2 hHeld;go_upto_region 5 with(first | (go_at_call 220;refine(FM _).mono ?_;rintro e w2 ⟨rfl,rfl⟩) | (go_at_call 235;refine cE.mono ?_;rintro e w5 ⟨rfl,x5,f5,h5,fx5⟩))
 have f05:=(Frm.of (τ:=τ) (i:=i) hb4).trans f5;have Is:=fr.on f05.out.size;have hL5:(a.enter 1 1).last=(L:Int):=by rw[<-hL];unfold Bb.enter;split <;> rfl
 obtain⟨a5,ha5⟩:=Az (a.enter 1 1);rw[ha5]at h5 hL5 E1;have im:=Imm.lit Is #[U O (EM AW)] 3 [EM AW] Q AO;simp only[List.length_cons,List.length_nil,Nat.zero_add]at im;have b6:=AB (Ae w5 w5) (N #[U O (EM AW)] 3);have Aez:1<=a5.last/\a5.last<=1000:=by rw[hL5];omega
 have cS:=Qx (h5.on b6) hi (Is.on b6.size) 7 _ [EM AW] im (Qy Aez AC (TY h5) (Fg Q)) (rK AW);clear h4 cE im;obtain⟨v,hv⟩:=Az (EM AW);have cB:=fun y=>bI AW y
 rw[hv]at cS E1;simp only[hv]at cB;rw[hv]at b6;go_wp2_with(go_at_call 224;refine(cB _).mono ?_;rintro e w6 ⟨rfl,rfl⟩);refine cS.mono ?_;rintro e FW⟨x',v',rfl,hf,hs,hO,fx⟩;go_wp2;go_ret;exact .inr ⟨_,E1.out,DA.send fr (f05.trans (Frm.of b6)) (x1:=x5) ⟨fx5.s,fx5.side,fx5.pool⟩ hf hs hO ⟨fx.s,fx.side,fx.pool⟩⟩
end
section
variable {τ:Nat→Nat} {w w':V} {i b W nb mb:Nat} {x:BR} {bits:List Bool} {a:Bb}
theorem Bx.record(h:Bx τ w i b x W nb mb bits a)(hi:i≠0)(fr:BU τ w){w1:V}{v':An}{rv:List EZ}{r:EZ}{q:Rc}(hlen:Y rv=Y a.recs)(AeA:∀(k:Nat) (r:EZ) (q:Rc),rv[k]?=I r->a.recs[k]?=I q->DS τ w r q)
  (AjG:∀k,x.recs.ownBlock=I k->τ k=i) (hlt:∀k,x.recs.ownBlock=I k->k<↑w) (hq:DS τ w r q) (hO:AT (fun k=>x.recs.ownBlock=I k) w w1) (T7:Own w1 0 70 6 EZ.enc v' (rv++ [r])) (Tf:∀k,v'.ownBlock=I k->x.recs.ownBlock=I k\/w.heap.size<=k):
  ∃τ',Frm τ τ' w (Ai w1 ⟨b,37,Z⟩ v') i/\BU τ' (Ai w1 ⟨b,37,Z⟩ v')/\Bx τ' (Ai w1 ⟨b,37,Z⟩ v') i b {x with recs:=v'} W nb mb bits {a with recs:=a.recs++ [q]}:=by
 have hbl:=(Bm.1 h.row).1;have Pn:=h.pool.at_.us.lt;obtain⟨S,hS⟩:∃S:Nat->Prop,S=fun k=>v'.ownBlock=I k/\w.heap.size<=k:=⟨_,Q⟩
 have IU:∀k,k<↑w->Fh τ S i k=τ k:=fun k hk=>JY (fun e=>by grind)
 have ho:AT (fun k=>k=b) w1 (Ai w1 ⟨b,37,Z⟩ v'):=AT.set (S:=fun k=>k=b) Q;have NF:AT (fun k=>k=b\/x.recs.ownBlock=I k) w (Ai w1 ⟨b,37,Z⟩ v'):=(hO.mono (fun k _ hk=> .inr hk)).trans (ho.mono (fun k _ hk=> .inl hk));have iD:Cu w1 b x:=hO.row h.row (fun e=>(h.rb b e).1 Q);have Te:Cu (Ai w1 ⟨b,37,Z⟩ v') b {x with recs:=v'}:=iD.set 37 v' Q
 have nvb:∀k,v'.ownBlock=I k->k≠b/\k≠mb:=fun k hk=>by
  rcases Tf k hk with h1 | h1
  ·exact h.rb k h1
  omega
 have CU:=Own.keep T7 (Fo w1 b 37 v') (by
  grind)
 have vlt:∀k,v'.ownBlock=I k->k<(Ai w1 ⟨b,37,Z⟩ v').heap.size:=fun k hk=>(Cp CU k hk).2
 obtain⟨w2,hw2⟩:=Az (Ai w1 ⟨b,37,Z⟩ v');rw[hw2]at NF Te CU vlt ⊢
 have hk:Kp τ (Fh τ S i) w w2 (fun k=>k=b\/x.recs.ownBlock=I k):=⟨NF,IU,fun k hk e=>by
  rcases hk with rfl | hk
  ·exact hi (h.tb.symm.trans e)
  grind⟩
 refine⟨Fh τ S i,⟨NF.mono (fun k _ hk=>by rcases hk with rfl | hk;exact h.tb;grind),IU⟩,fun k GT=>?_,?_⟩
 ·rw[JY (fun e=>by grind)]
  exact fr k (Br NF.size GT)
 ·refine⟨Te,(IU b hbl).trans h.tb,h.mbb,⟨h.num.last,h.num.ph,h.num.rs,h.num.wt,h.num.sh,h.num.n,h.num.t,h.num.has⟩,h.eps.keep hk,h.lim.keep hk,?_,?_,h.pool.keep hk (fun e=>by rcases e with e | e;exact h.mbb e;exact(h.rb mb e).2 Q),?_,nvb⟩
  ·have:=h.li.keep hk
   exact⟨this.pulses,this.clicks,this.wait,this.sent,this.took,this.ledger,this.kept,this.slots,this.decoys,this.block⟩
  ·have hc:=h.crs.keep hk (fun k e _ h2=>by grind)
   rcases h.crs with⟨h1,h2⟩ | ⟨M,c,m,h1,h2,hM,h3,h4,h5,h6⟩
   ·exact .inl ⟨h1,h2⟩
   ·rcases hc with⟨g1,_⟩ | ⟨M',c',m',g1,g2,gM,g3,g4,g5,g6⟩
    ·have h9:=h1
     rw[h9]at g1;cases g1
    ·have eM:M'.g=M.g:=by rw[h2]at g2;simpa using g2.symm
     have hb2:∀k,M.T k->k<↑w:=fun k hk=>(hM.aM hk).2
     have nT:∀k,M.T k->¬(k=b\/x.recs.ownBlock=I k):=fun k hk e=>by
      rcases e with e | e
      ·exact(h5 k hk).2.1 e
      ·exact(h5 k hk).2.2.2 e
     refine .inr ⟨M,c,m,h1,h2,hM.keep NF (nT _ (.inl Q)) (nT _ (.inr (.inr (.inl Q)))) (fun k hk=>nT k (.inr (.inl hk))) (fun k hk=>nT k (.inr (.inr (.inr hk)))) (fun k hk2=>?_),h3,h4,fun k hk2=>?_,fun k GT hk2=>(IU k (Ck hk2 hM.rows.hi)).trans (h6 k GT hk2)⟩
     ·rcases D4 k M.lo with h7 | h7
      ·exact .inl h7
      ·rcases D4 k M.hi with h8 | h8
       ·exact(hk.h0 k hk2 (h6 k h7 h8)).elim
       ·exact .inr h8
     ·obtain⟨t1,t2,t3,t4⟩:=h5 k hk2
      refine⟨(IU k (hb2 k hk2)).trans t1,t2,t3,fun e=>?_⟩;rcases Tf k e with e2 | e2
      ·exact t4 e2
      ·have:=hb2 k hk2;omega
  ·refine⟨rv++ [r],CU,by simp[hlen],fun k r' q' hr' OX=>?_,fun k hk2=>?_⟩
   ·rcases D4 k (Y rv)with LR | LR
    ·rw[Xe LR]at hr'
     rw[Xe J]at OX;exact(AeA k r' q' hr' OX).keep hk
    ·have h7:=(EF.1 hr').1
     simp at h7;obtain rfl:k=Y rv:=J;rw[XN (Bg _),Lc]at hr';rw[XN J,hlen,Lc]at OX;obtain rfl:r=r':=qsu hr';obtain rfl:q=q':=qsu OX;exact hq.keep hk
   grind [Fh,BU,Own,EZ.enc,Cu]
def Bx.AeB(h:Bx τ w i b x W nb mb bits a)(hi:i≠0)(p:Bool):Bx τ (Ai w ⟨b,56,Z⟩ (Av p)) i b {x with k:={x.k with has:=p}} W nb mb bits {a with has:=p}:=
 h.cell hi 56 _ Q Q Q Q ⟨h.num.last,h.num.ph,h.num.rs,h.num.wt,h.num.sh,h.num.n,h.num.t,rfl⟩ ⟨h.li.pulses,h.li.clicks,h.li.wait,h.li.sent,h.li.took,h.li.ledger,h.li.kept,h.li.slots,h.li.decoys,h.li.block⟩ Q Q Q Q
def MQ{P:Program}{ops:Array Oper}{S:V->Prop}{o:Oper}{a:Act}(hgd:o.guard=Z)(ty:TypeId)(x:Operand)(ho:o.op=.load ty x)
  (g off:Nat) (hx:a.eval x=AI (I ⟨g,off,Z⟩)) (cs:Array An) (d:TypeDesc) (hc:∀w,S w->∀(j:Nat) (v:An),cs[j]?=I v->E w ⟨g,off+j,Z⟩=I v)
  (hu:P.underlying ty=I d) (hd:(match d with | .struct _ | .array _ _=>true | _=>false)=true) (hi:(P.info? ty).map (·.size)=I cs.size):YieldsIf P ops S o (Ba cs) a:=
 .inl ⟨by simp[Region.wanted,hgd],fun w hS=>by
  unfold execOp;simp only[ho,hx,Instr.loadAt,Instr.sureAddr,Sem.run_bind,Sem.run_pure,Result.andThen_ok,WQ w g off ty cs d (hc w hS) hu hd hi]⟩
def AeC:(prog.info? 70).map (fun i=>(i.zero,i.size,i.bytes))=I (I (Ba #[U O 0,R Z 0 0,U O 0,U O 0,R Z 0 0,R Z 0 0]),6,96):=AG
def rL(h:Bx τ w i b x W nb mb bits a)(hi:i≠0)(fr:BU τ w)(ok:Gi x.s W)(L:Nat)(hL:a.last=(L:Int))(hl:1<=L/\L<=1000)(MP:CF a.ledger=0)(hrc:Y a.recs<=1000):
  AL AE 239 #[AI (I ⟨b,0,Z⟩)] w fun e w'=>((x.z W bits).TV a≠0/\e=AN (Av false)/\Ag w w w')\/
   ((x.z W bits).TV a=0/\e=AN (Av true)/\∃τ' x',Frm τ τ' w w' i/\BU τ' w'/\Bx τ' w' i b x' W nb mb bits ((x.z W bits).IS a)/\Fix x x'):=by
 obtain⟨Ab,cb,FU,lb,Fi,FC,arb,tgb⟩:=h.li.block;obtain⟨Al,cl,hlv,ll,ml,nl,arl,tgl⟩:=h.li.ledger;have Po:E w ⟨b,52,Z⟩=I (R Ab (Y a.block) cb):=qrb FU (h.row.c 52);have x47:E w ⟨b,47,Z⟩=I (R Al (Y a.ledger) cl):=qrb hlv (h.row.c 47);have Pp:E w ⟨b,53,Z⟩=I (U O a.n):=by rw[<-h.num.n];exact h.row.c 53
 have Pq:E w ⟨b,54,Z⟩=I (U O a.t):=by rw[<-h.num.t];exact h.row.c 54
 have Ri:E w ⟨b,32,Z⟩=I (U O x.s.margin):=h.row.c 32;have cP:=Z2 (h.on (Ae _ _).drew) L hL hl.2 ok.wd ok.sd;obtain⟨g0,hg0⟩:=Az (RZ x.s.seed L);obtain⟨g1,ER⟩:=Az (Ph x.s.seed L);obtain⟨g2,hg2⟩:=Az (MM x.s.seed L W);obtain⟨g3,hg3⟩:=Az (TR x.s.seed L);rw[hg0,ER,hg2,hg3]at cP;have AeD:=(Ns.1 MP).1;have cD:=qbw w fun y hy=>Ac6 Ab cb a.block a.n a.t Al cl a.ledger x.s.margin g3 y (arb.on hy) (arl.on hy) AeD
 obtain⟨AM,hE⟩:=Az (Pg a.block a.n a.t a.ledger x.s.margin);obtain⟨key,hkey⟩:=Az (MC a.block a.n a.t a.ledger x.s.margin g3);simp only[hE,hkey]at cD;have eE:(x.z W bits).TV a=AM:=hE
 have eP:Aj ((x.z W bits).IS a={a with has:=true,recs:=a.recs++ [⟨a.last,a.block,a.n,a.t,a.ledger,key⟩]}):=F (by
  unfold AV.IS;rw[hL];simp only[Int.toNat_natCast];rw[show(x.z W bits).s=x.s from rfl,hg3,hkey])
 rw[eE];have F3:=Aeb g0 g1 g2 g3;have S0:=(Ae w w).drew;have Si:=qbc Po;have L47:=qbc x47;have L53:=qbc Pp;have L54:=qbc Pq;have L32:=qbc Ri;clear hg0 ER hg2 hg3 hE hkey eE arb arl tgb tgl;go_in;go_upto_region 1 with fail;refine qrh w S0 fun hHeld=>?_
 refine tQ4 0 ?_;refine tQ4 4 ?_;refine tQ4 8 ?_;refine tQ4 12 ?_;refine tQ4 16 ?_;refine tQ4 20 ?_;refine tQ2 24 ?_;refine url 26 (fun KU Bc=>?_);go_simp;refine gqz cP fun w3 I0=>?_;have hb3:=AH S0 I0;refine Bc.out _ _ hb3 (fun _=>?_);refine zp ?_;refine tQ 27 ?_;refine url 28 (fun KU Bc=>?_);go_simp;refine(cD _ hb3).mono ?_;rintro e w4⟨v4,rfl,JC,LU⟩;have hb4:=AH hb3 LU;have hbase:=Br hb3.size (Bg w3);have LH:=(JC.lift hbase).imm Dk (fun k hk=>fr k hk);obtain⟨A4,c4,rfl,l4,m4,n4,Qn⟩:=JC.form Dk;refine Bc.out _ _ (hb4) (fun _=>?_);refine zp ?_;refine tQ4 29 ?_;refine tQ 33 ?_;refine Ce ?_;have h4:=h.on hb4;clear cP cD Si L47 L53 L54 L32 F3 hb3 I0 LU Po x47 Pp Pq Ri hHeld JC S0;by_cases e0:AM=0
 case neg=>
  have g0:(AM != 0)=true:=qsu e0;go_wp2;go_ret;exact .inl ⟨e0,rfl,hb4⟩
 subst e0;have y56:=h4.row.c 56;have z56:=h4.row.fr 56;have h5:=h4.AeB hi true;have f5:=h4.JA 56 (Av true);go_upto_region 5 with fail;obtain⟨w5,Ct⟩:=Az (Ai w4 ⟨b,56,Z⟩ (Av true));rw[Ct]at h5 f5 ⊢;have f05:=(Frm.of (τ:=τ) (i:=i) hb4).trans f5;have Is:=fr.on f05.out.size;have Iu:=LH.keep (f5.kp hi);clear Ct y56 z56 h4 LH Qn f5;obtain⟨Ac,cc,hcv,lc,mc,nc,arc,tgc⟩:=h5.li.block;obtain⟨Am,cm,hmv,lm,mm,nm,arm,tgm⟩:=h5.li.ledger
 have Po:E w5 ⟨b,52,Z⟩=I (R Ac (Y a.block) cc):=by
  have e:=h5.row.c 52;rw[show({x with k:={x.k with has:=true}}:BR).cs[52]?=I x.k.block from rfl,show x.k.block=R Ac (Y a.block) cc from hcv]at e;exact e
 have x47:E w5 ⟨b,47,Z⟩=I (R Am (Y a.ledger) cm):=by
  have e:=h5.row.c 47;rw[show({x with k:={x.k with has:=true}}:BR).cs[47]?=I x.k.ledger from rfl,show x.k.ledger=R Am (Y a.ledger) cm from hmv]at e;exact e
 have Pp:E w5 ⟨b,53,Z⟩=I (U O a.n):=by rw[<-h.num.n];exact h5.row.c 53
 have Pq:E w5 ⟨b,54,Z⟩=I (U O a.t):=by rw[<-h.num.t];exact h5.row.c 54
 have Kz:E w5 ⟨b,38,Z⟩=I (U O a.last):=by rw[<-h.num.last];exact h5.row.c 38
 have Si:=qbc Po;have L47:=qbc x47;have L53:=qbc Pp;have L54:=qbc Pq;have L38:=qbc Kz;have S5:=(Ae w5 w5).drew;refine qrh w5 S5 fun hHeld=>?_
 refine tQ4 0 ?_;refine tQ4 4 ?_;refine tQ4 8 ?_;refine tQ4 12 ?_;refine tQ4 16 ?_;refine tQ4 20 ?_;refine tQ2 24 ?_;refine tQ 26 ?_;refine url 27 (fun KU Bc=>?_);go_simp;have SA:Ag w5 w5 (Ao w5 (N #[U O 0,R Z 0 0,U O 0,U O 0,R Z 0 0,R Z 0 0] 70)).drew:=(AB (Ae _ _) _).drew;refine Bc.out _ _ SA (fun _=>?_);refine zp ?_;refine url 28 (fun KU Bc=>?_);go_simp;have SB:Ag w5 w5 (Ao w5 (N (EZ.enc ⟨(L:Int),R Ac (Y a.block) cc,a.n,a.t,R Am (Y a.ledger) cm,R A4 (Y key) c4⟩).toArray 70)).drew:=(AB (Ae _ _) _).drew;have SB':Ag w5 w5 (Ao w5 (N #[U O L,R Ac (Y a.block) cc,U O a.n,U O a.t,R Am (Y a.ledger) cm,R A4 (Y key) c4] 70)).drew:=SB;refine Bc.out _ _ SB' (fun _=>?_);refine zp ?_;refine Ce ?_;obtain⟨w6,Ge⟩:=Az ((Ao w5 (N #[U O L,R Ac (Y a.block) cc,U O a.n,U O a.t,R Am (Y a.ledger) cm,R A4 (Y key) c4] 70)).drew);have I1:w6.heap[w5.heap.size]?=I (N #[U O L,R Ac (Y a.block) cc,U O a.n,U O a.t,R Am (Y a.ledger) cm,R A4 (Y key) c4] 70 (0,0)):=by rw[<-Ge];exact CB w5 _
 rw[Ge]at SB' ⊢;have h6:=h5.on SB';have f06:=f05.trans (Frm.of (τ:=τ) (i:=i) SB');have fr6:=Is.on SB'.size;have im6:=Iu.keep (Kp.of SB');clear Si L47 L53 L54 L38 Po x47 Pp Pq Kz SA SB hHeld S5 h5;obtain⟨rv,iE,iF,reach,AeE⟩:=h6.recs;have bN:∀k,x.recs.ownBlock=I k->k<↑w6:=fun k hk=>(Cp iE k hk).2
 obtain⟨A8,c8,hrv,l8,m8,n8,ar8⟩:=iE.form EZ.BY
 have x37:E w6 ⟨b,37,Z⟩=I (R A8 (Y rv) c8):=by
  have e:=h6.row.c 37;rw[show({x with k:={x.k with has:=true}}:BR).cs[37]?=I x.recs from rfl,show x.recs=R A8 (Y rv) c8 from hrv]at e;exact e
 obtain⟨r,hr⟩:∃r:EZ,r=⟨(L:Int),R Ac (Y a.block) cc,a.n,a.t,R Am (Y a.ledger) cm,R A4 (Y key) c4⟩:=⟨_,Q⟩
 have hq:DS τ w6 r ⟨a.last,a.block,a.n,a.t,a.ledger,key⟩:=by
  rw[hr];exact⟨hL.symm,Q,Q,hcv▸h6.li.block,hmv▸h6.li.ledger,im6⟩
 obtain⟨B,hB⟩:=Az (w5.heap.size);rw[hB]at I1 ⊢;go_upto_region 6 with fail;have S6:w6.drew.heap[B]?=I (N #[U O L,R Ac (Y a.block) cc,U O a.n,U O a.t,R Am (Y a.ledger) cm,R A4 (Y key) c4] 70 (0,0)):=I1;have W8:Ag w6 w6 (Ao w6 (N #[U O L,R Ac (Y a.block) cc,U O a.n,U O a.t,R Am (Y a.ledger) cm,R A4 (Y key) c4] 70)).drew:=(AB (Ae _ _) _).drew;have S8:=(W8.block B (Bm.1 I1).1).trans I1
 have Tv7:Own w6 0 70 6 EZ.enc (R A8 (Y rv) c8) rv:=by
  have h77:=iE;rw[hrv]at h77;exact h77
 have Tv8:=F (Own.below Tv7 W8)
 have Nw8:Aj (∀j u,(EZ.enc r)[j]?=I u->E (Ao w6 (N #[U O L,R Ac (Y a.block) cc,U O a.n,U O a.t,R Am (Y a.ledger) cm,R A4 (Y key) c4] 70)).drew ⟨w6,j,Z⟩=I u):=F (fun j u hu=>by
  have hcs:(#[U O L,R Ac (Y a.block) cc,U O a.n,U O a.t,R Am (Y a.ledger) cm,R A4 (Y key) c4]:Array An).toList=EZ.enc r:=by rw[hr];rfl
  exact Cb (w:=w6) (by rw[<-hu,<-hcs];simp))
 have One:Aj (∀u∈EZ.enc r,u.oneCell'=true):=F (by rw[hr];simp[EZ.enc,Value.oneCell']);have AeF:Y rv<=1000:=qrf iF hrc;have Hby:Aj ((Y rv+1)*96<=140737488355328):=F J
 have AeG:∀k,x.recs.ownBlock=I k->k<↑w:=by
  obtain⟨rv0,ro,_⟩:=h.recs;exact fun k hk=>(Cp ro k hk).2
 have nB:Aj (x.recs.ownBlock≠I B):=F (fun e=>by
  have h10:=AeG B e;have:=f05.out.size;omega)
 have nBb:Aj (B≠b):=F (fun e=>by
  have h10:=(Bm.1 h.row).1;have:=f05.out.size;omega)
 have AeH:=F iF;clear iF AeF;clear im6 Iu hcv hmv arc arm tgc tgm ar8 hr;refine Fz (S:=fun w'=>w'.heap[B]?=I (N #[U O L,R Ac (Y a.block) cc,U O a.n,U O a.t,R Am (Y a.ledger) cm,R A4 (Y key) c4] 70 (0,0))) AG I1 (fun hHeld=>?_);refine tQ4 0 ?_;refine tQ 4 ?_;refine G3 (i:=6) (v:= Ba #[U O L,R Ac (Y a.block) cc,U O a.n,U O a.t,R Am (Y a.ledger) cm,R A4 (Y key) c4]) Q AG AG AG (fun _ _ _ h=>h) (MQ Q 70 _ (by rfl) B 0 (by rfl) #[U O L,R Ac (Y a.block) cc,U O a.n,U O a.t,R Am (Y a.ledger) cm,R A4 (Y key) c4] _ (fun w hS j v hv=>by rw[EE];exact(AX w B j _ _ _ hS).trans hv) underlying70 Q (qiz 70 6)) (by assumption) ?_;refine zp ?_;refine I8 [5,7] ?_;refine Dj Q (fun KU Bc=>?_) (Dj Q (fun KU Bc=>?_) GQ)
 focus
  go_simp
  refine Bc.out _ _ S6 (fun _=>?_);refine zp ?_;refine url 7 (fun KU Bc=>?_)
 rotate_left
 focus
  go_simp
  refine Bc.out _ _ S8 (fun _=>?_);refine zp ?_;have AjH:=AK W8 x37;refine url 5 (fun KU Bc=>?_)
 rotate_left
 all_goals
  go_simp;refine Bc.out _ _ S8 (fun _=>?_);refine zp ?_;refine url 8 (fun KU Bc=>?_);refine UL (enc:=EZ.enc) Tryz.underlying64 AeC rv r Tv8.out Nw8.out One.out Hby.out (BM _) ?_;intro v10 Bs DX FI Ln;have Sj:AT (fun k=>x.recs.ownBlock=I k) w6 Bs:=(AT.of W8).trans (AT.grown FI (fun g hg=> .inl (by rw[show x.recs=R A8 (Y rv) c8 from hrv];exact hg)))
  have Z5:∀k,v10.ownBlock=I k->x.recs.ownBlock=I k\/w6.heap.size<=k:=fun k hk=>by
   rcases Ln with h1 | ⟨X,h1,h2⟩
   ·left;rw[show x.recs=R A8 (Y rv) c8 from hrv,<-h1];exact hk
   ·right
    rw[h1]at hk;obtain rfl:=Option.some.inj hk;exact Br W8.size h2
  have FL:=Sj.row I1 (fun e=>by have:=h6.rb B e;exact nB.out e);obtain⟨τ9,f9,Ek,h9⟩:=h6.record hi fr6 AeH.out reach AeE bN hq Sj DX Z5;have Fr:Cu Bs b {x with k:={x.k with has:=true}}:=Sj.row h6.row (fun e=>(h6.rb b e).1 Q);have y37:=Fr.c 37;have z37:=Fr.fr 37;obtain⟨DM,c10,OO,_,_,_,_⟩:=DX.form EZ.BY;obtain⟨n10,UO⟩:=Az ((rv++ [r]).length);rw[UO]at OO;have RL:=F (show∃τ' x',Frm τ τ' w (Bs.setCell ⟨b,37,Z⟩ v10) i/\BU τ' (Bs.setCell ⟨b,37,Z⟩ v10)/\Bx τ' (Bs.setCell ⟨b,37,Z⟩ v10) i b x' W nb mb bits ((x.z W bits).IS a)/\Fix x x' from⟨τ9,{x with k:={x.k with has:=true},recs:=v10},f06.trans f9,Ek,qrf eP.out h9,⟨Q,Q,Q⟩⟩);clear h9 f9 Ek;subst OO;refine Bc.out _ _ FL (fun _=>?_);refine zp ?_;refine tQ2 9 ?_;refine tQ 11 ?_;have S11:(Bs.setCell ⟨b,37,Z⟩ (R DM n10 c10)).heap[B]?=I (N #[U O L,R Ac (Y a.block) cc,U O a.n,U O a.t,R Am (Y a.ledger) cm,R A4 (Y key) c4] 70 (0,0)):=(Jo Bs ⟨b,37,Z⟩ B _ (qsu nBb.out)).trans FL;refine url 12 (fun KU Bc=>?_);go_simp;refine Bc.out _ _ S11 (fun _=>?_);refine zp ?_;refine Ce ?_;go_wp2;go_ret;refine⟨?_,?_⟩
  ·rfl
  ·obtain⟨τ',x',k1,k2,k3,k4⟩:=RL.out
   exact⟨τ',k1,k2,x',k3,k4⟩
end
section
variable {τ:Nat→Nat} {w w':V} {i b W nb mb:Nat} {x:BR} {bits:List Bool} {a:Bb}
def AeI(h:Bx τ w i b x W nb mb bits a)(hi:i≠0)(fr:BU τ w)(ok:Gi x.s W)(L:Nat)(hL:a.last=(L:Int))(hl:1<=L/\L<=1000)(MP:CF a.ledger=0)(hrc:Y a.recs<=1000)(A:Option AS)(c:Nat)(ws:List Int):
  AL AE 204 #[AI (I ⟨b,0,Z⟩),R A (Y ws) c] w fun e w'=>QD τ w i b W nb mb bits x ((x.z W bits).Sc a ws) e w':=by
 cases ws with
 | cons q l=>
  have e1:(x.z W bits).Sc a (q::l)=Z:=by unfold AV.Sc;rw[Bd AO]
  rw[e1];go_in;go_wp2_with(go_at_call 220;refine(IT _).mono ?_;rintro e w2 ⟨⟨u,v,rfl⟩,hb2⟩);exact⟨Q,.inl ⟨rfl,⟨_,_,rfl⟩,hb2⟩⟩
 | nil=>
  have KA:1<=a.last/\a.last<=1000:=by rw[hL];omega
  have E0:Aj ((x.z W bits).Sc a []=if(x.z W bits).TV a≠0 then I ((x.z W bits).stop a 14)else I ((x.z W bits).send {(x.z W bits).IS a with ph:=2} 10 [])):=F (by unfold AV.Sc;rw[AU AO]);have cA:=rL h hi fr ok L hL hl MP hrc;obtain⟨P,hP⟩:=Az ((x.z W bits).Sc a []);rw[hP]at E0 ⊢;clear hP;go_in;go_upto_region 2 with(go_at_call 220;refine(FM _).mono ?_;rintro e w2 ⟨rfl,rfl⟩)
  go_wp2_with fail;refine cA.mono ?_;rintro e w2 (⟨h1,rfl,hb2⟩ | ⟨h1,rfl,τ2,x2,f2,Ej,h2,fx2⟩)
  ·have E1:Aj (P=I ((x.z W bits).stop a 14)):=F (by rw[E0.out,Bd h1])
   have cS:=SY (h.on hb2) hi (fr.on hb2.size) 14 AC KA;go_wp2_with fail;refine cS.mono ?_;rintro e w3⟨x',v',rfl,hf,hs,hO,fx⟩;go_wp2;go_ret;exact .inr ⟨_,E1.out,DA.fin fr (Frm.of hb2) (Fix.refl x) hf hs hO fx⟩
  ·have E1:Aj (P=I ((x2.z W bits).send {(x.z W bits).IS a with ph:=2} 10 [])):=F (by rw[E0.out,AU (by rw[h1];decide)];unfold BR.z;rw[fx2.s,fx2.side])
   have hl2:1<=((x.z W bits).IS a).last/\((x.z W bits).IS a).last<=1000:=KA;obtain⟨a2,ha2⟩:=Az ((x.z W bits).IS a);rw[ha2]at h2 E1 hl2;have H8:=h2.row.c 39;have f39:=h2.row.fr 39;have h3:=h2.bL hi 2;have f3:=h2.JA 39 (U O 2);have Gz:=Ej.on f3.out.size;have cS:=Qx h3 hi Gz 10 _ [] Imm.nil (Qy hl2 AC (TY h3) (BM _)) Q;clear cA h ha2;go_wp2_with fail;refine cS.mono ?_;rintro e w4⟨x',v',rfl,hf,hs,hO,fx⟩;go_wp2;go_ret;have D:=DA.send (x:=x2) Ej f3 (x1:={x2 with k:={x2.k with phase:=2}}) ⟨rfl,rfl,rfl⟩ hf hs hO fx;exact .inr ⟨_,E1.out,DA.on fr f2 fx2 D⟩
def AeJ{p q:Nat}(hp:p<=65535)(hq:q<=65535):Go.bits BinOp.or IntKind.u64 ((p*65536:Nat):Int) (q:Int)=((p*65536+q:Nat):Int):=by
 have h1:=bits_or_u64_nat (p*65536) q J J;rw[h1]
 congr 1
 have h2:p*65536+q=2^16*p+q:=J;rw[h2,Nat.two_pow_add_eq_or_of_lt (by omega:q<2^16),Om]
theorem AeK{z:AV}{ws:List Int}(h:Y ws≠2):z.Sb a ws=Z:=by
 unfold AV.Sb
 grind
def AeL(h:Bx τ w i b x W nb mb bits a)(hi:i≠0)(fr:BU τ w)(ok:Gi x.s W)(L:Nat)(hL:a.last=(L:Int))(hl:1<=L/\L<=1000)(MP:CF a.ledger=0)(hrc:Y a.recs<=1000)
  (A:Option AS) (k:Nat) (ws:List Int) (hv:Imm 1 BD τ w (R A (Y ws) k) ws) (hw:ws.all okW=true):
  AL AE 203 #[AI (I ⟨b,0,Z⟩),R A (Y ws) k] w fun e w'=>QD τ w i b W nb mb bits x ((x.z W bits).Sb a ws) e w':=by
 by_cases h1:Y ws=2
 case neg=>
  rw[AeK h1];have g1:((Y ws:Int) == 2)=false:=by simp;omega
  go_in;go_wp2_with(go_at_call 220;refine(IT _).mono ?_;rintro e w2 ⟨⟨u,v,rfl⟩,hb2⟩);exact⟨Q,.inl ⟨rfl,⟨_,_,rfl⟩,hb2⟩⟩
 obtain⟨p',q',rfl⟩:=rI h1;have hall:=EA.1 hw;have hpw:=hall p' AO;have hqw:=hall q' AO;obtain⟨p,rfl⟩:=Wi hpw;obtain⟨q,rfl⟩:=Wi hqw;have hp5:p<=65535:=by unfold okW AR at hpw;have:=Ib hpw;omega
 have hq5:q<=65535:=by unfold okW AR at hqw;have:=Ib hqw;omega
 obtain⟨A',c',MO,_,_,_,hA,tA⟩:=hv;cases MO;obtain⟨bk,off,y,rfl,BN,hq,c0⟩:=hA.int (k:=0) AO (Ae _ _);obtain rfl:(p:Int)=y:=qsu hq.out;obtain⟨bk1,Aex,y1,he1,_,CT,c1⟩:=hA.int (k:=1) AO (Ae _ _);obtain rfl:(q:Int)=y1:=qsu CT.out;cases he1;have JW:E w ⟨bk,off,Z⟩=I (U O p):=qsu c0;have hb0:τ bk=0:=(tA _ Q).2;rw[show([(p:Int),(q:Int)]:List Int).length=2 from rfl];have x31:E w ⟨b,31,Z⟩=I (U O W):=by rw[<-ok.wd];exact h.row.c 31
 have cE:=bJ h hi fr (Ns.1 MP).1 3 (W:Int);obtain⟨a6,Sh⟩:=Az (a.enter 3 (W:Int));have bl6:a6.block=a.block:=by rw[<-Sh];unfold Bb.enter;split <;> rfl
 have ls6:a6.last=(L:Int):=by rw[<-Sh,<-hL];unfold Bb.enter;split <;> rfl
 have ld6:CF a6.ledger=0:=qrb Sh (rG MP 3 (W:Int));have rc6:Y a6.recs<=1000:=by rw[<-Sh];unfold Bb.enter;split <;> exact hrc
 obtain⟨g0,hg0⟩:=Az (RZ x.s.seed L);obtain⟨g1,ER⟩:=Az (Ph x.s.seed L);obtain⟨g2,hg2⟩:=Az (MM x.s.seed L W);obtain⟨g3,hg3⟩:=Az (TR x.s.seed L);obtain⟨D,hD⟩:=Az (p*65536+q);obtain⟨AM,hE⟩:=Az (cfE (W:Int) g2 a.block D)
 have E0:Aj ((x.z W bits).Sb a [(p:Int),(q:Int)]=if AM≠0 then I ((x.z W bits).stop a6 22)else if(x.z W bits).TV a6≠0 then I ((x.z W bits).stop a6 14)else I ((x.z W bits).send {(x.z W bits).IS a6 with wait:=[10]} 9 [])):=F (by
  unfold AV.Sb;simp only;rw[show(x.z W bits).s.width=(W:Int)from ok.wd,Sh,hL,Ro,show(x.z W bits).s.seed=x.s.seed from rfl,show(x.z W bits).W=W from rfl,hg2,show((p:Int)*65536+(q:Int)).toNat=D by omega,hE])
 rw[Sh]at cE;obtain⟨P,hP⟩:=Az ((x.z W bits).Sb a [(p:Int),(q:Int)]);rw[hP]at E0 ⊢;have u0:IntKind.u64.wrap (p:Int)=(p:Int):=by simp[IntKind.wrap,IntKind.bits,IntKind.signed];omega
 have u1:IntKind.u64.wrap (q:Int)=(q:Int):=by simp[IntKind.wrap,IntKind.bits,IntKind.signed];omega
 have u3:=AeJ hp5 hq5;rw[hD]at u3;obtain⟨G,hG⟩:=Az (p*65536);have u2:IntKind.u64.wrap ((p:Int)*65536)=(G:Int):=by rw[<-hG];simp[IntKind.wrap,IntKind.bits,IntKind.signed];omega
 rw[hG]at u3;clear hP hA hq CT c0 h1 hw hall hpw hqw Sh hD tA hG;go_in;go_upto_region 3 with(first | (go_at_call 220;refine(FM _).mono ?_;rintro e w2 ⟨rfl,rfl⟩) | (go_at_call 235;refine cE.mono ?_;rintro e w6 ⟨rfl,x6,f6,h6,Fs⟩))
 have ok6:=Fs.s▸ok;have es6:x6.s.seed=x.s.seed:=by rw[Fs.s]
 have d0:=f6.out.cell JW (fun e=>hi (e.symm.trans hb0));have d1:=f6.out.cell c1 (fun e=>hi (e.symm.trans hb0));obtain⟨A7,c7,PS,l7,m7,n7,ND,tg7⟩:=h6.li.block;rw[bl6]at PS l7 ND;have Pm:E w6 ⟨b,31,Z⟩=I (U O W):=by rw[<-ok6.wd];exact h6.row.c 31
 have KW:E w6 ⟨b,52,Z⟩=I (R A7 (Y a.block) c7):=qrb PS (h6.row.c 52);have cP:=Z2 (h6.on (Ae _ _).drew) L ls6 hl.2 ok6.wd ok6.sd;rw[es6,hg0,ER,hg2,hg3]at cP;have cD:=qbw w6 fun y hy=>Aal (W:Int) g2 D A7 c7 a.block y (ND.on hy) l7 m7
 simp only[hE]at cD;have F2:=rA g0 g1 g2 g3;have L31:=qbc Pm;have Si:=qbc KW;have M0:=qbc d0;have M1:=qbc d1;have S6:=(Ae w6 w6).drew;clear hg0 ER hg2 hg3 hE ND cE PS tg7;refine qrh w6 S6 fun hHeld=>?_
 refine tQ4 0 ?_;refine tQ2 4 ?_;refine tQ4 8 ?_;refine tQ4 12 ?_;refine tQ4 16 ?_;refine tQ2 20 ?_;refine tQ 22 ?_;refine url 6 (fun KU Bc=>?_);go_simp;refine gqz cP fun w7 QT=>?_;have Cl:=AH S6 QT;refine Bc.out _ _ Cl (fun _=>?_);refine zp ?_;refine tQ 7 ?_;refine url 23 (fun KU Bc=>?_);go_simp;refine gqz (cD _ Cl) fun w8 Z3=>?_;have Cv:=AH Cl Z3;refine Bc.out _ _ (Cv) (fun _=>?_);refine zp ?_;refine tQ 24 ?_;refine Ce ?_;have h8:=h6.on Cv;have f08:=f6.trans (Frm.of (i:=i) (τ:=τ) Cv);have Ki:=fr.on f08.out.size;have Z4:1<=a6.last/\a6.last<=1000:=by rw[ls6];omega
 clear cP cD L31 Si M0 M1 F2 Pm KW d0 d1 S6 Cl QT Z3 hHeld u0 u1 u2 u3 h6 f6;by_cases e0:AM=0
 case neg=>
  have g0:(AM != 0)=true:=qsu e0;have E1:Aj (P=I ((x.z W bits).stop a6 22)):=F (by rw[E0.out,Bd e0]);have cS:=SY h8 hi Ki 22 AC Z4;go_wp2_with fail;refine cS.mono ?_;rintro e w9⟨x',v',rfl,hf,hs,hO,fx⟩;go_wp2;go_ret;exact .inr ⟨_,E1.out,DA.stop fr f08 (x1:=x6) ⟨Fs.s,Fs.side,Fs.pool⟩ hf hs hO fx⟩
 subst e0;have cA:=rL h8 hi Ki ok6 L ls6 hl ld6 rc6;have ez:(x6.z W bits)=(x.z W bits):=by unfold BR.z;rw[Fs.s,Fs.side]
 rw[ez]at cA;have E0':Aj (P=if(x.z W bits).TV a6≠0 then I ((x.z W bits).stop a6 14)else I ((x.z W bits).send {(x.z W bits).IS a6 with wait:=[10]} 9 [])):=F (by rw[E0.out,AU AO]);clear E0;go_upto_region 5 with fail;go_wp2_with fail;refine cA.mono ?_;rintro e w9 (⟨h1,rfl,BC⟩ | ⟨h1,rfl,τ9,x9,f9,Ek,h9,fx9⟩)
 ·have E1:Aj (P=I ((x.z W bits).stop a6 14)):=F (by rw[E0'.out,Bd h1])
  have cS:=SY (h8.on BC) hi (Ki.on BC.size) 14 AC Z4;go_wp2_with fail;refine cS.mono ?_;rintro e Bs⟨x',v',rfl,hf,hs,hO,fx⟩;go_wp2;go_ret;exact .inr ⟨_,E1.out,DA.stop fr (f08.trans (Frm.of BC)) (x1:=x6) ⟨Fs.s,Fs.side,Fs.pool⟩ hf hs hO fx⟩
 ·have E1:Aj (P=I ((x9.z W bits).send {(x.z W bits).IS a6 with wait:=[10]} 9 [])):=F (by rw[E0'.out,AU (by rw[h1];decide)];unfold BR.z;rw[fx9.s,fx9.side,Fs.s,Fs.side])
  have hl9:1<=((x.z W bits).IS a6).last/\((x.z W bits).IS a6).last<=1000:=Z4;obtain⟨a9,ha9⟩:=Az ((x.z W bits).IS a6);rw[ha9]at h9 E1 hl9;obtain⟨Sf,Sg,h10,f10⟩:=h9.wait hi Ek #[U O 10] 3 [10] Q AC;simp only[List.length_cons,List.length_nil,Nat.zero_add]at h10 f10;have NZ:=Ek.on f10.out.size;have cS:=Qx h10 hi NZ 9 _ [] Imm.nil (Qy hl9 AC (TY h10) (BM _)) Q;clear cA h8 ha9 h h9;go_wp2_with fail;refine cS.mono ?_;rintro e FW⟨x',v',rfl,hf,hs,hO,fx⟩;go_wp2;go_ret;have DD:=DA.send (x:=x9) Ek f10 (x1:={x9 with k:={x9.k with wait:= R (I ⟨w9,0,Z⟩) 1 1}}) ⟨rfl,rfl,rfl⟩ hf hs hO fx;exact .inr ⟨_,E1.out,DA.on fr (f08.trans f9) (x1:=x9) ⟨fx9.s.trans Fs.s,fx9.side.trans Fs.side,fx9.pool.trans Fs.pool⟩ DD⟩
end
section
variable{k n q:Int}{s:Nat}
section
variable {τ:Nat→Nat} {w w':V} {i b W nb mb:Nat} {x:BR} {bits:List Bool} {a:Bb}
theorem AeM(h:q∈NM s n k):0<=q/\q<n:=by
 unfold NM at h;split at h
 ·rename_i h0
  have:=VV h0;have:=oH h;omega
 grind
theorem AeN(h:q∈rsL s n k):0<=q/\q<n:=by
 unfold rsL at h;split at h
 ·rename_i h0
  have:=VV h0;unfold Mv at h
  grind [Lx,Jt,FA]
 grind
def AeO:(NM s n k).length<=512:=by
 unfold NM;split
 ·rename_i h0
  have:=VV h0;rw[X5 J];omega
 ·simp
theorem bO:(rsL s n k).length<=512:=by
 unfold rsL;split
 ·rename_i h0
  have:=VV h0
  grind [Mv,Jt,Lx,Mu]
 ·simp
def rM(h:Bx τ w i b x W nb mb bits a)(ok:Gi x.s W)(L:Nat)(hL:a.last=(L:Int))(hl:L<=1000)(B:Option AS)(cB:Nat)(bl:List Bool)(hB:Arr 1 C4 w w B bl)(hbl:(Y bl:Int)=x.s.block):
  AL AE 226 #[AI (I ⟨b,0,Z⟩),R B (Y bl) cB] w fun e w'=>∃v1 v2,e=AN (Be #[v1,v2])/\Own w' w 4 1 C4 v1 (DN bl ((x.z W bits).NW a))/\Own w' w 4 1 C4 v2 (DN bl ((x.z W bits).MN a))/\Ag w w w':=by
 have x22:E w ⟨b,22,Z⟩=I (U O x.s.block):=h.row.c 22;have x23:E w ⟨b,23,Z⟩=I (U O x.s.sample):=h.row.c 23;have cP:=Z2 (h.on (Ae _ _).drew) L hL hl ok.wd ok.sd;obtain⟨g0,hg0⟩:=Az (RZ x.s.seed L);obtain⟨g1,ER⟩:=Az (Ph x.s.seed L);obtain⟨g2,hg2⟩:=Az (MM x.s.seed L W);obtain⟨g3,hg3⟩:=Az (TR x.s.seed L);rw[hg0,ER,hg2,hg3]at cP;have cS:=fun y=>AbZ g0 x.s.block x.s.sample y
 obtain⟨L1,QE⟩:=Az (NM g0 x.s.block x.s.sample);obtain⟨L2,hL2⟩:=Az (rsL g0 x.s.block x.s.sample);have e1:(x.z W bits).NW a=L1:=by unfold AV.NW;rw[hL,Ro,show(x.z W bits).s=x.s from rfl,hg0,QE]
 have e2:(x.z W bits).MN a=L2:=by unfold AV.MN;rw[hL,Ro,show(x.z W bits).s=x.s from rfl,hg0,hL2]
 rw[e1,e2];have in1:Aj (∀q∈L1,0<=q/\q<(Y bl:Int)):=F (fun q hq=>by rw[hbl];exact AeM (QE▸hq));have in2:Aj (∀q∈L2,0<=q/\q<(Y bl:Int)):=F (fun q hq=>by rw[hbl];exact AeN (hL2▸hq));have ln1:Y L1<=512:=qrb QE AeO;have ln2:Y L2<=512:=qrb hL2 bO;unfold SmR at cS;simp only[QE,hL2]at cS;obtain⟨AM,hE⟩:=Az (Lx x.s.block x.s.sample);simp only[hE]at cS;have F0:=Ad9 g0 g1 g2 g3;have S0:=(Ae w w).drew;have L22:=qbc x22;have L23:=qbc x23;clear hg0 ER hg2 hg3 QE hL2 hE e1 e2 hbl hL hl h;go_in;go_upto_region 1 with fail;refine qrh w S0 fun hHeld=>?_
 refine tQ4 0 ?_;refine tQ4 4 ?_;refine tQ2 8 ?_;refine tQ 10 ?_;refine url 11 (fun KU Bc=>?_);go_simp;refine gqz cP fun w3 I0=>?_;have hb3:=AH S0 I0;refine Bc.out _ _ hb3 (fun _=>?_);refine zp ?_;refine tQ 12 ?_;refine url 13 (fun KU Bc=>?_);go_simp;refine(cS _).mono ?_;rintro e w4⟨v1,v2,rfl,Ii,GZ,LU⟩;have hb4:=AH hb3 LU;obtain⟨A1,c1,rfl,l1,m1,n1,ar1⟩:=Ii.form DY;obtain⟨A2,c2,rfl,l2,m2,n2,Nv⟩:=GZ.form DY;refine Bc.out _ _ (hb4) (fun _=>?_);refine zp ?_;refine tQ4 14 ?_;refine tQ2 18 ?_;refine tQ 20 ?_;refine Ce ?_;have arB:=hB.on hb4;clear cP cS L22 L23 x22 x23 F0 hHeld S0 hb3 I0 LU Ii GZ hB;go_upto_region 3 with fail;go_loopw [4,33] (fun ov iv wr=>∃k:Nat,k<=Y L1/\iv=U O k/\Own wr w4 4 1 C4 ov (DN bl (L1.take k))/\Ag w4 w4 wr) (fun _ iv _=>Y L1-(intOf iv).toNat);exact⟨0,J,rfl,Own.nil,Ae _ _⟩
 obtain⟨k,hk,rfl,oj,Co⟩:=hrel;obtain⟨w8,rfl⟩:=qgn wr;by_cases hlt:k<Y L1
 ·obtain⟨bk,off,q,rfl,BN,hq,c0⟩:=ar1.int hlt Co
  obtain⟨CT,Et⟩:=in1.out q (DI hq.out);obtain⟨j,rfl⟩:=DV CT;have hj:j<Y bl:=J;obtain⟨bj,AeP,t,rfl,AeQ,ht,d0⟩:=arB.bool hj Co
  have hst:Aj (DN bl (L1.take (k+1))=DN bl (L1.take k)++ [t]):=F (by
   unfold DN;rw[GU,hq.out,SQ];simp[List.getD,ht.out])
  have Cm:((DN bl (L1.take k)).length+1)*1<=140737488355328:=by unfold DN;rw[Dz,DC];omega
  have IH:=Co.size;generalize DN bl (L1.take k)=M at*;clear CT Et hq ht;go_wp2_with(at_builtin;refine Ef Tryz.underlying44 Yn M t oj (XP _) Cm IH ?_;intro v9 w9 CD BC);exact⟨⟨k+1,J,qgm,qrf hst.out CD,Co.trans BC⟩,qio⟩
 ·obtain rfl:k=Y L1:=J
  rw[Ia]at oj;have AeR:=Nv.on Co;have AeS:=arB.on Co;go_upto_region 8 with fail;go_loopw [5,47] (fun ov iv wr=>∃k:Nat,k<=Y L2/\iv=U O k/\Own wr w8 4 1 C4 ov (DN bl (L2.take k))/\Ag w8 w8 wr) (fun _ iv _=>Y L2-(intOf iv).toNat);exact⟨0,J,rfl,Own.nil,Ae _ _⟩
  obtain⟨k,hk,rfl,ok2,Ez⟩:=hrel;obtain⟨w9,rfl⟩:=qgn wr;by_cases hlt:k<Y L2
  ·obtain⟨bk,off,q,rfl,BN,hq,c0⟩:=AeR.int hlt Ez
   obtain⟨CT,Et⟩:=in2.out q (DI hq.out);obtain⟨j,rfl⟩:=DV CT;have hj:j<Y bl:=J;obtain⟨bj,AeP,t,rfl,AeQ,ht,d0⟩:=AeS.bool hj Ez
   have hst:Aj (DN bl (L2.take (k+1))=DN bl (L2.take k)++ [t]):=F (by
    unfold DN;rw[GU,hq.out,SQ];simp[List.getD,ht.out])
   have Cm:((DN bl (L2.take k)).length+1)*1<=140737488355328:=by unfold DN;rw[Dz,DC];omega
   have IH:=Ez.size;generalize DN bl (L2.take k)=M at*;clear CT Et hq ht;go_wp2_with(at_builtin;refine Ef Tryz.underlying44 Yn M t ok2 (XP _) Cm IH ?_;intro v9 Bs CD BC);exact⟨⟨k+1,J,qgm,qrf hst.out CD,Ez.trans BC⟩,qio⟩
  ·obtain rfl:k=Y L2:=J
   rw[Ia]at ok2;have f1:=(oj.below Ez).lift hb4.size;have f2:=ok2.lift (Br hb4.size Co.size);have bb:=AH (AH hb4 Co) Ez;go_wp2;go_ret2;exact⟨_,_,Q,f1,f2,bb⟩
end
end
def rP{s:Nat}{n k:Int}(hn:0<=n):((NM s n k).length:Int)<=n:=by
 unfold NM;split
 ·rename_i h0
  have:=VV h0;rw[X5 J];omega
 ·simp;exact hn
def rQ(l:List Bool):(l.map EM).all okW=true:=by
 rw[EA];intro y hy;obtain⟨v,_,rfl⟩:=Ld.1 hy;cases v <;> decide
section
variable {τ:Nat→Nat} {w w':V} {i b W nb mb:Nat} {x:BR} {bits:List Bool} {a:Bb}
def Ae0(h:Bx τ w i b x W nb mb bits a)(hi:i≠0)(fr:BU τ w)(ok:Gi x.s W)(L:Nat)(hL:a.last=(L:Int))(hl:1<=L/\L<=1000)(Ae1:Bz Bf.ok a.clicks=0)
  (A:Option AS) (k:Nat) (ws:List Int) (hv:Imm 1 BD τ w (R A (Y ws) k) ws) (hw:ws.all okW=true) (lw:Y ws<=4096):
  AL AE 198 #[AI (I ⟨b,0,Z⟩),R A (Y ws) k] w fun e w'=>QD τ w i b W nb mb bits x ((x.z W bits).T9 a ws) e w':=by
 have FZ:=ok.n;obtain⟨S,hS⟩:=DV (show 0<=x.s.block by have:=FZ.block;omega);have hS1:1<=S/\S<=512:=by have:=FZ.block;omega
 have x22:E w ⟨b,22,Z⟩=I (U O S):=qrb hS (h.row.c 22);have x1:E w ⟨b,1,Z⟩=I (U O x.s.o.k):=h.row.c 1;by_cases hc:(Y ws=S)\/(S<Y ws/\x.s.o.k=1)
 case neg=>
  have e1:(x.z W bits).T9 a ws=Z:=by
   unfold AV.T9;rw[Bd (show¬((Y ws:Int)=(x.z W bits).s.block\/((x.z W bits).s.block<Y ws/\(x.z W bits).s.o.k=1))by rw[show(x.z W bits).s=x.s from rfl,hS];omega)]
  rw[e1];have g1:((Y ws:Int) == (S:Int))=false:=by simp;omega
  by_cases h2:S<Y ws
  focus
   have g2:decide ((S:Int)<(Y ws:Int))=true:=Er J
   have g2':decide (S<Y ws)=true:=Er h2;have g3:(x.s.o.k == 1)=false:=by simp;omega
  rotate_left
  focus
   have g2:decide ((S:Int)<(Y ws:Int))=false:=Ds J
   have g2':decide (S<Y ws)=false:=Ds h2
  rotate_left
  all_goals
   clear e1 hc h2;go_enter Tryz.func198,Tryz.ntmps198;go_wp2_with(go_at_call 220;refine(IT _).mono ?_;rintro e w2 ⟨⟨u,v,rfl⟩,hb2⟩);exact⟨Q,.inl ⟨rfl,⟨_,_,rfl⟩,hb2⟩⟩
 obtain⟨P,hP⟩:=Az ((x.z W bits).T9 a ws);rw[hP];have HP:=F hP;have Hc:=F hc;have HS:=F hS;have hSN:S<=Y ws:=J;clear hP hS;go_enter Tryz.func198,Tryz.ntmps198;go_upto_region 2 with fail;go_cut [5] (fun v5 wx=>v5=U O S/\wx=w)
 case first=>
  rcases hc with hE | ⟨h2,h3⟩
  ·have g1:((Y ws:Int) == (S:Int))=true:=by simp;omega
   clear hE;go_wp2_with(go_at_call 220;refine(FM _).mono ?_;rintro e w2 ⟨rfl,rfl⟩);go_meet;exact⟨rfl,rfl⟩
  ·have g1:((Y ws:Int) == (S:Int))=false:=by simp;omega
   have g2:decide ((S:Int)<(Y ws:Int))=true:=Er J;have g2':decide (S<Y ws)=true:=Er h2;have g3:(x.s.o.k == 1)=true:=by simp;omega
   rw[h3]at x1;clear h2 h3 g3;go_wp2_with(go_at_call 220;refine(FM _).mono ?_;rintro e w2 ⟨rfl,rfl⟩);go_meet;exact⟨rfl,rfl⟩
 obtain⟨hv5,hwc⟩:=hcut;subst hv5;subst hwc;obtain⟨A0,c0,MO,lk,mk,nk,hA,tA⟩:=hv;cases MO;have hne:ws≠[]:=fun e=>by rw[e]at hSN;simp at hSN;omega
 obtain⟨bk,off,rfl,BN,hcell⟩:=hA hne
 have OS:Arr 1 BD wc wc (I ⟨bk,off+S,Z⟩) (ws.drop S):=by
  have:=hA.part S (Y ws-S);rw[JK,EG AO]at this;exact this
 have arT:Arr 1 BD wc wc (I ⟨bk,off,Z⟩) (ws.take S):=by
  have:=hA.part 0 S;rw[Nat.zero_mul,Sz,List.drop_zero]at this;exact this
 obtain⟨w1,rfl⟩:=qgn wc;go_upto_region 4 with fail;go_cut [44,45,46] (fun v44 v45 v46 wx=>wx=w1/\v45=U O ((Y ws-S:Nat):Int)/\v46=U O 0/\∃A' c',v44=R A' (Y ws-S) c'/\Arr 1 BD w1 w1 A' (ws.drop S))
 case first=>
  by_cases hkS:k=S
  ·have hz:Y ws=S:=J
   have hd:ws.drop S=[]:=X6 J;subst hkS;have hz0:Y ws-k=0:=J;go_wp2;go_meet;exact⟨rfl,by rw[hz0];rfl,Q,I ⟨bk,off,Z⟩,0,by rw[hz0],qrf hd Arr.nil⟩
  ·go_wp2_with fail
   go_meet;exact⟨rfl,rfl,rfl,_,_,rfl,OS⟩
 obtain⟨hwe,h45,h46,A',c',h44,iG⟩:=hcut;subst h44 h45 h46 hwe;obtain⟨D,hD⟩:=Az (ws.drop S);have hDl:Y ws-S=Y D:=by rw[<-hD];simp
 have HD:=F hD;have HDl:=F hDl;have hDw:Aj (D.all okW=true):=F (by rw[<-hD,EA];exact fun y hy=>EA.1 hw y (List.mem_of_mem_drop hy));rw[hD]at iG;rw[hDl];have hD4:Y D<=4096:=J;clear hD hDl OS hne hcell;obtain⟨w1,rfl⟩:=qgn wc;go_upto_region 5 with fail;go_loopw [6,46] (fun ov iv wr=>∃j:Nat,j<=Y D/\iv=U O j/\Own wr w1 3 1 BD ov ((D.take j).map (· / 2))/\Ag w1 w1 wr) (fun _ iv _=>Y D-(intOf iv).toNat);exact⟨0,J,rfl,Own.nil,Ae _ _⟩
 obtain⟨j,hj,rfl,oj,Co⟩:=hrel;obtain⟨w8,rfl⟩:=qgn wr;by_cases hlt:j<Y D
 ·obtain⟨bq,ofq,q,rfl,hbq,hq,d0⟩:=iG.int hlt Co
  have hqo:=EA.1 hDw.out q (DI hq.out);obtain⟨n,rfl⟩:=Wi hqo;have hn5:n<=65535:=by unfold okW AR at hqo;have:=Ib hqo;omega
  have hst:Aj ((D.take (j+1)).map (· / 2)=(D.take j).map (· / 2)++ [(n:Int) / 2]):=F (by rw[GU,hq.out];simp);have Cm:(((D.take j).map (· / 2)).length+1)*8<=140737488355328:=by rw[Dz,DC];omega
  have IH:=Co.size;obtain⟨G0,hU⟩:∃G0:Int,(n:Int) / 2=G0:=⟨_,Q⟩
  rw[hU]at hst;have u0:wrap64 G0=G0:=Lg _ J;generalize(D.take j).map (· / 2)=M at*;go_wp2_with(at_builtin;refine Ef underlying37 Gr M G0 oj (On _) Cm IH ?_;intro v9 w9 CD BC);exact⟨⟨j+1,J,qgm,qrf hst.out CD,Co.trans BC⟩,qio⟩
 ·obtain rfl:j=Y D:=J
  rw[Ia]at oj;obtain⟨D2,hD2⟩:=Az (D.map (· / 2));have Ae2:Y D2<=4096:=by rw[<-hD2,Dz];exact hD4
  have HD2:=F hD2;have Ae3:Aj (Y D2=Y D):=F (by rw[<-hD2,Dz]);rw[hD2]at oj;obtain⟨A6,c6,rfl,l6,m6,n6,Jq⟩:=oj.form DY;have h8:=h.on Co;have Ki:=fr.on Co.size;obtain⟨Ac,cc,hcv,lc,mc,nc,arc,tgc⟩:=h8.li.clicks;have y42:E w8 ⟨b,42,Z⟩=I (R Ac (Y a.clicks) cc):=qrb hcv (h8.row.c 42);have y48:E w8 ⟨b,48,Z⟩=I (U O a.shift):=by rw[<-h.num.sh];exact h8.row.c 48
  have DG:=Va Ae1;obtain⟨T,hT⟩:=Az (ws.take S);have hTl:Y T=S:=by rw[<-hT,DC];omega
  have HT:=F hT;rw[hT]at arT;have rR:=arT.on Co;obtain⟨E1,Lk⟩:=Az (MJ a.clicks a.shift T);obtain⟨B1,hB1⟩:=Az (Iq a.clicks a.shift T);obtain⟨E2,Gs⟩:=Az (MJ a.clicks a.shift D2);obtain⟨B2,RK⟩:=Az (Iq a.clicks a.shift D2);have cR1:=qbw w8 fun y hy=>qV Ac cc a.clicks a.shift (I ⟨bk,off,Z⟩) k T y (arc.on hy) (rR.on hy) J J
  have cR2:=qbw w8 fun y hy=>qV Ac cc a.clicks a.shift A6 c6 D2 y (arc.on hy) (Jq.on hy) J J
  simp only[Lk,hB1,hTl]at cR1;simp only[Gs,RK]at cR2;have Ae4:Aj (Y B2<=Y D2):=F (by rw[<-RK];exact ir _ _ _);have HE1:=F Lk;have HB1:=F hB1;have HE2:=F Gs;have HB2:=F RK;have rS:E1=0->Y B1=S:=fun e=>by rw[<-hB1];unfold Iq;rw[Bd (Lk.trans e),Dz,hTl]
  have AjJ:Y B2<=4096:=by rw[<-RK];exact Br (ir _ _ _) Ae2
  have L42:=qbc y42;have L48:=qbc y48;have hSk:S<=k:=J;have S0:=(Ae w8 w8).drew;clear hT Lk hB1 Gs RK hD2 hTl arc arT rR Jq hcv tgc y42 y48 iG oj;go_upto_region 9 with fail;refine qrh w8 S0 fun hHeld=>?_
  refine tQ4 0 ?_;refine tQ4 4 ?_;refine tQ4 8 ?_;refine tQ 12 ?_;refine url 13 (fun KU Bc=>?_);go_simp;refine(cR1 _ S0).mono ?_;rintro e w9⟨v9,rfl,CD,Vb⟩;obtain⟨A9,c9,rfl,l9,m9,n9,Nx⟩:=CD.form Dk;have BC:=AH S0 Vb;refine Bc.out _ _ (BC) (fun _=>?_);refine zp ?_;refine tQ4 14 ?_;refine tQ 18 ?_;refine Ce ?_
  have EQ:Aj (P=if E1≠0 then Z else if E2≠0 then Z else I ((x.z W bits).send {a with block:=DN B1 ((x.z W bits).MN a),wait:=[5]} 4 ((DN B1 ((x.z W bits).NW a)++ B2).map EM))):=F (by
   rw[<-HP.out];unfold AV.T9;have e:(x.z W bits).s.block.toNat=S:=by rw[show(x.z W bits).s=x.s from rfl,HS.out];exact Ro S
   rw[AU (show¬¬((Y ws:Int)=(x.z W bits).s.block\/((x.z W bits).s.block<Y ws/\(x.z W bits).s.o.k=1))by rw[Xk,show(x.z W bits).s=x.s from rfl,HS.out];have:=Hc.out;omega),e,HT.out,HD.out,HD2.out,HE1.out,HB1.out,HE2.out,HB2.out])
  clear cR1;by_cases e1:E1=0
  case neg=>
   have g0:(E1 == 0)=false:=qsu e1;have hno:Aj (P=Z):=F (by rw[EQ.out,Bd e1]);go_wp2_with(go_at_call 220;refine(IT _).mono ?_;rintro e Bs ⟨⟨u,v,rfl⟩,CP⟩);exact⟨Q,.inl ⟨hno.out,⟨_,_,rfl⟩,AH (AH Co BC) CP⟩⟩
  subst e1;have rT:=rS Q;have Ae5:=F rT;clear rS rT;have S9:=BC.drew;go_upto_region 11 with(go_at_call 220;refine(FM _).mono ?_;rintro e w2 ⟨rfl,rfl⟩)
  refine qrh w8 S9 fun hHeld=>?_
  refine tQ4 0 ?_;refine tQ4 4 ?_;refine tQ2 8 ?_;refine tQ 10 ?_;refine url 11 (fun KU Bc=>?_);go_simp;refine(cR2 _ S9).mono ?_;rintro e Bs⟨v10,rfl,Th,QF⟩;obtain⟨DM,c10,rfl,l10,m10,n10,VT⟩:=Th.form Dk;have CP:=AH S9 QF;have Ae6:Ag w9 w9 Bs:=AH (Ae _ _).drew QF;refine Bc.out _ _ (CP) (fun _=>?_);refine zp ?_;refine tQ4 12 ?_;refine tQ 16 ?_;refine Ce ?_;clear cR2;by_cases e2:E2=0
  case neg=>
   have g0:(E2 == 0)=false:=qsu e2;have hno:Aj (P=Z):=F (by rw[EQ.out,AU AO,Bd e2]);go_wp2_with(go_at_call 220;refine(IT _).mono ?_;rintro e FW ⟨⟨u,v,rfl⟩,GH⟩);exact⟨Q,.inl ⟨hno.out,⟨_,_,rfl⟩,AH (AH Co CP) GH⟩⟩
  subst e2;have Kj:Aj (P=I ((x.z W bits).send {a with block:=DN B1 ((x.z W bits).MN a),wait:=[5]} 4 ((DN B1 ((x.z W bits).NW a)++ B2).map EM))):=F (by rw[EQ.out,AU AO,AU AO]);have h10:=h8.on CP;have NZ:=Ki.on CP.size;have cD:=rM h10 ok L hL hl.2 A9 c9 B1 (Nx.on Ae6) (by rw[Ae5.out,HS.out]);obtain⟨R1,Qg⟩:=Az (DN B1 ((x.z W bits).NW a));obtain⟨R2,FV⟩:=Az (DN B1 ((x.z W bits).MN a))
  have rU:Aj (Y R1<=S):=F (by
   rw[<-Qg];unfold DN;rw[Dz];have:=rP (s:=RZ x.s.seed a.last.toNat) (n:=x.s.block) (k:=x.s.sample) (by rw[HS.out];omega);rw[HS.out]at this;unfold AV.NW;rw[show(x.z W bits).s=x.s from rfl,HS.out];omega)
  rw[Qg,FV]at cD Kj;clear EQ Qg FV L42 L48 hHeld S0 S9 Vb;go_upto_region 13 with(go_at_call 220;refine(FM _).mono ?_;rintro e w2 ⟨rfl,rfl⟩)
  go_wp2_with fail;refine cD.mono ?_;rintro e FW⟨v1,v2,rfl,Ii,GZ,GH⟩;have h11:=h10.on GH;have iH:=NZ.on GH.size;have im2:=GZ.imm Dk (fun k hk=>NZ k hk);obtain⟨Ax,cx,rfl,lx,mx,nx,arx⟩:=Ii.form Dk;obtain⟨Ay,cy,rfl,ly,my,ny,ary⟩:=GZ.form Dk;have KW:=h11.row.c 52;have z52:=h11.row.fr 52;have f12:=h11.JA 52 (R Ay (Y R2) cy);have DO:=h11.setBlock hi (R Ay (Y R2) cy) R2 im2;have im1:=(Ii.imm Dk (fun k hk=>NZ k hk)).keep (f12.kp hi);have Pt:=((Th.imm Dk (fun k hk=>Ki k (Br BC.size hk))).keep (Kp.of GH)).keep (f12.kp hi);obtain⟨E7,SP⟩:=Az (FW.setCell ⟨b,52,Z⟩ (R Ay (Y R2) cy));have f012:Frm τ τ w1 E7 i:=by rw[<-SP];exact((Frm.of (AH Co CP)).trans (Frm.of GH)).trans f12
  go_upto_region 16 with fail;rw[SP]at DO im1 Pt
  try rw[SP]
  have rV:=fr.on f012.out.size;obtain⟨Ax',cx',ex,lx',mx',nx',rW,_⟩:=im1;cases ex;obtain⟨AjK,AjL,e10,AjM,AjN,Ae7,rX,_⟩:=Pt;cases e10;have Ma:=AB (Ae E7 E7) (N #[R Ax (Y R1) cx,R DM (Y B2) c10] 44);have q0:E (E7.alloc (N #[R Ax (Y R1) cx,R DM (Y B2) c10] 44)) ⟨E7,0,Z⟩=I (R Ax (Y R1) cx):=Cb Q;have q1:E (E7.alloc (N #[R Ax (Y R1) cx,R DM (Y B2) c10] 44)) ⟨E7,1,Z⟩=I (R DM (Y B2) c10):=Cb Q;have hRS:=rU.out;have cC:=AeZ E7 Ax DM cx c10 R1 B2 _ q0 q1 (rW.on Ma) (rX.on Ma) nx' Ae7 J J;obtain⟨C,hC⟩:=Az (R1++ B2)
  have hCl:Y C<=4096:=by
   rw[<-hC,KZ];have t1:=Ae4.out;have t2:=Ae3.out;have t3:=HDl.out;omega
  rw[hC]at cC Kj;clear Ii GZ Th CD im2 h10 h8 h11 hC KW z52 cD f12 SP Nx VT arx ary rW rX q0 q1;go_wp2_with fail;refine cC.mono ?_;rintro e Mr⟨v14,rfl,bS,O1⟩;obtain⟨A14,c14,rfl,l14,m14,n14,rY⟩:=bS.form Dk;have rZ:=AH Ma O1;have Oa:=DO.on rZ;have f014:=f012.trans (Frm.of rZ);have Xu:=fr.on f014.out.size;go_upto_region 17 with fail;go_loopw [14,110] (fun ov iv wr=>∃j:Nat,j<=Y C/\iv=U O j/\Own wr Mr 3 1 BD ov ((C.take j).map EM)/\Ag Mr Mr wr) (fun _ iv _=>Y C-(intOf iv).toNat);exact⟨0,J,rfl,Own.nil,Ae _ _⟩
  obtain⟨j,hj,rfl,oj,Pu⟩:=hrel;obtain⟨Mt,rfl⟩:=qgn wr;by_cases Qp:j<Y C
  ·obtain⟨bq,ofq,t,rfl,hbq,hq,d0⟩:=rY.bool Qp Pu
   have hst:Aj ((C.take (j+1)).map EM=(C.take j).map EM++ [EM t]):=F (by rw[GU,hq.out];simp);have Cm:(((C.take j).map EM).length+1)*8<=140737488355328:=by rw[Dz,DC];omega
   have IH:=Pu.size;have cB:=fun y=>bI t y
   obtain⟨G0,hU⟩:=Az (EM t);rw[hU]at hst;simp only[hU]at cB;clear hU;generalize(C.take j).map EM=M at*;go_wp2_with(first | (go_at_call 224;refine(cB _).mono ?_;rintro e w2 ⟨rfl,rfl⟩) | (at_builtin;refine Ef underlying37 Gr M G0 oj (On _) Cm IH ?_;intro v9 w16 CD bU));exact⟨⟨j+1,J,qgm,qrf hst.out CD,Pu.trans bU⟩,qio⟩
  ·obtain rfl:j=Y C:=J
   rw[Ia]at oj;have hWs:Aj ((C.map EM).all okW=true):=F (rQ C);have hWl:Aj ((C.map EM).length<=4096):=F (by rw[Dz];exact hCl);generalize C.map EM=M at*;have im:=oj.imm DY (fun k hk=>Xu k hk);obtain⟨A16,c16,rfl,l16,m16,n16,AjO⟩:=oj.form DY;have h15:=Oa.on Pu;have iI:=Xu.on Pu.size;obtain⟨Sf,Sg,GM,f17⟩:=h15.wait hi iI #[U O 5] 3 [5] Q AC;simp only[List.length_cons,List.length_nil,Nat.zero_add]at GM f17;have f017:=(f014.trans (Frm.of Pu)).trans f17;have TZ:=fr.on f017.out.size;have Z6:=im.keep (f17.kp hi);have KA:1<=a.last/\a.last<=1000:=by rw[hL];omega
   have cS:=Qx GM hi TZ 4 _ M Z6 (Qy KA AC (TY GM) hWl.out) hWs.out;clear h15 Oa DO GM im Z6 oj;go_wp2_with fail;refine cS.mono ?_;rintro e w18⟨x',v',rfl,hf,hs,hO,fx⟩;go_wp2;go_ret;exact .inr ⟨_,Kj.out,DA.send fr f017 (x1:={x with k:={x.k with block:= R Ay (Y R2) cy,wait:= R (I ⟨Mt,0,Z⟩) 1 1}}) ⟨rfl,rfl,rfl⟩ hf hs hO fx⟩
end
section
variable{W:Nat}{a:Bb}{r:Int}{z:AV}
structure Iv(z:AV):Prop where
 s:Gi z.s z.W
 wd:z.W=8\/z.W=16\/z.W=32
 bits:Y z.bits<=65536
theorem Ae8(hw:W=8\/W=16\/W=32):If (W:Int)=2^W:=by grind [If]
theorem Ae9(hw:W=8\/W=16\/W=32)(bits:List Bool)(n:Int)(m:List Bool):Ky W bits n m<If (W:Int):=by
 have h0:0<If (W:Int):=by grind [If]
 have hW:Wd W:=by unfold Wd;omega
 have hB:II (W:Int)=true:=by grind [II,If,Wd]
 unfold Ky Ml;split
 ·rename_i h
  unfold Lr at h;split at h
  ·cases h
  ·rename_i h2
   have hp:OR W bits n.toNat<2^W:=by
    grind
   rw[Ae8 hw];exact VF (fX hW _) hp
 omega
theorem Xv{P:Prop}{b:Bool}(h:b=false)(e:b=true):P:=by grind
def BO.idle(h:BO z {a with wait:=[]})(p r:Int)(hp:0<=p/\p<=4)(h1:p≠1):BO z {a with ph:=p,rs:=r}:=
 {h with busy:=fun e=>absurd e h1,ph:=hp,wb:=fun e=>absurd e h1,w2:=fun e=>absurd e h1,w4:=fun e=>absurd e h1,w7:=fun e=>absurd e h1,rn:=fun e=>absurd e h1,w8:=fun e=>absurd e h1}
def BO.wait(h:BO z {a with wait:=[]})(l:List Int)(h2:2∉l)(h4:4∉l)(h7:7∉l)(h8:a.has=true->∀k∈l,k=10):BO z {a with wait:=l}:=
 {h with w2:=fun _ e=>absurd e h2,w4:=fun _ e=>absurd e h4,w7:=fun _ e=>absurd e h7,w8:=fun _ e=>h8 e}
def BO.none(h:BO z a):BO z {a with wait:=[]}:=
 {h with w2:=fun _ e=>(by cases e),w4:=fun _ e=>(by cases e),w7:=fun _ e=>(by cases e),w8:=fun _ _ _ e=>(by cases e)}
def BO.phase(h:BO z a)(p r:Int)(hp:0<=p/\p<=4)(h1:p≠1):BO z {a with ph:=p,rs:=r}:=h.none.idle p r hp h1
theorem BO.send(hz:Iv z)(h:BO z a)(hl:1<=a.last){kind:Int}{ws:List Int}(hk:1<=kind/\kind<=11)(hw:ws.all okW=true)(hn:Y ws<=4096):BO z (z.send a kind ws).1:=by
 unfold AV.send Bb.send;split
 ·refine{h with sent:=fun l e=>?_}
  have e2:a.Qw z.side z.W z.bits kind ws=l:=by grind
  rw[<-e2];exact⟨⟨hl,h.last.2⟩,hk,⟨Int.natCast_nonneg _,Int.ofNat_le.2 (YN z.W hz.wd z.bits hz.bits a.used z.side)⟩,hn,hw,Ae9 hz.wd _ _ _⟩
 ·exact h.phase 3 14 AC AC
theorem BO.se(h:BO z {a with wait:=[]})(hz:Iv z)(hl:1<=a.last)(hr:0<=r/\r<=65535):BO z (z.stop a r).1:=
 BO.send hz (h.idle 3 r AC AC) hl AC (by
  simp only[List.all_cons,List.all_nil,Bool.and_true];unfold okW AR
  grind) (Fg Q)
def BO.stop(h:BO z a)(hz:Iv z)(hl:1<=a.last)(hr:0<=r/\r<=65535):BO z (z.stop a r).1:=h.none.se hz hl hr
def BO.down(h:BO z a):BO z a.down:=
 {h with busy:=fun e=>absurd e (by decide:¬(4:Int)=1),ph:=(by decide:(0:Int)<=4/\(4:Int)<=4),wt:=(by decide:(0:Int)<=0/\(0:Int)<=101),wb:=fun e=>absurd e (by decide:¬(4:Int)=1),pls:=Q,clk:=Q,sent:=fun l e=>(by cases e),took:=fun l e=>(by cases e),blk:=BM _,led:=Q,slt:=Q,kpt:=Q,dec:=Q,w2:=fun _ e=>(by cases e),w4:=fun _ e=>(by cases e),w7:=fun _ e=>(by cases e),crs:=fun c m e=>(by cases e),rn:=fun e=>absurd e (by decide:¬(4:Int)=1),w8:=fun e=>absurd e (by decide:¬(4:Int)=1)}
def Pv(z:AV)(r:Jz):Prop:=∀p,r=I p->BO z p.1
def Afa(h:BO z a)(ws:List Int):Pv z (AV.Tb a ws):=fun p e=>by
 unfold AV.Tb at e;split at e
 ·cases e
 ·cases e
  exact h.phase 2 a.rs AC AC
theorem Afb(h:BO z a)(ws:List Int):Pv z (AV.Tc a ws):=fun p e=>by
 unfold AV.Tc at e;split at e
 ·split at e
  ·split at e
   ·cases e
    exact h.phase 2 a.rs AC AC
   ·cases e
    exact h.phase 3 _ AC AC
  grind
 grind
theorem Afc(hz:Iv z)(h:BO z a)(hl:1<=a.last)(hh:a.has=false)(ws:List Int):Pv z (z.Pj a ws):=fun p e=>by
 have n:=hz.s.n;unfold AV.Pj at e;split at e
 ·cases e
 ·split at e
  ·cases e
   exact h.stop hz hl AC
  ·cases e
   have h0:BO z {a with shift:=(KK (ws.map Gx) a.clicks z.s.need).1}:={h with}
   have h1:=h0.none.wait [3] AC AC AC (Xv hh);refine BO.send hz h1 hl AC (rt n.head.1 (by have:=n.slots;omega)) ?_
   grind [KT,MK,KK,Gx,ru,Va]
def BO.enter(h:BO z a)(k n:Int):BO z (a.enter k n):=by
 have hl:=rG h.led k n;unfold Bb.enter at hl ⊢;split
 ·rename_i he
  rw[Bd he]at hl;exact{h with led:=hl}
 omega
theorem Vc(a:Bb)(k n:Int):(a.enter k n).last=a.last:=by grind [Bb.enter]
theorem iJ(a:Bb)(k n:Int):(a.enter k n).has=a.has:=by grind [Bb.enter]
theorem Afd(a:Bb)(k n:Int)(l:List Int):({a with wait:=l}:Bb).enter k n={a.enter k n with wait:=l}:=by grind [Bb.enter]
theorem Afe(hz:Iv z)(h:BO z a)(hl:1<=a.last)(ws:List Int):Pv z (z.Ta a ws):=fun p e=>by
 unfold AV.Ta at e;split at e
 ·split at e
  ·cases e
   exact BO.send hz (h.enter 1 1) (by grind [Bb.enter]) AC (rK _) (Fg Q)
  grind
 grind
def Aff{p q r:Nat}(hp:p<=65535)(hq:q<=65535)(hr:r<=65535):([(p:Int),(q:Int),(r:Int)]).all okW=true:=by
 rw[List.all_cons,List.all_cons,List.all_cons,List.all_nil,Xs J,Xs J,Xs J]
 rfl
theorem sf(hz:Iv z)(h:BO z {a with wait:=[]})(hl:1<=a.last)(hh:a.has=false):Pv z (z.FY a):=fun p e=>by
 unfold AV.FY at e;split at e
 ·cases e
 ·rename_i c m hc
  obtain⟨c1,c2,c3⟩:=h.crs c m hc;split at e
  ·cases e
   exact h.se hz hl AC
  ·split at e
   ·rename_i ho
    cases e;obtain⟨v1,v2,v3⟩:=(c2.2 ho).1;have hP:=c1.P;have hn:=c1.n
    have h1:BO z {a with wait:=[7]}:=
     {h with w2:=fun _ e=>absurd e (show¬(2:Int)∈[7]by decide),w4:=fun _ e=>absurd e (show¬(4:Int)∈[7]by decide),w7:=fun _ _=>⟨c,m,hc,ho⟩,w8:=fun _ e=>Xv hh e}
    exact BO.send hz h1 hl AC (Aff J J J) (Fg Q)
   ·cases e
    have h1:BO z {({a with block:=m.b}:Bb)with wait:=[]}:={h with blk:=c3}
    have h2:=h1.enter 3 z.s.width;rw[Afd]at h2;have h3:=h2.wait [9] AC AC AC (Xv (qrf iJ hh));have hd:JV z.s.width (MM z.s.seed a.last.toNat z.W) m.b<4294967296:=by rw[hz.s.wd];exact rC hz.wd _
    exact BO.send hz h3 (by grind [Bb.enter,Cas.at,JV,MM]) AC (rD J J) (Fg Q)
theorem BO.course(h:BO z {a with wait:=[]}){c:Cas}{m:BP}(h1:c.Ok)(h2:c.at .stop m):BO z {({a with course:=I (c,m)}:Bb)with wait:=[]}:=by
 have hb:Y m.b<=512:=by
  have e1:=h2.1.len;have e2:=h1.n;omega
 exact{h with crs:=fun c' m' e=>(by grind),w7:=fun _ e=>(by cases e)}
theorem sg(hz:Iv z)(a:Bb)(hb:Y a.block<=512):(z.Pi a).Ok:=by
 have n:=hz.s.n;have h1:=n.passes;have h2:=n.pblk;unfold AV.Pi;exact⟨by grind,by grind,hb⟩
theorem Afg(hz:Iv z)(h:BO z a)(hl:1<=a.last)(hh:a.has=false)(ws:List Int):Pv z (z.QC a ws):=fun p e=>by
 unfold AV.QC at e;split at e
 ·rename_i n t
  split at e
  ·have h0:BO z {a with n:=n,t:=t}:={h with}
   have h1:=h0.none.course (sg hz a h.blk) (Cas.oY (sg hz a h.blk) Q).1;exact sf hz h1 hl hh p e
  grind
 grind
theorem Afh(hz:Iv z)(h:BO z a)(hl:1<=a.last)(hh:a.has=false)(hc:∃c m,a.course=I (c,m)/\m.opn=true)(ws:List Int):Pv z (z.Sa a ws):=fun p e=>by
 obtain⟨c,m,hc,ho⟩:=hc;obtain⟨c1,c2,c3⟩:=h.crs c m hc;unfold AV.Sa at e;split at e
 ·rename_i t
  split at e
  ·have e0:(a.enter 1 1).course=I (c,m):=by rw[<-hc];unfold Bb.enter;grind
   have e1:(a.enter 1 1).tell (t == 1)={a.enter 1 1 with course:=I (c,c.tell m (t == 1))}:=by unfold Bb.tell;rw[e0]
   rw[e1]at e;have h1:=(h.enter 1 1).none.course c1 (Cas.gx c1 c2 ho (t == 1)).1;exact sf hz h1 (by show 1<=(a.enter 1 1).last;rw[Vc];exact hl) (by show(a.enter 1 1).has=false;rw[iJ];exact hh) p e
  grind
 grind
theorem Afi(a:List Bool)(out:Int)(s:Nat):(QA a out s).length<=512:=by
 unfold QA;split
 ·rename_i h
  unfold Qz at h
  grind [YR,GW,RT,i7,qC]
 ·simp
theorem Afj(b:List Bool)(n t:Int)(l:List C8)(m:Int)(s:Nat):(MC b n t l m s).length<=512:=by
 grind [MC,Afi]
theorem BO.acc(hz:Iv z)(h:BO z a)(hl:1<=a.last)(hb:a.ph=1)(hh:a.has=false):BO z {z.IS a with wait:=[]}:=by
 have hr:=h.rn hb hh;unfold AV.IS;refine{h with recs:=fun r hr2=>?_,ro:=?_,rl:=fun r hr2=>?_,rn:=fun _ e=>(by cases e),w2:=fun _ e=>(by cases e),w4:=fun _ e=>(by cases e),w7:=fun _ e=>(by cases e),w8:=fun _ _ _ e=>(by cases e)}
 ·rcases OV.1 hr2 with h3 | h3
  ·exact h.recs r h3
  ·simp only[List.mem_singleton]at h3
   subst h3;exact⟨⟨by have:=h.last;exact this.1,h.last.2⟩,h.blk,(Ns.1 h.led).1,Afj _ _ _ _ _ _⟩
 ·show((a.recs++ [_]).map Rc.ses).Pairwise (· < ·)
  rw[SQ,List.pairwise_append];refine⟨h.ro,AO,fun x hx y hy=>?_⟩
  grind
 ·rcases OV.1 hr2 with h3 | h3
  ·exact h.rl r h3
  grind
end
section
variable{a:Bb}{l:List Int}{z:AV}
theorem iK{α:Type}(p q:α->Bool)(hpq:∀x,p x=true->q x=false):∀l:List α,(l.filter p).length+(l.filter q).length<=Y l
 | []=>by simp
 | x::l=>by
  have ih:=iK p q hpq l
  grind
theorem Vd(h:∀x∈l,0<=x/\x<=65535):l.all okW=true:=by
 grind [okW,Xs]
def bV{n:Nat}{x:Int}(hn:n<=4096)(h:Cz l 0 (n-1)=0)(hx:x∈l):0<=x/\x<=4096:=by
 have:=YY h hx;omega
theorem si(b:Bool):0<=EM b/\EM b<=1:=by grind [EM]
theorem Afk(hz:Iv z)(h:BO z a)(hl:1<=a.last)(hh:a.has=false)(ws:List Int)(hw:Y ws<=4096):Pv z (z.TS a ws):=fun p e=>by
 have n:=hz.s.n;unfold AV.TS at e;split at e
 ·cases e
 ·rename_i hm
  have hm:KO a.pulses (ws.map KS) z.s.head=0:=J;have hk:=re n.head.1 hm;have LR:=qO a.pulses (ws.map KS) z.s.head;rw[Dz]at LR;have h0:=(iy hm).2.2;have hc:=rg h0 (c:=2) AC hk;have hpl:=Va h0;simp only at e;split at e
  ·cases e
   exact h.stop hz hl AC
  ·rename_i hs
   cases e;obtain⟨kept,Afl⟩:=Az (KP a.pulses (ws.map KS) z.s.head);rw[Afl]at hk LR hc hs ⊢;obtain⟨sig,Afm⟩:=Az (LC a.pulses kept 2);rw[Afm]at hc hs ⊢;have sj:(sig.take z.s.block.toNat).Sublist kept:=(List.take_sublist _ _).trans (hc▸List.filter_sublist);have hb:=n.block
   have h1:BO z {a with kept:=kept,slots:=sig.take z.s.block.toNat,decoys:=kept.filter (NX z a),wait:=[4]}:=
    {h with slt:=Ad4 hk sj,kpt:=hk,dec:=Q,w2:=fun _ e=>absurd e (show¬(2:Int)∈[4]by decide),w4:=fun _ _=>(by grind),w7:=fun _ e=>absurd e (show¬(7:Int)∈[4]by decide),w8:=fun _ e=>Xv hh e}
   refine BO.send hz h1 hl AC (Vd fun x hx=>?_) ?_
   ·rcases OV.1 hx with hx | hx
    ·have:=bV hpl hk (sj.subset hx)
     omega
    ·obtain⟨y,hy,rfl⟩:=Ld.1 hx
     have h3:=bV hpl hk (List.mem_filter.1 hy).1;have h4:=si (Jw a.pulses y == 1);unfold Wg;omega
   ·have h3:=iK (fun s=>decide (Jw a.pulses s=2)) (NX z a) (fun s e=>by
     have e2:Jw a.pulses s=2:=by grind
     unfold NX
     grind) kept
    grind
theorem Afn(hz:Iv z)(h:BO z a)(hl:1<=a.last)(hh:a.has=false)(ws:List Int)(hw:Y ws<=4096):Pv z (z.T9 a ws):=fun p e=>by
 have n:=hz.s.n;unfold AV.T9 at e;split at e
 ·cases e
 ·rename_i hlen
  split at e
  ·cases e
  ·split at e
   ·cases e
   ·cases e
    have hb:=n.block
    have hr:(DN (Iq a.clicks a.shift (ws.take z.s.block.toNat)) (z.MN a)).length<=512:=by
     grind [DN,Iq,AV.MN,MJ,bO]
    have h0:BO z {a with block:=DN (Iq a.clicks a.shift (ws.take z.s.block.toNat)) (z.MN a)}:={h with blk:=hr}
    have h1:=h0.none.wait [5] AC AC AC (Xv hh);refine BO.send hz h1 hl AC (rQ _) ?_;rw[Dz,KZ];have h3:=ir a.clicks a.shift ((ws.drop z.s.block.toNat).map (· / 2));rw[Dz,SI]at h3
    have h4:((DN (Iq a.clicks a.shift (ws.take z.s.block.toNat)) (z.NW a)).length:Int)<=z.s.block:=by
     unfold DN AV.NW;rw[Dz];exact rP J
    omega
def iM(t s n:Int)(f:BA):0<=V7 t s n f/\V7 t s n f<=512:=by
 unfold V7;split
 ·rename_i h
  have:=ln h;omega
 omega
theorem Afo(o:Bw)(g:Gn)(n:Nat):Pf o g (n:Int)<=n:=by
 grind [Pf]
theorem sk(z:AV)(a:Bb)(l:List Int)(n:Nat):0<=(z.LF a l n).1/\(z.LF a l n).1<=n:=by
 grind [AV.LF,Afo]
theorem Afp(hz:Iv z)(h:BO z a)(hl:1<=a.last)(hh:a.has=false)(ws:List Int):Pv z (z.QB a ws):=fun p e=>by
 unfold AV.QB at e;split at e
 ·cases e
 ·simp only at e
  split at e
  ·cases e
   exact h.stop hz hl AC
  ·obtain⟨rest,so⟩:=Az (DN (KQ a.pulses a.slots) (z.MN a))
   obtain⟨t,ht⟩:=Az (V7 z.s.block z.s.sample (V6 (DN (KQ a.pulses a.slots) (z.NW a)) ws) z.s.eps)
   have hr:Y rest<=512:=by
    rw[<-so];unfold DN AV.MN;rw[Dz];exact bO
   have ht2:0<=t/\t<=512:=by rw[<-ht];exact iM _ _ _ _
   rw[so,ht]at e;have h0:∀n:Int,BO z {a with t:=t,n:=n,block:=rest}:=fun n=>{h with blk:=hr}
   have h1:∀n:Int,BO z {a with t:=t,n:=n,block:=rest,wait:=[6,8]}:=fun n=>(h0 n).none.wait [6,8] AC AC AC (Xv hh)
   split at e
   ·split at e
    ·cases e
     exact(h0 _).stop hz hl AC
    ·cases e
     obtain⟨q1,q2⟩:=sk z {a with t:=t,n:=Y rest,block:=rest} (ws.drop z.s.sample.toNat) (Y rest);refine BO.send hz (h1 _) hl AC (Vd fun x hx=>?_) (Fg Q)
     grind
   ·cases e
    refine BO.send hz (h1 _) hl AC (Vd fun x hx=>?_) (Fg Q)
    grind
theorem Afq(hz:Iv z)(h:BO z a)(hl:1<=a.last)(hb:a.ph=1)(hh:a.has=false)(ws:List Int):Pv z (z.Sb a ws):=fun p e=>by
 unfold AV.Sb at e;split at e
 ·have h1:=h.enter 3 z.s.width
  have Ll:1<=(a.enter 3 z.s.width).last:=qrf Vc hl;have hb1:(a.enter 3 z.s.width).ph=1:=by rw[<-hb];unfold Bb.enter;grind
  have hh1:(a.enter 3 z.s.width).has=false:=qrf iJ hh;simp only at e;split at e
  ·cases e
   exact h1.stop hz Ll AC
  ·split at e
   ·cases e
    exact h1.stop hz Ll AC
   ·cases e
    have h2:=(h1.acc hz Ll hb1 hh1).wait [10] AC AC AC (fun _ k e=>by grind);exact BO.send hz h2 Ll AC Q (Fg Q)
 grind
def Afr(hz:Iv z)(h:BO z a)(hl:1<=a.last)(hb:a.ph=1)(hh:a.has=false)(ws:List Int):Pv z (z.Sc a ws):=fun p e=>by
 unfold AV.Sc at e;split at e
 ·cases e
 ·split at e
  ·cases e
   exact h.stop hz hl AC
  ·cases e
   have h2:=(h.acc hz hl hb hh).idle 2 a.rs AC AC;exact BO.send hz h2 hl AC Q (Fg Q)
theorem Afs(hz:Iv z)(h:BO z a)(hl:1<=a.last)(hb:a.ph=1)(kind:Int)(hw:kind=11\/kind∈a.wait)(ws:List Int)(hl4:Y ws<=4096):BO z (z.Td kind a ws).1:=by
 have fin:∀r:Jz,Pv z r->BO z (r.getD (z.stop a 6)).1:=fun r hr=>by
  cases e:r with
  | none=>exact h.stop hz hl AC
  | some p=>exact hr p e
 have hf:kind≠10->kind≠11->a.has=false:=fun k1 k2=>by
  rcases hw with h1 | h1
  ·omega
  ·cases hh:a.has with
   | false=>rfl
   | true=>exact absurd (h.w8 hb hh kind h1) k1
 unfold AV.Td AV.V8;apply fin;split
 ·exact Afc hz h hl (hf J J) ws
 ·split
  ·exact Afk hz h hl (hf J J) ws hl4
  ·split
   ·exact Afn hz h hl (hf J J) ws hl4
   ·split
    ·exact Afp hz h hl (hf J J) ws
    ·split
     ·exact Afg hz h hl (hf J J) ws
     ·split
      ·exact Afe hz h hl ws
      ·split
       ·rename_i e
        refine Afh hz h hl (hf J J) (h.w7 hb ?_) ws
        grind
       ·split
        ·exact Afq hz h hl hb (hf J J) ws
        ·split
         ·exact Afr hz h hl hb (hf J J) ws
         ·split
          ·exact Afa h ws
          ·exact Afb h ws
end
section
variable{a:Bb}{p:Bb × List Lt}{z:AV}
def sq{l:Lt}(h:z.Wh l=true):Pk z.W l:=by
 unfold AV.Wh VH H5 AR at h;simp only[Bool.and_eq_true]at h;obtain⟨⟨h1,h2,h3,h4⟩,h5,h6⟩:=h;exact⟨Ib h1,Ib h2,Ib h3,Ib h4,h6,Ib h5⟩
theorem Aft(hz:Iv z)(h:BO z a)(l:Lt):BO z (z.Gj a l).1:=by
 unfold AV.Gj;split
 ·exact h
 ·split
  ·exact h
  ·rename_i hf
   split
   ·exact h
   ·split
    ·exact h
    ·rename_i hs
     split
     ·exact h
     ·have Afu:z.Wh l=true:=by
       grind
      have BI:=sq Afu
      have hb:a.ph=1:=by
       omega
      have hw:l.kind=11\/l.kind∈a.wait:=by
       grind
      have ht:=hz.s.n.tries
      have h1:BO z {a with used:=l.num.toNat::a.used,took:=I l,waited:=0}:=
       {h with took:=fun l' e=>(by grind),wt:=(by decide:(0:Int)<=0/\(0:Int)<=101),wb:=fun _=>(show(0:Int)<=z.s.tries by omega)}
      exact Afs hz h1 (h.busy hb) hb l.kind hw l.ws BI.len
def Afv(hz:Iv z)(h:BO z a):BO z (a.tick z.side z.W z.bits z.s.tries).1:=by
 have ht:=hz.s.n.tries;have hw:=h.wt;unfold Bb.tick;split
 ·rename_i hb
  have h1:=h.wb hb;split
  ·exact{h with wt:=(show 0<=a.waited+1/\a.waited+1<=101 by omega),wb:=fun _=>(show a.waited+1<=z.s.tries by assumption)}
  ·have h2:BO z {({a with waited:=a.waited+1}:Bb)with ph:=3,rs:=a.rs}:=
    {h.phase 3 a.rs AC AC with wt:=(show 0<=a.waited+1/\a.waited+1<=101 by omega),wb:=fun e=>absurd e (show¬(3:Int)=1 by decide)}
   split
   ·exact h2.phase 2 a.rs AC AC
   ·have h3:BO z {({a with waited:=a.waited+1}:Bb)with ph:=3,rs:=9}:=h2.phase 3 9 AC AC
    exact BO.send hz h3 (h.busy hb) AC Q (Fg Q)
 omega
def AV.LI(z:AV)(p:List AQ)(c:List Bf):Bool:=if z.side=0 then !(decide ((Y p:Int)=z.s.slots)&&decide (Bz AQ.ok p=0))else !(decide ((Y c:Int)=z.s.slots)&&decide (Bz Bf.ok c=0))
def Bb.JD(a:Bb)(ses:Int)(p:List AQ)(c:List Bf)(w:Int):Bb:={a.down with ph:=1,last:=ses,pulses:=p,clicks:=c,wait:=[w]}
def AV.Em(z:AV)(a:Bb)(ses:Int)(p:List AQ)(c:List Bf):Bb × List Lt × Int:=
 if a.ph=4 then(a,[],13)
 else if¬(1<=ses/\ses<=1000)then(a,[],3)
 else if ses<=a.last then(a,[],16)
 else if z.LI p c=true then(a,[],2)
 else if z.side=1 then(a.JD ses [] c 1,[],0)
 else
  let r:=z.send (a.JD ses p [] 2) 1 ((p.take z.s.head.toNat).map CY)
  (r.1,r.2,0)
theorem su{p:AQ}(h:p.ok=true):0<=CY p/\CY p<=65535:=by
 simp[AQ.ok,AR]at h
 grind [CY]
theorem BO.JD(hz:Iv z)(h:BO z a){ses:Int}{p:List AQ}{c:List Bf}{w:Int}(hs:1<=ses/\ses<=1000)(hl:a.last<ses)(hp:Bz AQ.ok p=0)(hc:Bz Bf.ok c=0)(hw:w≠4/\w≠7):BO z (a.JD ses p c w):=by
 have ht:=hz.s.n.tries;have hd:=h.down;have e4:∀{k:Int},k≠w->k∈[w]->False:=fun h1 h2=>h1 (by grind)
 have e5:∀r∈a.recs,r.ses<ses:=fun r hr=>by
  have:=(h.rl r hr).2;omega
 have e6:∀r∈a.recs,1<=r.ses/\r.ses<=ses:=fun r hr=>⟨(h.rl r hr).1,Int.le_of_lt (e5 r hr)⟩
 unfold Bb.JD;exact{hd with last:=(show 0<=ses/\ses<=1000 by omega),busy:=fun _=>hs.1,ph:=(by decide:(0:Int)<=1/\(1:Int)<=4),wb:=fun _=>(show(0:Int)<=z.s.tries by omega),pls:=hp,clk:=hc,slt:=(show Cz [] 0 _=0 from rfl),kpt:=(show Cz [] 0 _=0 from rfl),dec:=Q,w2:=fun _ _=>rfl,w4:=fun _ e=>(e4 (Ne.symm hw.1) e).elim,w7:=fun _ e=>(e4 (Ne.symm hw.2) e).elim,rl:=e6,rn:=fun _ _=>e5,w8:=fun _ e=>(by cases e)}
theorem sx(hz:Iv z)(h:BO z a)(Gk:z.side=0\/z.side=1)(ses:Int)(p:List AQ)(c:List Bf):BO z (z.Em a ses p c).1:=by
 unfold AV.Em;split
 ·exact h
 ·split
  ·exact h
  ·rename_i hs
   split
   ·exact h
   ·rename_i hl
    split
    ·exact h
    ·rename_i hb
     split
     ·rename_i h1
      have hc:Bz Bf.ok c=0:=by
       grind [Bz,Bf.ok,AV.LI]
      exact h.JD hz J J Q hc AC
     ·rename_i h1
      have h0:z.side=0:=by omega
      have hp:((Y p:Int)=z.s.slots)/\Bz AQ.ok p=0:=by
       grind [Bz,AQ.ok,AV.LI]
      have BI:∀q∈p,q.ok=true:=by
       grind [AQ.ok,AV.LI,Bz]
      refine BO.send hz (h.JD hz J J hp.2 Q AC) (by show 1<=ses;omega) AC (Vd fun y hy=>?_) ?_
      ·obtain⟨q,hq,rfl⟩:=Ld.1 hy
       exact su (BI q (Ui hq))
      grind [CY,AV.LI,Bz,AQ.ok]
def EB(p:Bb × List Lt):Prop:=∀l∈p.2,p.1.sent=I l
theorem EB.nil(a:Bb):EB (a,[]):=fun l h=>by cases h
theorem EB.again(a:Bb):EB (a,a.sent.toList):=fun l h=>by
 grind
theorem EB.send(z:AV)(a:Bb)(kind:Int)(ws:List Int):EB (z.send a kind ws):=by
 unfold AV.send Bb.send
 grind [EB,Bb.UV,Bb.Qw,Dr]
theorem EB.stop(z:AV)(a:Bb)(r:Int):EB (z.stop a r):=EB.send z _ 11 [r]
def JE(r:Jz):Prop:=∀p,r=I p->EB p
theorem JE.none:JE Z:=fun p e=>by cases e
theorem JE.some(h:EB p):JE (I p):=fun q e=>by grind
theorem Afw(z:AV)(a:Bb):JE (z.FY a):=by
 grind [JE,AV.FY,JE.none,JE.some,EB.stop,EB.send]
theorem Afx(z:AV)(kind:Int)(a:Bb)(ws:List Int):JE (z.V8 kind a ws):=by
 have nn:=JE.none;have s1:=fun b r=>JE.some (EB.stop z b r)
 have s2:=fun b k l=>JE.some (EB.send z b k l)
 have s3:=fun b=>JE.some (EB.nil b)
 have s4:=Afw z;unfold AV.V8;split
 ·grind [JE,AV.Pj,AV.stop,AV.send,AV.FY]
 ·split
  ·grind [JE,AV.TS,AV.stop,AV.send,AV.FY]
  ·split
   ·grind [JE,AV.T9,AV.stop,AV.send,AV.FY]
   ·split
    ·grind [JE,AV.QB,AV.stop,AV.send,AV.FY]
    ·split
     ·unfold AV.QC;grind
     ·split
      ·unfold AV.Ta;grind
      ·split
       ·unfold AV.Sa;grind
       ·split
        ·unfold AV.Sb;grind
        ·split
         ·grind [JE,AV.Sc,AV.stop,AV.send,AV.FY]
         ·split
          ·grind [JE,AV.Tb,AV.stop,AV.send,AV.FY]
          ·unfold AV.Tc;split;split;split;with_reducible exact s3 _;with_reducible exact s3 _;all_goals omega
theorem Afz(z:AV)(kind:Int)(a:Bb)(ws:List Int):EB (z.Td kind a ws):=by
 unfold AV.Td;cases e:z.V8 kind a ws with
 | none=>exact EB.stop _ _ _
 | some p=>exact Afx z kind a ws p e
theorem AfA(z:AV)(a:Bb)(l:Lt):EB ((z.Gj a l).1,(z.Gj a l).2.1):=by
 grind [EB,AV.Gj,EB.nil,EB.again,Afz]
theorem AfB(z:AV)(a:Bb):EB (a.tick z.side z.W z.bits z.s.tries):=by
 unfold Bb.tick;split
 ·split
  ·grind [EB]
  ·split
   ·grind [EB]
   ·exact EB.stop z {a with waited:=a.waited+1} 9
 grind [EB]
theorem AfC(z:AV)(a:Bb)(ses:Int)(p:List AQ)(c:List Bf):EB ((z.Em a ses p c).1,(z.Em a ses p c).2.1):=by
 grind [EB,AV.Em,EB.nil,EB.send]
def iN(h:BO z p.1)(hs:EB p):∀l∈p.2,Pk z.W l:=fun l hl=>h.sent l (hs l hl)
end
end Go.Proofs.YtjpidgffdkjjeaaGreat
