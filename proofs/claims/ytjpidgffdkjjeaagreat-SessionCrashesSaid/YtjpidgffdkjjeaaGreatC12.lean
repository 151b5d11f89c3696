/- Contracts and plain laws. No condition. -/
import Derived.Ground.GgzProg
import Derived.Ground.SlgmProg
import Derived.Ground.SlmcProg
import Derived.Shelf.SlIterI.Nil
import Derived.Shelf.SlMaps.Clone
import Derived.Shelf.SortM.Plain
import Derived.Shelf.SortM.SortNone
import Derived.Shelf.Spec.SlicesGrow
import Derived.Test.YtjpidgffdkjjeaaGreatCA
import Derived.Test.YtjpidgffdkjjeaaGreatCS
import Derived.Test.YtjpidgffdkjjeaaGreatC05
import Derived.Test.YtjpidgffdkjjeaaGreatC10
set_option linter.all false
set_option maxHeartbeats 16000000
namespace Go.Proofs.YtjpidgffdkjjeaaGreat
open Go.Proofs.Tryz
open Go.Proofs.Tryz renaming prog->AE
open List renaming length->Y
open Go.World renaming cell?->E,setCell->Ai,alloc->Ao,frozen?->Bo
open Go.Value renaming int->U,slice->R,pointer->AI,agg->Ba,tuple->Be,nilFunc->Bl,bool->Av
open Go.IntKind renaming i64->O,u64->AA,u32->BF,u8->Cd
open Option renaming none->Z,some->I
open Go.Ending renaming returned->AN
open Go.Obj renaming cells->N
open Go renaming World->V,Value->An,Calls->AL,Addr->AS
open Go.RowKit renaming Below->Ag,Hid->Aj
set_option maxRecDepth 100000
open Go.RowKit
def Yt(n:Int)(k:Nat):Bool:=decide (n.toNat / 2^k%2=1)
def Ei(n:Int):Nat->List Bool
 | 0=>[]
 | j+1=>Ei n j++ [Yt n (15-j)]
theorem WZ(n:Int):∀j,(Ei n j).length=j
 | 0=>rfl
 | j+1=>by rw[Ei,KZ,WZ n j];rfl
structure Yu(w:V)(base p:Nat)(v:An)(L:List Bool):Prop where
 c:E w ⟨p,0,Z⟩=I v
 fr:Bo w ⟨p,0,Z⟩=false
 own:Own w base 4 1 C4 v L
 ap:v.ownBlock=Z\/v.ownBlock≠I p
 hp:base<=p
theorem Fo(x:V)(b o:Nat)(v:An):x.grownBy (x.setCell ⟨b,o,Z⟩ v) (I b):=
 ⟨(Ae 0 x |>.setCell (BM _) v).os,(Ae 0 x |>.setCell (BM _) v).tape,(Ae 0 x |>.setCell (BM _) v).output,(Ae 0 x |>.setCell (BM _) v).size,fun j _ hn=>Fd x _ _ j (by grind)⟩
def okW(x:Int):Bool:=AR x 0 65535
def mR(x:Int)(w:V):AL AE 124 #[U O x] w fun e w'=>e=AN (Av (!okW x))/\w=w':=by
 have h:Aj (okW x=AR x 0 65535):=F Q;go_in;go_wp2_with(go_at_call 116;refine mqv (FH _ _ _ _) ?_;rw[<-h.out]);go_ret;exact⟨Q,Q⟩
def zJ(A:Option AS)(c:Nat)(l:List Int)(w:V)(hA:Arr 1 BD w w A l)(hl:Y l<=4611686018427387904):
  AL AE 174 #[R A (Y l) c,.func (.func 124) #[] #[]] w fun e w'=>∃r:Int,e=AN (U O r)/\decide (r>=0) = !l.all okW/\w=w':=by
 go_in;go_wp2_with fail;go_loopw [8] (fun i wr=>∃k:Nat,k<=Y l/\i=U O k/\Aj ((l.take k).all okW=true)/\w=wr) (fun i _=>Y l-(intOf i).toNat);exact⟨0,J,rfl,F rfl,rfl⟩
 obtain⟨k,hk,rfl,hall,rfl⟩:=hrel;by_cases hlt:k<Y l
 ·obtain⟨b,off,rfl,BN,hc⟩:=hA.get hlt (Ae _ _)
  have c0:=hc 0 _ Q;simp only[Nat.mul_one,Nat.add_zero]at c0;have ht:Aj ((l.take (k+1)).all okW=((l.take k).all okW&&okW l[k])):=F (by rw[Wu hlt,Su];simp)
  have hno:Aj (okW l[k]=false->l.all okW=false):=F (fun h=>by
   rw[<-XU k l,Su,PI hlt,List.all_cons,h];simp)
  generalize l[k]=x at*;cases hx:okW x
  ·go_wp2_with(go_at_call 124;refine mqv (mR _ _) ?_;rw[hx])
   go_ret;exact⟨_,Q,by rw[hno.out hx];simp,Q⟩
  ·go_wp2_with(go_at_call 124;refine mqv (mR _ _) ?_;rw[hx])
   go_roundw;exact⟨k+1,J,qgm,F (by rw[ht.out,hall.out,hx];rfl),trivial⟩;simp[intOf];omega
 ·have e1:Aj (l.take k=l):=F (EG J)
  go_wp2;go_ret;exact⟨_,Q,by rw[<-e1.out,hall.out];rfl,Q⟩
theorem zK{P:Program}{W:V}{ops:Array Oper}{o:Oper}{a:Act}{K:Act->V->Prop}{Bn:Exit->Act->V->Prop}{AM:Prop}(hgd:o.guard=Z)(s x:Operand)(t:TypeId)
  (ho:o.op=.call {callee:= .builtin .append,args:=#[s,x],argTypes:=#[t,t]})
  (base:Nat) (e:TypeId) (i:TypeInfo) (z:An) (size bytes:Nat) (ht:P.underlying t=I (.slice e)) (hi:P.info? e=I i) (hz:i.zero=I z)
  (hsize:i.size=size) (hby:i.bytes=bytes) (hzs:z.cells.size=size) (hsz:0<size)
  {α:Type} {enc:α->List An} (v:An) (l:List α) (x0:α) (hs:a.eval s=v) (hown:Own W base e size enc v l)
  {g:Nat} (hx:a.eval x=R (I ⟨g,0,Z⟩) 1 1) (hnews:∀j u,(enc x0)[j]?=I u->E W ⟨g,j,Z⟩=I u) (hlen:(enc x0).length=size) (h1:∀u∈enc x0,u.oneCell'=true)
  (hbytes:(Y l+1)*bytes<=140737488355328) (I7:0<bytes) (hbase:base<=↑W)
  (h:∀v' w',Own w' base e size enc v' (l++ [x0])->W.grownBy w' v.ownBlock->At W v v'->K (a.put o.dst v') w'):if Region.wanted o (yielded ops a.tmps)=true then Oper.wp P o a W K Bn else AM:=by
 have h63:Y l+1<=maxLen:=by
  have:=Vt (Y l+1) I7;unfold maxLen;omega
 rw[Bd (by simp[Region.wanted,hgd])]
 obtain⟨v',w',hr,h2,h3,h4,h5⟩:=run_append_own_at (P:=P) W base t o.type e i z size bytes ht hi hz hsize hby hzs hsz v (Y l) (l.flatMap enc) hown ⟨g,0,Z⟩ 1 1 (enc x0) J (fun j u hu=>by
  have PH:(⟨g,0,Z⟩:AS).add j=⟨g,j,Z⟩:=by unfold Addr.add;split <;> simp_all
  rw[PH];exact hnews j u hu) h1 h63 hbytes hbase
 unfold Oper.wp execOp;simp only[ho,resolve,invoke,builtin,Sem.run_bind,Sem.run_pure,Result.andThen_ok,List.map_toArray,List.map_cons,List.map_nil,hs,hx,hr];refine h v' w' (Own.snoc h2) h3 ?_;rcases h5 with h5 | h5
 ·exact .inl h5
 ·exact .inr ⟨_,h5,Bg _⟩
def qsL{P:Program}{w:V}{ops:Array Oper}{o:Oper}{a:Act}{K:Act->V->Prop}{Bn:Exit->Act->V->Prop}{AM:Prop}{t e:TypeId}{z:An}{size bytes:Nat}(ht:P.underlying t=I (.slice e))(hf:(P.info? e).map (fun i=>(i.zero,i.size,i.bytes))=I (I z,size,bytes)){α:Type}{enc:α->List An}(l:List α)(x0:α){v:An}{base:Nat}(hown:Own w base e size enc v l){g:Nat}(hnews:∀j u,(enc x0)[j]?=I u->E w ⟨g,j,Z⟩=I u)(h1:∀u∈enc x0,u.oneCell'=true)
  (hbytes:(Y l+1)*bytes<=140737488355328) (hbase:base<=↑w) (h:∀v' w',Own w' base e size enc v' (l++ [x0])->w.grownBy w' v.ownBlock->At w v v'->K (a.put o.dst v') w') {s x:Operand}
  (hgd:o.guard=Z:=by exact rfl) (ho:o.op=.call {callee:= .builtin .append,args:=#[s,x],argTypes:=#[t,t]}:=by exact rfl) (hs:a.eval s=v:=by exact rfl) (hx:a.eval x=R (I ⟨g,0,Z⟩) 1 1:=by exact rfl) (hlen:(enc x0).length=size:=by exact rfl) (hzs:z.cells.size=size:=by exact rfl) (hsz:0<size:=by decide) (I7:0<bytes:=by decide):if Region.wanted o (yielded ops a.tmps)=true then Oper.wp P o a w K Bn else AM:=by
 obtain⟨i,hi,hz,h2,h3⟩:=IA hf;exact zK hgd s x t ho base e i z size bytes ht hi hz h2 h3 hzs hsz v l x0 hs hown hx hnews hlen h1 hbytes I7 hbase h
theorem zL{AP k:Nat}(h:AP<1000000):(bits BinOp.and IntKind.i64 ((AP:Int) / 2^k) 1 == 1)=Yt (AP:Int) k:=by
 have hx:AP / 2^k<1000000:=Do (Sy _ _) h;have e:((AP:Int) / 2^k)=((AP / 2^k:Nat):Int):=AO
 have o:∀x:Nat,x<1000000->(BitVec.ofInt 64 (x:Int)).toNat=x:=fun x hx=>by
  grind
 rw[e];unfold Yt;rw[Ro];generalize AP / 2^k=M at*
 have h1:bits BinOp.and IntKind.i64 (M:Int) ((1:Nat):Int)=((M &&& 1:Nat):Int):=by
  show IntKind.i64.wrap ((BitVec.ofInt 64 (M:Int) &&& BitVec.ofInt 64 ((1:Nat):Int)).toNat:Int)=_;rw[BitVec.toNat_and,o M hx,o 1 AC];have:M &&& 1<=1:=Nat.and_le_right;exact IntWalk.i64_in _ J
 grind
def aj(AP p base:Nat)(v:An)(L:List Bool)(w:V)(hn:AP<=65535)(h:Yu w base p v L)(hL:Y L<=100000)(hb:base<=↑w):
  AL AE 125 #[U O AP,AI (I ⟨p,0,Z⟩)] w fun e w'=>(∃u,e=AN u)/\∃v',Yu w' base p v' (L++ Ei (AP:Int) 16)/\Ag base w w':=by
 go_in;go_wp2_with fail;go_loopw [3] (fun kv wr=>∃(j:Nat) (v':An),j<=16/\kv=U O (15-(j:Int))/\Yu wr base p v' (L++ Ei (AP:Int) j)/\Ag base w wr) (fun kv _=>(intOf kv+1).toNat);exact⟨0,v,J,AO,by simpa[Ei]using h,Ae _ _⟩
 obtain⟨j,v',hj,rfl,By,hbr⟩:=hrel;obtain⟨w6,rfl⟩:=qgn wr;have sz6:=Br hb hbr.size;by_cases GD:j<16
 ·have hst:Aj (L++ Ei (AP:Int) (j+1)=(L++ Ei (AP:Int) j)++ [Yt (AP:Int) (15-j)]):=F (by rw[Ei,List.append_assoc])
  have hbt:=zL (k:=15-j) (show AP<1000000 by omega);have hlen:Aj ((L++ Ei (AP:Int) j).length+1<=140737488355328):=F (by rw[KZ,WZ];omega);have oc:=By.c;have ofr:=By.fr;have oo:=By.own;have oap:=By.ap;have ohp:=By.hp;have plt:p<↑w6:=Ch w6 _ oc;have Oap:=F oap;clear By h oap;generalize L++ Ei (AP:Int) j=M at*;generalize Yt (AP:Int) (15-j)=bt at*;go_upto_region 3 with fail;refine Fz (S:=fun _=>True) AG trivial (fun hHeld=>?_);refine tQ4 1 ?_;refine tQ 5 ?_;refine I8 [0,6] ?_;refine Dj Q (fun K1 BS=>?_) (Dj Q (fun K1 BS=>?_) GQ)
  focus
   go_simp
   refine BS.out _ _ trivial (fun hS1=>?_);refine zq ?_;refine url 6 (fun K2 hK2=>?_)
  rotate_left
  focus
   go_simp
   refine BS.out _ _ trivial (fun hS1=>?_);refine zq ?_;refine url 0 (fun K2 hK2=>?_)
  rotate_left
  all_goals
   go_simp;refine hK2.out _ _ trivial (fun PP=>?_);refine zq ?_;have oy:Own (Ao w6 (N #[Av bt] 4)).drew base 4 1 C4 v' M:=oo.alloc _;have b9:Ag base w6 (Ao w6 (N #[Av bt] 4)).drew:=((Ae _ _).alloc sz6 _).drew;refine url 7 (fun K3 hK3=>?_)
   refine qsL (enc:=C4) Tryz.underlying44 Rn M bt oy (fun j u hu=>by
    match j,hu with
    | 0,hu=>
     obtain rfl:Value.bool bt=u:=by simpa[C4]using hu
     exact Cb Q) (by simp[C4,Value.oneCell']) (by have:=hlen.out;omega) (Br sz6 b9.size) ?_
   intro v10 Bs DX FI Ln;refine hK3.out _ _ trivial (fun hS3=>?_);refine zq ?_;have zM:I p≠v'.ownBlock:=fun e=>by rcases Oap.out with h | h <;> rw[<-e]at h <;> simp at h
   have Ez:=FI.block p (Ck plt AO) zM;have c10:=(Fx Ez).trans ((World.cell?_alloc_lt w6 _ _ plt).trans oc);have f10:=(WU Ez).trans ((World.frozen?_alloc_past (w:=w6) (N #[Av bt] 4) p 0 plt).trans ofr);have Jj:=(hbr.trans b9).grown FI (Br sz6 b9.size) (fun x hx=>(Cp oy x hx).1)
   have mS:v10.ownBlock=Z\/v10.ownBlock≠I p:=by
    rcases Ln with h | ⟨H,h,hH⟩
    ·rw[h];exact Oap.out
    ·refine .inr ?_
     rw[h];have:=Br b9.size hH;simp;omega
   obtain⟨DM,k10,OO,_,_,_,_⟩:=DX.form Dk;subst OO;refine url 8 (fun K4 hK4=>?_);go_simp;refine hK4.out _ _ trivial (fun hS4=>?_);refine zq ?_;refine Ce ?_;go_wp2_with fail;exact⟨⟨j+1,_,J,congrArg (Value.int .i64) J,by rw[hst.out];exact⟨by go_simp,by go_simp,DX.keep (Fo Bs p 0 _) mS,mS,ohp⟩,Jj.setCell ohp _⟩,qio⟩
 ·obtain rfl:j=16:=J
  go_wp2;go_end0;exact⟨⟨_,Q⟩,v',By,hbr⟩
section
variable{b:Nat}{w w':V}
structure DE where
 ses:Int
 kind:Int
 num:Int
 A:Option AS
 c:Nat
 ws:List Int
 tag:Nat
def DE.cs(l:DE):Array An:=#[U O l.ses,U O l.kind,U O l.num,R l.A (Y l.ws) l.c,U AA l.tag]
def DE.val(l:DE):An:= Ba l.cs
structure DE.In(l:DE)(w:V):Prop where
 a:Arr 1 BD w w l.A l.ws
 len:Y l.ws<=l.c
 cap:l.c<=maxLen
 nil:l.A=Z->l.c=0
def DE.In.on{l:DE}(h:l.In w)(hb:Ag w w w'):l.In w':=⟨h.a.on hb,h.len,h.cap,h.nil⟩
def Dq(w:V)(b:Nat)(l:DE):Prop:=w.heap[b]?=I (N l.cs 39 (0,0))
def Dq.on{l:DE}(h:Dq w b l)(hb:Ag w w w'):Dq w' b l:=
 (hb.block b (Bm.1 h).1).trans h
theorem Dq.new(w:V)(l:DE):Dq (Ao w (N l.cs 39)) w l:=CB w _
def Dq.c{l:DE}(h:Dq w b l)(j:Nat):E w ⟨b,j,Z⟩=l.cs[j]?:=AX w b j _ _ _ h
def Dq.all{l:DE}(h:Dq w b l):∀(j:Nat) (v:An),l.cs[j]?=I v->E w ⟨b,0+j,Z⟩=I v:=fun j v hv=>by rw[EE];exact(h.c j).trans hv
def If(W:Int):Nat:=if W=8 then 256 else if W=16 then 65536 else 4294967296
def H5(l:DE):Bool:=AR l.ses 1 1000&&(AR l.kind 1 11&&(AR l.num 0 65535&&decide (Y l.ws<=4096)))
def VH(W:Int)(l:DE):Bool:=H5 l&&(decide (l.tag<If W)&&l.ws.all okW)
theorem zO{W:Int}(h:Rf W=true):W=8\/W=16\/W=32:=by
 grind [Rf]
def zP{P:Program}{W:V}{ops:Array Oper}{o:Oper}{rest:List Oper}{a:Act}{Bn:Exit->Act->V->Prop}(hgd:o.guard=Z)(l c:Operand)(t:TypeId)(hop:o.op=Op.makeSlice t l c)
  (base:Nat) (e:TypeId) (i:TypeInfo) (z:An) (size:Nat) (h1:P.underlying t=I (.slice e)) (h2:P.info? e=I i) (h3:i.zero=I z) (h4:i.size=size)
  (kl kc:IntKind) (C:Int) (n:Nat) (hl:a.eval l=.int kl 0) (hc:a.eval c=.int kc C) (hC:C=(n:Int)) (b2:i.bytes*n<=281474976710656) (b3:n<=maxLen) (b4:base<=↑W)
  (h:∀w',w'.ownsRow base e size (R (I ⟨W,0,Z⟩) 0 n) 0 []->W.grownBy w' Z->wpList P ops Bn rest (a.put o.dst (R (I ⟨W,0,Z⟩) 0 n)) w'):wpList P ops Bn (o::rest) a W:=
 wpList_plain hgd fun K hK=>by
  obtain⟨w',hrun,r1,r2⟩:=run_make_own (P:=P) W base t e i z size h1 h2 h3 h4 kl kc n b2 b3 b4;subst hC;unfold Oper.wp;simp[execOp,hop,hl,hc,hrun,Result.andThen];exact hK _ _ (h w' r1 r2)
def zQ(A:Option AS)(c:Nat)(l:List Int)(w:V)(hA:Arr 1 BD w w A l)(hl:Y l<=4611686018427387904):
  AL AE 123 #[R A (Y l) c,.func (.func 124) #[] #[]] w fun e w'=>e=AN (Av (!l.all okW))/\w=w':=by
 have cI:=zJ A c l w hA hl;go_in;go_wp2_with fail;refine cI.mono ?_;rintro e w2⟨r,rfl,hr,rfl⟩;go_wp2;go_ret;exact⟨Q,Q⟩
def zR(l:DE)(W:Int)(w:V)(hW:Rf W=true)(h:l.In w)(hl:Y l.ws<=4611686018427387904):
  AL AE 67 #[l.val,U O W] w fun e w'=>e=AN (Av (VH W l))/\Ag w w w':=by
 have q0:=AB (Ae w w) (N l.cs 39);have Ci:=Dq.new w l;have hH:Aj (H5 l=(AR l.ses 1 1000&&(AR l.kind 1 11&&(AR l.num 0 65535&&decide (Y l.ws<=4096))))):=F Q;have hE:Aj (VH W l=(H5 l&&(decide (l.tag<If W)&&l.ws.all okW))):=F Q;have cI:=qbw w fun w' hb=>zQ l.A l.c l.ws w' (h.a.on hb) hl
 unfold DE.val;go_in;go_upto_region 1 with fail;obtain⟨w1,BJ⟩:=Az (Ao w (N l.cs 39));rw[BJ]at q0 Ci ⊢;clear BJ;have x0:E w1 ⟨w,0,Z⟩=I (U O l.ses):=Ci.c 0;have x1:E w1 ⟨w,1,Z⟩=I (U O l.kind):=Ci.c 1;have x2:E w1 ⟨w,2,Z⟩=I (U O l.num):=Ci.c 2;have x3:E w1 ⟨w,3,Z⟩=I (R l.A (Y l.ws) l.c):=Ci.c 3;have x4:E w1 ⟨w,4,Z⟩=I (U AA l.tag):=Ci.c 4;go_cut [5] (fun v wx=>v=Av (H5 l)/\wx=w1)
 case first=>
  cases c1:AR l.ses 1 1000
  ·go_wp2_with(go_at_call 116;refine mqv (FH _ _ _ _) ?_;(first | rw[c1] | rw[c2] | rw[c3]))
   go_meet;exact⟨congrArg Value.bool (by rw[hH.out,c1];rfl),rfl⟩
  ·cases c2:AR l.kind 1 11
   ·go_wp2_with(go_at_call 116;refine mqv (FH _ _ _ _) ?_;(first | rw[c1] | rw[c2] | rw[c3]))
    go_meet;exact⟨congrArg Value.bool (by rw[hH.out,c1,c2];rfl),rfl⟩
   ·cases c3:AR l.num 0 65535
    ·go_wp2_with(go_at_call 116;refine mqv (FH _ _ _ _) ?_;(first | rw[c1] | rw[c2] | rw[c3]))
     go_meet;exact⟨congrArg Value.bool (by rw[hH.out,c1,c2,c3];rfl),rfl⟩
    ·have e4:decide (Y l.ws<=4096)=decide ((Y l.ws:Int)<=4096):=by rw[PO];simp;omega
     have E4:=F e4;clear e4;cases c4:decide ((Y l.ws:Int)<=4096)
     all_goals(
      go_wp2_with(go_at_call 116;refine mqv (FH _ _ _ _) ?_;(first | rw[c1] | rw[c2] | rw[c3]));go_meet;exact⟨congrArg Value.bool (by rw[hH.out,c1,c2,c3,E4.out,c4];rfl),rfl⟩)
 obtain⟨rfl,rfl⟩:=hcut;go_upto_region 2 with fail;have d4:=Di x4;clear x0 x1 x2 x4;go_cut [5] (fun v wx=>v=Av (H5 l&&decide (l.tag<If W))/\Ag wc wc wx)
 case first=>
  cases l1:H5 l
  ·refine qrl ?_;rintro w2⟨⟨_,hb2⟩,rfl⟩
   go_wp2;go_meet;exact⟨congrArg Value.bool (by rw[l1];rfl),hb2⟩
  ·have lw:(W=8/\If W=256)\/(W=16/\If W=65536)\/(W=32/\If W=4294967296):=by
    rcases zO hW with rfl | rfl | rfl
    ·exact .inl ⟨rfl,rfl⟩
    ·exact .inr (.inl ⟨rfl,rfl⟩)
    ·exact .inr (.inr ⟨rfl,rfl⟩)
   clear hW hH
   have fin:∀(M:Nat) (b:Bool),If W=M->decide ((l.tag:Int)<(M:Int))=b->b=(true&&decide (l.tag<If W)):=fun M b h1 h2=>by
    rw[h1,<-h2,Bool.true_and,PO];simp
   have Fin:=F fin;clear fin;rcases lw with⟨rfl,hlw⟩ | ⟨rfl,hlw⟩ | ⟨rfl,hlw⟩
   ·cases t1:decide ((l.tag:Int)<256)
    all_goals(
     have tt:=F t1;refine qrl ?_;rintro w2⟨⟨_,hb2⟩,rfl⟩;go_wp2;go_meet;exact⟨congrArg Value.bool (by rw[l1];exact Fin.out 256 _ Q tt),hb2⟩)
   ·cases t1:decide ((l.tag:Int)<65536)
    all_goals(
     have tt:=F t1;refine qrl ?_;rintro w2⟨⟨_,hb2⟩,rfl⟩;go_wp2;go_meet;exact⟨congrArg Value.bool (by rw[l1];exact Fin.out 65536 _ Q tt),hb2⟩)
   ·cases t1:decide ((l.tag:Int)<4294967296)
    all_goals(
     have tt:=F t1;refine qrl ?_;rintro w2⟨⟨_,hb2⟩,rfl⟩;go_wp2;go_meet;exact⟨congrArg Value.bool (by rw[l1];exact Fin.out 4294967296 _ Q tt),hb2⟩)
 obtain⟨rfl,DT⟩:=hcut;have q2:=AH q0 DT;have x3:=AK DT x3;have Gs:Aj (VH W l=((H5 l&&decide (l.tag<If W))&&l.ws.all okW)):=F (by rw[hE.out,Bool.and_assoc]);generalize(H5 l&&decide (l.tag<If W))=B at*;cases B
 ·go_wp2_with fail
  go_ret;exact⟨JJ (by rw[Gs.out];rfl),q2⟩
 ·have cI2:=cI _ q2
  go_wp2_with fail;refine cI2.mono ?_;rintro e w5⟨rfl,rfl⟩;go_wp2;go_ret;exact⟨JJ (by rw[Gs.out];simp),q2⟩
theorem WW{α:Type}{w:V}{base base' e z:Nat}{enc:α->List An}{v:An}{l:List α}(h:Own w base e z enc v l)(hb:base'<=base):Own w base' e z enc v l:=by
 refine⟨h.1,?_⟩;rcases h.2 with hn | ⟨g,cap,cur,hv,hbg,rest⟩
 ·grind
 ·exact .inr ⟨g,cap,cur,hv,Br hb hbg,rest⟩
def Ga(l:DE):List Bool:=Ei l.ses 16++ Ei l.kind 16++ Ei l.num 16++ l.ws.flatMap fun x=>Ei x 16
theorem mU{l:DE}(h:H5 l=true):(1<=l.ses/\l.ses<=1000)/\(1<=l.kind/\l.kind<=11)/\(0<=l.num/\l.num<=65535)/\Y l.ws<=4096:=by
 unfold H5 AR at h;grind
theorem zS(f:List Int):(f.flatMap fun x=>Ei x 16).length=16*Y f:=by
 induction f with
 | nil=>rfl
 | cons x f ih=>grind [Ei,WZ]
def mV(l:DE)(w:V)(h:l.In w)(hh:H5 l=true)(hw:l.ws.all okW=true):
  AL AE 68 #[l.val] w fun e w'=>∃v,e=AN v/\Own w' w 4 1 C4 v (Ga l)/\Ag w w w':=by
 obtain⟨i0,hi,hz0,hz1,hz2⟩:=IA Rn;have Hi:=F hi;have EJ:=F hz0;have Ep:=F hz1;have Eh:=F hz2;clear hi hz0 hz1 hz2;have q0:=AB (Ae w w) (N l.cs 39);have Ci:=Dq.new w l;obtain⟨h1,h2,h3,h4⟩:=mU hh;obtain⟨N1,Me⟩:=DV (show 0<=l.ses by omega);obtain⟨N2,hN2⟩:=DV (show 0<=l.kind by omega);obtain⟨N3,Kx⟩:=DV h3.1;unfold DE.val;go_in;go_upto_region 1 with fail;obtain⟨w1,BJ⟩:=Az (Ao w (N l.cs 39));have sz1:w.heap.size<w1.heap.size:=by rw[<-BJ];simp
 rw[BJ]at q0 Ci ⊢;clear BJ;have x3:E w1 ⟨w,3,Z⟩=I (R l.A (Y l.ws) l.c):=Ci.c 3;go_upto_region 3 with(at_make;refine zP Q _ _ 44 Q w1 4 i0 _ 1 Tryz.underlying44 Hi EJ Ep _ _ _ (16*(3+Y l.ws)) (by rfl) (by rfl) J (by rw[Eh.out];omega) (by unfold maxLen;omega) (Bg _) ?_;intro w2 JS Nu)
 have b2:Ag w1 w1 w2:=⟨Nu.os,Nu.tape,Nu.output,Nu.size,fun k hk=>Nu.block k hk AO⟩
 have lt2:w1.heap.size<w2.heap.size:=(Cp JS _ Q).2;have q3:Ag w w (Ao w2 (N #[R (I ⟨w1,0,Z⟩) 0 (16*(3+Y l.ws))] 44)):=AB (AH q0 b2) _
 have O3:Yu (Ao w2 (N #[R (I ⟨w1,0,Z⟩) 0 (16*(3+Y l.ws))] 44)) w1 w2 (R (I ⟨w1,0,Z⟩) 0 (16*(3+Y l.ws))) []:=
  ⟨Cb Q,ZM _ _ _ _ Q,XO JS _,.inr (by simp[Value.ownBlock];omega),J⟩
 have EH:=Ci.on (AB b2 (N #[R (I ⟨w1,0,Z⟩) 0 (16*(3+Y l.ws))] 44));obtain⟨w3,hw3⟩:=Az (Ao w2 (N #[R (I ⟨w1,0,Z⟩) 0 (16*(3+Y l.ws))] 44));have Kr:w1.heap.size<=w3.heap.size:=by rw[<-hw3];simp;omega
 rw[hw3]at q3 O3 EH;obtain⟨p,hp⟩:=Az (w2.heap.size);rw[hp]at O3;have keep:∀(x y:V),Dq x w l->Ag w1 x y->Dq y w l:=fun x y hx hb=>(hb.block _ sz1).trans hx
 have fC:=F keep;clear x3 keep;rw[hw3,hp];have x0:E w3 ⟨w,0,Z⟩=I (U O N1):=qrb Me (EH.c 0);clear JS Nu b2 lt2 hw3 hp Ci;go_wp2_with fail;refine(aj N1 p w1 _ [] w3 J O3 AO Kr).mono ?_;rintro e w4⟨⟨u4,rfl⟩,v4,O4,hb4⟩;have GV:=fC.out _ _ EH hb4;have q4:=q3.trans (hb4.mono J);have sz4:=Br Kr hb4.size;have x1:E w4 ⟨w,1,Z⟩=I (U O N2):=qrb hN2 (GV.c 1);clear x0 O3 EH q3;go_wp2_with fail;refine(aj N2 p w1 _ _ w4 J O4 (by simp[WZ]) sz4).mono ?_;rintro e w5⟨⟨u5,rfl⟩,v5,O5,Bh⟩;have OH:=fC.out _ _ GV Bh;have q5:=q4.trans (Bh.mono J);have sz5:=Br sz4 Bh.size;have x2:E w5 ⟨w,2,Z⟩=I (U O N3):=qrb Kx (OH.c 2);clear x1 O4 GV q4;go_wp2_with fail;refine(aj N3 p w1 _ _ w5 J O5 (by simp[WZ]) sz5).mono ?_;rintro e w6⟨⟨u6,rfl⟩,v6,O6,BV⟩;have JO:=fC.out _ _ OH BV;have q6:=q5.trans (BV.mono J);have sz6:=Br sz5 BV.size;have x3:E w6 ⟨w,3,Z⟩=I (R l.A (Y l.ws) l.c):=JO.c 3;have hhd:Aj (Ga l=([]++ Ei (N1:Int) 16++ Ei (N2:Int) 16++ Ei (N3:Int) 16)++ l.ws.flatMap fun x=>Ei x 16):=F (by unfold Ga;rw[Me,hN2,Kx,Uy]);have hlen:([]++ Ei (N1:Int) 16++ Ei (N2:Int) 16++ Ei (N3:Int) 16).length=48:=by simp[WZ]
 have Uw:=F hlen;generalize[]++ Ei (N1:Int) 16++ Ei (N2:Int) 16++ Ei (N3:Int) 16=H at*;clear x2 O5 OH q5 hb4 Bh BV hlen h1 h2 h3 Me hN2 Kx;go_wp2_with fail;go_loopw [29] (fun i wr=>∃(k:Nat) (v':An),k<=Y l.ws/\i=U O k/\Yu wr w1 p v' (H++ (l.ws.take k).flatMap fun x=>Ei x 16)/\Ag w1 w6 wr) (fun i _=>Y l.ws-(intOf i).toNat);exact⟨0,v6,J,rfl,by simpa using O6,Ae _ _⟩
 obtain⟨k,v',hk,rfl,By,hbr⟩:=hrel;obtain⟨w7,rfl⟩:=qgn wr;have q7:=q6.trans (hbr.mono J);by_cases hlt:k<Y l.ws
 ·obtain⟨b,off,hA,BN,hc⟩:=h.a.get hlt q7
  have c0:=hc 0 _ Q;simp only[Nat.mul_one,Nat.add_zero]at c0;have BI:=EA.1 hw _ (List.getElem_mem hlt);have hst:Aj (H++ (l.ws.take (k+1)).flatMap (fun x=>Ei x 16)=(H++ (l.ws.take k).flatMap fun x=>Ei x 16)++ Ei l.ws[k] 16):=F (by rw[Wu hlt,List.flatMap_append,List.append_assoc];simp);have hL2:(H++ (l.ws.take k).flatMap fun x=>Ei x 16).length<=100000:=by rw[KZ,zS,Uw.out,DC];omega
  generalize l.ws[k]=x at*;obtain⟨AP,hN⟩:=DV (show 0<=x by unfold okW AR at BI;simp at BI;omega);subst hN;have hNl:AP<=65535:=by unfold okW AR at BI;simp at BI;omega
  have cP:=aj AP p w1 v' _ w7 hNl By hL2 (Br sz6 hbr.size);generalize(H++ (l.ws.take k).flatMap fun x=>Ei x 16)=M at*;clear BI hL2 hc;rw[hA];go_wp2_with fail;refine cP.mono ?_;rintro e w8⟨⟨u8,rfl⟩,v8,O8,Cv⟩;have BC:=hbr.trans Cv;clear cP c0 By q7;go_wp2_with fail;exact⟨⟨k+1,v8,J,qgm,qrf hst.out O8,BC⟩,qio⟩
 ·have e1:l.ws.take k=l.ws:=EG J
  rw[e1,<-hhd.out]at By;have oc:=By.c;have oo:=By.own;clear e1 hhd Uw O6;go_wp2;go_ret;exact⟨_,Q,WW oo J,q7⟩
end
open Go.Maps Go.Sort Go.Shelf
theorem AeT(mb:Nat)(u:List Nat)(w:V)(h:Kv w mb u):AL AE 149 #[.map (I mb)] w fun e w'=>∃M,e=AN (.map (I M))/\w.heap.size<=M/\Kv w' M u/\Ag w w w':=by
 obtain⟨D,own,tidy,Mg⟩:=h;refine(AnyW.maps_Clone_owns cloneM 3 _ mb (Y u) D w own).mono ?_
 grind [Kv]
def sortsA(m:Nat):AnyZI.SortsIn AE sortedA_ren Fence.wide m:=
  ⟨fun blk off cap ss W hH hblk hsz=>JU.2 (AnyM.slices_Sort_int sortA blk off cap ss W hH hblk hsz),
   fun p cap W=>JU.2 (AnyM.slices_Sort_int_none sortA p cap W)⟩
def Gl(u:List Nat):List Int:=(u.map fun n:Nat=>(n:Int)).mergeSort (fun x y=>decide (x<=y))
theorem flat_encZ(l:List Int):l.flatMap BD=l.map encZ:=by
 induction l with
 | nil=>rfl
 | cons x l ih=>grind [BD]
def nUsed_any(nb mb:Nat)(u:List Nat)(w:V)(d0:E w ⟨nb,0,Z⟩=I (.map (I mb)))(us:Kv w mb u)(un:u.Nodup)(ul:Y u<=65536):
  AL AE 159 #[AI (I ⟨nb,0,Z⟩)] w fun e w'=>∃v,e=AN v/\Own w' w 3 1 BD v (Gl u)/\Ag w w w':=by
 obtain⟨D,own,tidy,Mg⟩:=us
 have hpm:(u.map fun n:Nat=>(n:Int)).Perm (intKeys D):=CollectedI.perm (D0:=D) (left:=fun _=>false) ⟨List.pairwise_map.2 (un.imp fun h e=>h (by exact_mod_cast e)),fun x=>by
  rw[Mg x];simp⟩ own UC underlying3 (fun _=>rfl)
 have hsz:=Br own.size_le ul;have hmax:Maps.size D<=maxLen:=by unfold maxLen;omega
 have hbytes:Maps.size D*8<=140737488355328:=J;refine(JU (n:=6)).1 ?_;have hbl:=own.lt
 have hseq:SeqGives Fence.wide 2 AE 241 #[AI (I ⟨w,0,Z⟩)] encZ (fun ss=>ss.Perm (intKeys D)) (Maps.size D) (Ao w (N #[.map (I mb)] 234)):=
  AnyZI.keys_gives (ρ:=keysA_ren) {keysA with} Fence.wide _ trivial rfl J w mb (Y u) D _ AO AO (by
   obtain⟨es,clock,hb,XZ,hs,hD⟩:=own;exact⟨es,clock,(TM _ _ mb hbl).trans hb,XZ,hs,hD⟩)
 have cK:∀m W,CallsIn Fence.wide 5 AE 208 #[.map m] W fun e w'=>e=AN (.func (.func 241) #[] #[AI (I ⟨W,0,Z⟩)])/\w'=Ao W (N #[.map m] 234):=fun m W=>AnyZI.keys_in keysA Fence.wide 5 trivial Q m W
 have cS:=AnyZI.sorted_in sortedA Fence.wide 5 trivial trivial trivial trivial Q J (sortsA _) (enters_of func179 AG Q) 241 #[AI (I ⟨w,0,Z⟩)] trivial (enters_of func241 AG Q) _ _ hmax hbytes _ hseq;change CallsIn _ _ AE 207 _ _ _ at cS;have hfK:Fence.wide.fn 208:=trivial;have hfS:Fence.wide.fn 207:=trivial;have HP:=F hpm;clear hpm hseq Mg tidy hsz hmax hbytes un;refine callsIn_of_wp func159 Q trivial ?_ Q;simp only[Tryz.ntmps159,List.size_toArray,List.length_cons,List.length_nil,Nat.reduceAdd,Nat.reduceSub,Array.replicate_succ,Array.replicate_zero,List.push_toArray,List.append_toArray,List.nil_append,List.cons_append]
 gi_wp2_with (first
  | (gi_at_call 208;refine(cK _ _).mono ?_;rintro e w' ⟨rfl,rfl⟩)
  | (gi_at_call 207;refine cS.mono ?_;rintro e w' ⟨v,ss,rfl,hS,hrow,hnil,hb⟩))
 go_ret;refine⟨v,Q,?_,((Ae _ w).alloc (Bg _) _).trans (hb.mono AO)⟩;have hr:=ownsRow_base_a hrow (show w.heap.size<=_ by simp);have e:ss.mergeSort (fun x y=>decide (x<=y))=Gl u:=mergeSort_of_perm_i (hS.trans HP.out.symm);unfold Own;rw[flat_encZ,<-e,List.length_mergeSort];exact hr
theorem rN{y:V}{mb nb base w0 W:Nat}{u:List Nat}{bits:List Bool}{v:An}(wd:W=8\/W=16\/W=32)(hu:Kv y mb u)(hd:E y ⟨nb,0,Z⟩=I (.map (I mb)))(hv:Own y base 4 1 C4 v bits)(ne:∀g,v.ownBlock=I g->g≠mb)(nm:nb≠mb)
  (bl:Y bits<=65536) (un:u.Nodup) (ub:∀x∈u,x<Y bits / (2*W)) (h1:w0<=base) (h2:w0<=nb) (h3:w0<=mb) (h4:w0<=↑y):
  CG (Ao y (N #[AI (I ⟨nb,0,Z⟩),U O W,v] 237)) y nb mb W bits u/\(∀A' c',E (Ao y (N #[AI (I ⟨nb,0,Z⟩),U O W,v] 237)) ⟨y,2,Z⟩=I (R A' (Y bits) c')->∀a,A'=I a->w0<=a.block):=by
 have OF:=AB (Ae y y) (N #[AI (I ⟨nb,0,Z⟩),U O W,v] 237);have Pn:=hu.lt;obtain⟨A2,c2,rfl,l2,m2,n2,Nv⟩:=hv.form Dk
 have hbase:∀a,A2=I a->base<=a.block/\a.block<↑y/\a.block≠mb:=fun a ha=>by
  subst ha;have:=Cp hv a.block Q;exact⟨this.1,this.2,ne _ Q⟩
 refine⟨⟨wd,Cb Q,Cb Q,⟨A2,c2,Cb Q,Nv.on OF,l2,m2,n2,fun a ha=>⟨(hbase a ha).2.2,by have:=(hbase a ha).2.1;simp;omega⟩⟩,AK OF hd,hu.kept (Db OF) AO,J,nm,bl,un,ub,CJ _ _ _ _ _ (CB _ _)⟩,?_⟩
 grind [Kv,Own,C4,Arr,Cb]
def rO(y:V)(mb:Nat):E (Ao y (N #[.map (I mb)] 239)) ⟨y,0,Z⟩=I (.map (I mb)):=Cb Q
def AeU(b nb mb W:Nat)(bits:List Bool)(u:List Nat)(w:V)(h:CG w b nb mb W bits u):
  AL AE 100 #[AI (I ⟨b,0,Z⟩)] w fun e w'=>∃b' FC Fi,e=AN (AI (I ⟨b',0,Z⟩))/\CG w' b' FC Fi W bits u/\w.heap.size<=b'/\w.heap.size<=FC/\w.heap.size<=Fi/\(∀A' c',E w' ⟨b',2,Z⟩=I (R A' (Y bits) c')->∀a,A'=I a->w.heap.size<=a.block)/\Ag w w w':=by
 have cV:=Yo b nb w h.c0;obtain⟨wd,c0,c1,⟨A,c,c2,ar,l1,l2,l3,l4⟩,d0,us,bm,nm,bl,un,ub⟩:=h;have WD:=F wd;have UN:=F un;have UB:=F ub;have BL:=F bl;have cM:=qbw w fun w' hb=>AeT mb u w' (us.kept (Db hb) AO)
 have cC:=qbw w fun w' hb=>Yp A c bits w' (ar.on hb) l3 l1 l2 J
 have L0:=qbc c0;have L1:=qbc c1;have L2:=qbc c2;have L3:=qbc d0;clear c0 c1 c2 d0 ar us wd un ub bl l1 l2 l3 l4 bm nm;go_in;go_wp2_with(go_at_call 148;refine mqv (cV) ?_);go_cut [2] (fun va wx=>∃b' FC Fi,va=AI (I ⟨b',0,Z⟩)/\CG wx b' FC Fi W bits u/\w.heap.size<=b'/\w.heap.size<=FC/\w.heap.size<=Fi/\(∀A' c',E wx ⟨b',2,Z⟩=I (R A' (Y bits) c')->∀a,A'=I a->w.heap.size<=a.block)/\Ag w w wx)
 case first=>
  clear cV;refine qrh w (Ae _ _).drew fun hHeld=>?_
  have B0:Ag w w w.drew:=(Ae _ _).drew;refine tQ4 0 ?_;refine tQ2 4 ?_;refine tQ 6 ?_;refine tQ4 10 ?_;refine tQ4 14 ?_;refine url 7 (fun K1 BS=>?_)
  ·go_simp
   refine(cM _ B0).mono ?_;rintro e y1⟨M,rfl,lM,us1,hx1⟩;have B1:=AH B0 hx1;go_wp2_with fail;refine BS.out _ _ B1 (fun AjI=>?_);clear BS K1;refine zp ?_;refine tQ 8 ?_;have lM':↑w<=M:=qsu lM;have hM1:=us1.lt;refine I8 [9,18] ?_;refine Dj Q (fun K2 hK2=>?_) (Dj Q (fun K2 hK2=>?_) GQ)
   ·go_simp
    have dn:=rO y1 M;have us2:=us1.kept (Db (AB (Ae _ y1) (N #[.map (I M)] 239))) AO;have B2:=AB B1 (N #[.map (I M)] 239);refine hK2.out _ _ B2 (fun AeV=>?_);clear hK2 K2;refine zp ?_;refine url 18 (fun K3 hK3=>?_);go_simp;refine(cC _ B2).mono ?_;rintro e y3⟨v2,rfl,EW,hx3⟩;have BE:=AH B2 hx3;go_wp2_with fail;refine hK3.out _ _ BE (fun AeW=>?_);clear hK3 K3;refine zp ?_;have us3:=us2.kept (Db hx3) AO;have d3:=AK hx3 dn;have lN:=B1.size;have fp:=rN (W:=W) (w0:=w.heap.size) WD us3 d3 EW (fun g hg=>by have:=(Cp EW g hg).1;simp at this;omega) J BL UN UB qsm lN lM' BE.size;obtain⟨Av2,cv2,hv2,_,_,_,_⟩:=EW.form Dk;subst hv2;refine tQ 19 ?_;refine url 20 (fun K9 TN=>?_);go_simp;refine TN.out _ _ (AB BE _) (fun AeX=>?_);clear TN K9;refine zp ?_;refine tQ 21 ?_;refine Ce ?_;go_wp2;go_meet;exact⟨_,_,M,rfl,fp.1,BE.size,lN,lM',fp.2,AB BE _⟩
   ·go_simp
    refine(cC _ B1).mono ?_;rintro e y2⟨v2,rfl,CU,hx2⟩;have B2:=AH B1 hx2;go_wp2_with fail;refine hK2.out _ _ B2 (fun AeV=>?_);clear hK2 K2;refine zp ?_;have us2:=us1.kept (Db hx2) AO;refine url 9 (fun K3 hK3=>?_);go_simp;have dn:=rO y2 M;have us3:=us2.kept (Db (AB (Ae _ y2) (N #[.map (I M)] 239))) AO;have EW:=CU.below (AB (Ae _ y2) (N #[.map (I M)] 239));have BE:=AB B2 (N #[.map (I M)] 239);refine hK3.out _ _ BE (fun AeW=>?_);clear hK3 K3;refine zp ?_;have lN:=B2.size;have l12:=hx2.size;have l01:=B1.size;have fp:=rN (W:=W) (w0:=w.heap.size) WD us3 dn EW (fun g hg=>by have:=(Cp CU g hg).1;omega) J BL UN UB J lN lM' BE.size;have hsz:(y2.alloc (N #[.map (I M)] 239)).heap.size=y2.heap.size+1:=AO;have sE:=BE.size;rw[hsz]at fp sE;obtain⟨Av2,cv2,hv2,_,_,_,_⟩:=EW.form Dk;subst hv2;refine tQ 19 ?_;refine url 20 (fun K9 TN=>?_);go_simp;refine TN.out _ _ (AB BE _) (fun AeX=>?_);clear TN K9;refine zp ?_;refine tQ 21 ?_;refine Ce ?_;go_wp2;go_meet;exact⟨_,_,M,rfl,fp.1,sE,lN,lM',fp.2,AB BE _⟩
 obtain⟨b',FC,Fi,rfl,hp,h1,h2,h3,h4,h5⟩:=hcut;go_wp2;go_ret;exact⟨b',FC,Fi,Q,hp,h1,h2,h3,h4,h5⟩
def Used_any(b nb mb W:Nat)(bits:List Bool)(u:List Nat)(w:V)(h:CG w b nb mb W bits u):
  AL AE 110 #[AI (I ⟨b,0,Z⟩)] w fun e w'=>∃v,e=AN v/\Own w' w 3 1 BD v (Gl u)/\Ag w w w':=by
 have cV:=Yo b nb w h.c0;have zx:=nUsed_any nb mb u w h.d0 h.us h.un h.ul;have c0:=h.c0;go_in
 go_wp2_with(first
  | (go_at_call 148;refine mqv (cV) ?_)
  | (go_at_call 159;refine zx.mono ?_;rintro e w1 ⟨v,rfl,own,hb⟩))
 go_ret;exact⟨v,Q,own,hb⟩
theorem AeY(n:Nat)(w:V)(hn:n<=200000):AL AE 270 #[R Z 0 0,U O n] w fun e w'=>∃v,e=AN v/\Own w' w 4 1 C4 v []/\Ag w w w':=by
 obtain⟨i0,hi,hz0,hz1,hz2⟩:=IA Rn;cases n with
 | zero=>
  refine(Any8.slices_Grow_room growB Z 0 0 0 w J J J J).mono ?_;rintro e w'⟨rfl,rfl⟩;exact⟨_,Q,Own.nil,Ae _ _⟩
 | succ n=>
  refine(Any8.slices_Grow_grow growB i0 (Av false) hi hz0 J Z 0 0 (n+1) [] w J J (by grind) J AO (fun _=>rfl) (fun a ha=>by cases ha)).mono ?_;rintro e w'⟨rfl,rfl⟩;have h1:=grownCap_ge w (0+(n+1)) 0 (growB_ren.t 25);have h2:=grownCap_le_maxLen w (0+(n+1)) 0 (growB_ren.t 25) (by unfold maxLen;omega);have h3:(Value.bool false).cells.size=1:=Q;refine⟨_,Q,⟨Q,.inr ⟨w,_,_,rfl,Bg _,CB w.drew _,BM _,h2,?_,AO⟩⟩,AB (Ae _ _).drew _⟩;simp only[Array.size_append,size_zeroCells,h3]
  grind
def AeZ(X:Nat)(A C:Option AS)(cA cC:Nat)(a b:List Bool)(w:V)(h0:E w ⟨X,0,Z⟩=I (R A (Y a) cA))(h1:E w ⟨X,1,Z⟩=I (R C (Y b) cC))(hA:Arr 1 C4 w w A a)(hC:Arr 1 C4 w w C b)(nA:A=Z->cA=0)(nC:C=Z->cC=0)(la:Y a<=65536)(lb:Y b<=65536):
  AL AE 227 #[R (I ⟨X,0,Z⟩) 2 2] w fun e w'=>∃v,e=AN v/\Own w' w 4 1 C4 v (a++ b)/\Ag w w w':=by
 have cG:=AeY (Y a+Y b) w J;go_in;go_wp2_with fail;go_loop [3,11] (fun sz i=>(i=U O 0/\sz=U O 0)\/(i=U O 1/\sz=U O (Y a:Nat))\/(i=U O 2/\sz=U O ((Y a+Y b:Nat):Int))) (fun _ i=>5-(intOf i).toNat);exact .inl ⟨rfl,rfl⟩
 rcases hrel with⟨rfl,rfl⟩ | ⟨rfl,rfl⟩ | ⟨rfl,rfl⟩
 ·go_wp2
  exact⟨.inr (.inl ⟨rfl,qgm⟩),by simp[intOf]⟩
 ·go_wp2
  exact⟨.inr (.inr ⟨rfl,qgm⟩),by simp[intOf]⟩
 ·go_wp2_with fail
  refine cG.mono ?_;rintro e w1⟨v1,rfl,Dy,hb1⟩;clear cG;go_wp2_with fail;go_loopw [6,27] (fun v i wr=>((i=U O 0/\Own wr w 4 1 C4 v [])\/(i=U O 1/\Own wr w 4 1 C4 v a)\/(i=U O 2/\Own wr w 4 1 C4 v (a++ b)))/\Ag w w wr) (fun _ i _=>5-(intOf i).toNat);exact⟨.inl ⟨rfl,Dy⟩,hb1⟩
  obtain⟨hrel,hb⟩:=hrel;obtain⟨w6,rfl⟩:=qgn wr;have k0:=AK hb h0;have k1:=AK hb h1;have arA:=hA.on hb;have arC:=hC.on hb;have sz:=hb.size;have by1:(([]:List Bool).length+Y a)*1<=140737488355328:=by simp;omega
  have by2:(Y a+Y b)*1<=140737488355328:=J;clear Dy hb1;rcases hrel with⟨rfl,own⟩ | ⟨rfl,own⟩ | ⟨rfl,own⟩
  ·go_wp2_with(at_builtin;refine Wt Tryz.underlying44 Rn Dk XP ([]:List Bool) a own arA nA by1 sz ?_;intro v2 w2 CU hb2;rw[Uy]at CU)
   exact⟨⟨.inr (.inl ⟨rfl,CU⟩),hb.trans hb2⟩,by simp[intOf]⟩
  ·go_wp2_with(at_builtin;refine Wt Tryz.underlying44 Rn Dk XP a b own arC nC by2 sz ?_;intro v2 w2 CU hb2)
   exact⟨⟨.inr (.inr ⟨rfl,CU⟩),hb.trans hb2⟩,by simp[intOf]⟩
  ·go_wp2_with fail
   go_ret;exact⟨_,Q,own,hb⟩
def Aiw(A:Option AS)(c:Nat)(l:List Int)(v:Int)(w:V)(hA:Arr 1 BD w w A l)(hl:Y l<=9223372036854775807):
  AL AE 154 #[R A (Y l) c,U O v] w fun e w'=>∃r:Int,e=AN (U O r)/\decide (r>=0)=l.contains v/\w=w':=by
 go_in;go_wp2_with fail;go_loopw [8] (fun i wr=>∃k:Nat,k<=Y l/\i=U O k/\Aj (v∉l.take k)/\w=wr) (fun i _=>Y l-(intOf i).toNat);exact⟨0,J,rfl,F AO,rfl⟩
 obtain⟨k,hk,rfl,hno,rfl⟩:=hrel;by_cases hlt:k<Y l
 ·obtain⟨b,off,q,rfl,BN,hq,c0⟩:=hA.int hlt (Ae _ _)
  by_cases hv:v=q
  ·have g:(v == q)=true:=qsu hv
   have Dp:Aj (l.contains v=true):=F (by rw[dG,hv];exact DI hq.out);clear hv;go_wp2;go_ret;exact⟨_,Q,by rw[Dp.out];simp,Q⟩
  ·have g:(v == q)=false:=qsu hv
   have jx:Aj (v∉l.take (k+1)):=F (by
    rw[GU,hq.out];simp only[Option.toList,List.mem_append,List.mem_singleton,not_or];exact⟨hno.out,hv⟩)
   clear hv;go_wp2_with fail;exact⟨⟨k+1,J,qgm,jx,trivial⟩,qio⟩
 ·have jx:Aj (l.contains v=false):=F (by
   have e:=hno.out;rw[EG J]at e;cases h:l.contains v with
   | false=>rfl
   | true=>exact absurd (dG.1 h) e)
  go_wp2;go_ret;exact⟨_,Q,by rw[jx.out];rfl,Q⟩
def Aix(A:Option AS)(c:Nat)(l:List Int)(v:Int)(w:V)(hA:Arr 1 BD w w A l)(hl:Y l<=9223372036854775807):
  AL AE 107 #[R A (Y l) c,U O v] w fun e w'=>e=AN (Av (l.contains v))/\w=w':=by
 have cI:=Aiw A c l v w hA hl;obtain⟨AW,hR⟩:=Az (l.contains v);rw[hR]at cI ⊢;clear hR;go_in;go_wp2_with fail;refine cI.mono ?_;rintro e w2⟨r,rfl,hr,rfl⟩;go_wp2;go_ret;exact⟨Q,Q⟩
end Go.Proofs.YtjpidgffdkjjeaaGreat
