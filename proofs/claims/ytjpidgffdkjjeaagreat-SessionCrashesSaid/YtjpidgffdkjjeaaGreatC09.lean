/- Contracts and plain laws. No condition. -/
import Derived.Test.YtjpidgffdkjjeaaGreatCA
import Derived.Test.YtjpidgffdkjjeaaGreatC04
import Derived.Test.YtjpidgffdkjjeaaGreatC08
set_option linter.all false
set_option maxHeartbeats 16000000
namespace Go.Proofs.YtjpidgffdkjjeaaGreat
open Go.Proofs.Tryz
open Go.Proofs.Tryz renaming prog->AE
open List renaming length->Y
open Go.World renaming cell?->E,setCell->Ai,alloc->Ao,frozen?->Bo
open Go.Value renaming int->U,slice->R,pointer->AI,agg->Ba,tuple->Be,nilFunc->Bl,bool->Av
open Go.IntKind renaming i64->O,u64->AA,u32->BF,u8->Cd
open Option renaming none->Z,some->I
open Go.Ending renaming returned->AN
open Go.Obj renaming cells->N
open Go renaming World->V,Value->An,Calls->AL,Addr->AS
open Go.RowKit renaming Below->Ag,Hid->Aj
set_option maxRecDepth 100000
open Go.RowKit
section
variable{a seed:List Bool}{k out:Nat}
def toC(seed a:List Bool)(i:Nat):Nat->Bool
 | 0=>false
 | k+1=>toC seed a i k != ((a[k]?).getD false&&(seed[i+(Y a-1-k)]?).getD false)
def Io(seed a:List Bool)(out k:Nat):List Bool:=(List.range out).map (fun i=>toC seed a i k)
def YR(seed a:List Bool)(out:Nat):List Bool:=Io seed a out (Y a)
theorem qC(seed a:List Bool)(out k:Nat):(Io seed a out k).length=out:=by simp[Io]
theorem AcT(seed a:List Bool)(out:Nat):Io seed a out 0=List.replicate out false:=by
 refine List.ext_getElem? fun i=>?_
 simp only[Io,List.getElem?_map,List.getElem?_replicate]
 grind [toC]
theorem AcU(h:a[k]?=I false):Io seed a out (k+1)=Io seed a out k:=by
 unfold Io
 grind [toC]
def AcV(h:a[k]?=I true)(hs:Y a-1-k+out<=Y seed):Io seed a out (k+1)=RR (Io seed a out k) ((seed.drop (Y a-1-k)).take out):=by
 refine List.ext_getElem? fun i=>?_
 simp only[Io,RR,List.getElem?_map,List.getElem?_zipWith,List.getElem?_take,List.getElem?_drop];by_cases hi:i<out
 ·rw[List.getElem?_range hi,Bd hi]
  have hlt:Y a-1-k+i<Y seed:=J;rw[CH hlt];simp only[Option.map_some];rw[toC,h,Nat.add_comm i,CH hlt];simp
 ·rw[QO (qsu hi)];simp
def AcW(x y:Bool)(w:V):AL AE 328 #[Av x,Av y] w fun e w'=>e=AN (Av (x != y))/\w=w':=by
 go_in;go_wp2;go_ret;exact⟨Q,Q⟩
def AcX(A B:Option AS)(cA cB:Nat)(a b:List Bool)(w:V)(hA:Arr 1 C4 w w A a)(hB:Arr 1 C4 w w B b)(hl:Y a=Y b)(hm:Y a<=65536):
  AL AE 327 #[R A (Y a) cA,R B (Y b) cB,.func (.func 328) #[] #[]] w fun e w'=>∃v,e=AN v/\Own w' w 4 1 C4 v (RR a b)/\Ag w w w':=by
 have xl:(RR a b).length=Y a:=by unfold RR;rw[List.length_zipWith];omega
 have Hxl:=F xl;have Hl:=F hl;clear xl hl;obtain⟨n,hn⟩:∃n,n=Y a:=⟨_,Q⟩
 have Hn:=F hn;rw[<-hn];have hbl:Y b=n:=by rw[hn,Hl.out]
 rw[hbl];have Hbl:=F hbl;rw[<-hn]at hm;clear hn hbl;go_in;go_wp2_with(at_make;refine Nb Tryz.underlying44 Rn (fun b:Bool=>Value.bool b) false n ?_;intro w1 Dy hb1);have Cw:Aj (Dm (RR a b) false 0=List.replicate n false):=F (by rw[Ug,Hxl.out,Hn.out]);go_loopw [15] (fun i wr=>∃k:Nat,k<=n/\i=U O k/\Own wr w 4 1 (fun x=>[Value.bool x]) (R (I ⟨w,0,Z⟩) n n) (Dm (RR a b) false k)/\Ag w w wr) (fun i _=>n-(intOf i).toNat);exact⟨0,BM _,rfl,qrf Cw.out Dy,hb1⟩
 obtain⟨k,hk,rfl,ow,hb⟩:=hrel;have hlen:Aj ((Dm (RR a b) false k).length=n):=F ((Sv _ _ (by rw[Hxl.out,<-Hn.out];exact hk)).trans (by rw[Hxl.out,Hn.out]));rcases D4 k n with hlt | D8
 ·obtain⟨p,o,x,rfl,hp,hx,c0⟩:=hA.bool (k:=k) (qrb Hn.out hlt) hb
  obtain⟨p2,o2,y,rfl,Nf,hy,c1⟩:=hB.bool (k:=k) (qrf Hbl.out hlt) hb;have f0:=ow.Eg hlen (k:=k) (Ts false (by rw[Hxl.out,<-Hn.out];exact hlt));have f1:=ow.Dc hlen k;have Pb:Aj ((RR a b)[k]?=I (x != y)):=F (by unfold RR;rw[List.getElem?_zipWith,hx.out,hy.out]);have Fm:=ow.Ft hlen k (x != y);rw[Tr false Pb]at Fm;clear hx hy;go_wp2_with(go_at_call 328;refine mqv (AcW _ _ _) ?_);exact⟨⟨k+1,J,qgm,Fm,hb.setCell (Bg _) _⟩,qio⟩
 ·obtain rfl:k=n:=J
  rw[Uh _ _ (by rw[Hxl.out,<-Hn.out];exact Bg _)]at ow;go_wp2;go_ret;exact⟨_,Q,ow,hb⟩
end
def AcY(A B:Option AS)(cA cB:Nat)(s a:List Bool)(out:Nat)(w:V)(hA:Arr 1 C4 w w A s)(hB:Arr 1 C4 w w B a)(la:Y a<=512)(lo:out<=512)(ls:Y s=Y a+out-1)(lc:Y s<=cA)(mc:cA<=maxLen):
  AL AE 319 #[R A (Y s) cA,R B (Y a) cB,U O out] w fun e w'=>∃v,e=AN (Be #[v,U O 0])/\Own w' w 4 1 C4 v (YR s a out)/\Ag w w w':=by
 unfold maxLen at mc;have d2:decide (512<(Y a:Int))=false:=by simp;omega
 have d3:decide ((out:Int)<0)=false:=AO;have d4:decide (512<(out:Int))=false:=by simp;omega
 have hmx:(1<(Y a:Int)+(out:Int)/\((Y s:Int) != (Y a:Int)+(out:Int)-1)=false)\/(¬1<(Y a:Int)+(out:Int)/\((Y s:Int) != 0)=false):=by
  by_cases h:1<(Y a:Int)+(out:Int)
  ·left;exact⟨h,by simp;omega⟩
  ·right;exact⟨h,by rw[show Y s=0 from by omega];rfl⟩
 have Hs:=F ls;have ls2:Y s<=1023:=J;clear ls;have OU:Aj (List.replicate out false=Io s a out 0):=F (AcT s a out).symm;rcases hmx with⟨m1,m2⟩ | ⟨m1,m2⟩
 all_goals(
  go_in;go_wp2_with(at_make;refine Nb Tryz.underlying44 Rn (fun b:Bool=>Value.bool b) false out ?_;intro w1 Dy hb1);go_loopw [8,34] (fun v i wr=>∃k:Nat,k<=Y a/\i=U O k/\Own wr w 4 1 C4 v (Io s a out k)/\Ag w w wr) (fun _ i _=>Y a-(intOf i).toNat);exact⟨0,BM _,rfl,qrb OU.out Dy,hb1⟩
  obtain⟨k,hk,rfl,ow,hb⟩:=hrel;rcases D4 k (Y a)with hlt | D8
  ·obtain⟨p,o,x,rfl,hp,hx,c0⟩:=hB.bool (k:=k) hlt hb
   have hlk:Aj ((Io s a out k).length=out):=F (qC _ _ _ _);obtain⟨q,hq⟩:∃q:Nat,(Y a:Int)-1-(k:Int)=(q:Int):=⟨Y a-1-k,J⟩
   have Hq:Aj (q=Y a-1-k):=F J;cases x
   ·have st:Aj (Io s a out (k+1)=Io s a out k):=F (AcU hx)
    clear hx;go_wp2_with fail;exact⟨⟨k+1,J,qgm,qrf st.out ow,hb⟩,qio⟩
   ·by_cases ho:0<out
    ·have hqs:q+out<=Y s:=by have:=Hq.out;have:=Hs.out;omega
     have m3:1<(Y a:Int)+(out:Int):=J
     first
     | (exfalso;omega)
     | (
      have st:Aj (Io s a out (k+1)=RR (Io s a out k) ((s.drop q).take out)):=F (by rw[Hq.out];exact AcV hx (by rw[<-Hq.out];exact hqs));clear hx;obtain⟨b2,o2,y2,FK,hb2,_,_⟩:=hA.bool (k:=0) J (Ae _ _);subst FK;have ar:=WT ((hA.on hb).drop q) out;have hl2:((s.drop q).take out).length=out:=by rw[DC,SI];omega
      obtain⟨A3,c3,hv3,lc3,mc3,n3,Mq⟩:=ow.form Dk;subst hv3;have cZ:=AcX A3 (I ⟨b2,o2+q*1,Z⟩) c3 (cA-q) (Io s a out k) ((s.drop q).take out) wr Mq ar (by rw[hl2,hlk.out]) (by rw[hlk.out];omega);rw[hlk.out,hl2,JK]at cZ;rw[hlk.out];rw[<-st.out]at cZ;have bs:=hb.size;have i1:(q:Int)+(out:Int)<=(Y s:Int):=J;have i2:(Y s:Int)<=(cA:Int):=J;have i3:q<cA:=J;have i4:((q:Int)+(out:Int))-(q:Int)=(out:Int):=J;clear hl2 ar;go_wp2_with(go_at_call 327;((with_reducible refine cZ.mono ?_));rintro e w4 ⟨v4,rfl,Eb,hb4⟩);exact⟨⟨k+1,J,qgm,Eb.down bs,AH hb hb4⟩,qio⟩)
    ·obtain rfl:out=0:=J
     have st:Aj (Io s a 0 (k+1)=Io s a 0 k):=F Q;clear hx;go_wp2_with fail;exact⟨⟨k+1,J,qgm,qrf st.out ow,hb⟩,qio⟩
  ·obtain rfl:k=Y a:=J
   go_wp2;go_ret2;exact⟨_,Q,ow,hb⟩)
section
variable{n out:Int}
def NS(n out:Int):Bool:=AR n 0 512&&AR out 0 512
def RT(n out:Int):Int:=if NS n out=true then 0 else 3
def VX(n out:Int)(s:Nat):List Bool:=if NS n out=true then GW s (n.toNat+out.toNat-1)else[]
theorem i7(h:NS n out=true):∃AP By:Nat,n=AP/\out=By/\AP<=512/\By<=512:=by
 unfold NS AR at h;simp only[Bool.and_eq_true,decide_eq_true_eq]at h;exact⟨n.toNat,out.toNat,J,J,J,J⟩
theorem AcZ(h:NS n out=false):AR n 0 512=false\/(AR n 0 512=true/\AR out 0 512=false):=by
 grind [AR,NS]
theorem Ac0(h:NS n out=true):AR n 0 512=true/\AR out 0 512=true:=by
 grind [AR,NS]
def Ac1(n out:Int)(s:Nat)(w:V):
  AL AE 318 #[U O n,U O out,U AA s] w fun e w'=>∃v,e=AN (Be #[v,U O (RT n out)])/\Own w' w 4 1 C4 v (VX n out s)/\Ag w w w':=by
 cases hB:NS n out
 ·have AY:Aj (RT n out=3/\VX n out s=[]):=F ⟨by unfold RT;rw[hB];rfl,by unfold VX;rw[hB];rfl⟩
  rw[AY.out.1,AY.out.2];rcases AcZ hB with h1 | ⟨h1,h2⟩
  ·have H1:=F h1
   clear h1 hB;go_in;go_wp2_with(go_at_call 72;refine(Ie _ _ _ _).mono ?_;rintro e w'⟨rfl,rfl⟩;rw[H1.out]);go_ret2;exact⟨_,Q,Own.nil,Ae _ _⟩
  ·have c1:=Ie n 0 512 w
   have c2:=Ie out 0 512 w;rw[h1]at c1;rw[h2]at c2;clear h1 h2 hB;go_in
   go_wp2_with(first
    | (go_at_call 72;refine Calls.on (FD:=#[U O n,U O 0,U O 512]) Q ?_;refine c1.mono ?_;rintro e w' ⟨rfl,rfl⟩)
    | (go_at_call 72;refine Calls.on (FD:=#[U O out,U O 0,U O 512]) Q ?_;refine c2.mono ?_;rintro e w' ⟨rfl,rfl⟩))
   go_ret2;exact⟨_,Q,Own.nil,Ae _ _⟩
 ·obtain⟨b1,b2⟩:=Ac0 hB
  obtain⟨AP,By,rfl,rfl,hN,hO⟩:=i7 hB;have AY:Aj (RT AP By=0/\VX AP By s=GW s (AP+By-1)):=F ⟨by unfold RT;rw[hB];rfl,by unfold VX;rw[hB];rfl⟩;rw[AY.out.1,AY.out.2];have c1:=fun w'=>Ie AP 0 512 w'
  have c2:=fun w'=>Ie By 0 512 w'
  rw[b1]at c1;rw[b2]at c2;have cN:=TJ s w;obtain⟨k,hk⟩:=Az (AP+By-1);rw[hk];have cB:=mF w s k (Ao w (N #[U AA s,Av true] 219)) (Cb Q) (by simp[go_sem]) (Cb Q) J;have mx:max (0:Int) ((AP:Int)+(By:Int)-1)=(k:Int):=by rw[Int.max_def];split <;> omega
  clear b1 b2 hB hk;go_in
  go_wp2_with(first
   | (go_at_call 72;refine Calls.on (FD:=#[U O AP,U O 0,U O 512]) Q ?_;refine(c1 _).mono ?_;rintro e w' ⟨rfl,rfl⟩)
   | (go_at_call 72;refine Calls.on (FD:=#[U O By,U O 0,U O 512]) Q ?_;refine(c2 _).mono ?_;rintro e w' ⟨rfl,rfl⟩)
   | (go_at_call 83;refine cN.mono ?_;rintro e w' ⟨rfl,rfl⟩)
   | (go_at_call 115;refine Calls.on (FD:=#[AI (I ⟨w,0,Z⟩),U O k]) Q ?_;refine cB.mono ?_;rintro e w2 ⟨v2,rfl,CU,Nu,_,_,_⟩))
  go_ret2;exact⟨_,Q,CU.down AO,((AB (Ae _ _) _).grown Nu AO (fun j hj=>by simp at hj;omega))⟩
end
section
variable{a:List Bool}
def Qz(a:List Bool)(out:Int):Int:=if 512<Y a then 4 else RT (Y a) out
def QA(a:List Bool)(out:Int)(s:Nat):List Bool:=if Qz a out=0 then YR (GW s (Y a+out.toNat-1)) a out.toNat else[]
theorem Ac2(h:512<Y a)(out:Int)(s:Nat):Qz a out=4/\QA a out s=[]:=by
 grind [Qz,QA]
theorem Ac3(h:¬512<Y a){out:Int}(hs:NS (Y a) out=false)(s:Nat):Qz a out=3/\QA a out s=[]/\RT (Y a) out=3:=by
 grind [Qz,QA,RT,NS]
theorem Ac4(h:¬512<Y a){By:Nat}(hs:NS (Y a) By=true)(s:Nat):Qz a By=0/\QA a By s=YR (GW s (Y a+By-1)) a By/\RT (Y a) By=0/\VX (Y a) By s=GW s (Y a+By-1):=by
 grind [Qz,QA,YR,GW,RT,VX,NS]
def Ac5(A:Option AS)(cA:Nat)(a:List Bool)(out:Int)(s:Nat)(w:V)(hA:Arr 1 C4 w w A a):
  AL AE 307 #[R A (Y a) cA,U O out,U AA s] w fun e w'=>∃v,e=AN (Be #[v,U O (Qz a out)])/\Own w' w 4 1 C4 v (QA a out s)/\Ag w w w':=by
 by_cases hl:512<Y a
 ·obtain⟨e1,e2⟩:=Ac2 hl out s
  rw[e1,e2];have d1:decide (512<(Y a:Int))=true:=by simp;omega
  clear e1 e2;go_in;go_wp2;go_ret2;exact⟨_,Q,Own.nil,Ae _ _⟩
 ·have d1:decide (512<(Y a:Int))=false:=by simp;omega
  have cS:=Ac1 (Y a) out s w;cases hB:NS (Y a) out
  ·obtain⟨e1,e2,e3⟩:=Ac3 hl hB s
   rw[e1,e2];rw[e3]at cS;clear e1 e2 e3 hB;go_in;go_wp2_with(go_at_call 318;refine cS.mono ?_;rintro e w1 ⟨v1,rfl,Dy,hb1⟩);go_ret2;exact⟨_,Q,Own.nil,hb1⟩
  ·obtain⟨N0,By,hN0,rfl,Me,hO⟩:=i7 hB
   clear hN0 Me;obtain⟨e1,e2,e3,e4⟩:=Ac4 hl hB s;rw[e1,e2];rw[e3,e4]at cS;have la:Y a<=512:=J;have Cm:Aj ((GW s (Y a+By-1)).length=Y a+By-1):=F (Rm _ _);generalize GW s (Y a+By-1)=D at*;clear e1 e2 e3 e4 hB;go_in
   go_wp2_with(first
    | (go_at_call 318;refine cS.mono ?_;rintro e w1⟨v1,rfl,Dy,hb1⟩;obtain⟨A1,c1,CZ,lc1,mc1,n1,ar1⟩:=Dy.form Dk;subst CZ)
    | (go_at_call 319;refine(AcY A1 A c1 cA D a By w1 ar1 (hA.on hb1) la hO Cm lc1 mc1).mono ?_;rintro e w2 ⟨v2,rfl,CU,hb2⟩))
   go_ret2;exact⟨_,Q,CU.down hb1.size,AH hb1 hb2⟩
def Pg(a:List Bool)(n t:Int)(l:List C8)(m:Int):Int:=
 if 512<Y a then 4 else if AR n 0 (Y a)=false then 3 else if Gt n t l m≠0 then Gt n t l m else if FT n t l m=0 then 14 else Qz a (FT n t l m)
def MC(a:List Bool)(n t:Int)(l:List C8)(m:Int)(s:Nat):List Bool:=
 if 512<Y a then[]else if AR n 0 (Y a)=false then[]else if Gt n t l m≠0 then[]else if FT n t l m=0 then[]else QA a (FT n t l m) s
section
variable {a:List Bool} {n t:Int} {l:List C8} {m:Int} {s:Nat}
def ds1(h1:512<Y a):Pg a n t l m=4/\MC a n t l m s=[]:=by simp[Pg,MC,h1]
theorem ds2(h1:¬512<Y a)(h2:AR n 0 (Y a)=false):Pg a n t l m=3/\MC a n t l m s=[]:=by
 grind [Pg,MC,AR]
theorem ds3(h1:¬512<Y a)(h2:AR n 0 (Y a)=true)(h3:¬Gt n t l m=0):Pg a n t l m=Gt n t l m/\MC a n t l m s=[]:=by
 grind [Pg,Gt,MC,AR]
theorem ds4(h1:¬512<Y a)(h2:AR n 0 (Y a)=true)(h3:Gt n t l m=0)(h4:FT n t l m=0):Pg a n t l m=14/\MC a n t l m s=[]:=by
 grind [Pg,MC,AR,Gt,FT]
theorem ds5(h1:¬512<Y a)(h2:AR n 0 (Y a)=true)(h3:Gt n t l m=0)(h4:¬FT n t l m=0):Pg a n t l m=Qz a (FT n t l m)/\MC a n t l m s=QA a (FT n t l m) s:=by
 grind [Pg,Qz,FT,MC,QA,AR,Gt]
end
def Ac6(A:Option AS)(cA:Nat)(a:List Bool)(n t:Int)(B:Option AS)(cB:Nat)(l:List C8)(m:Int)(s:Nat)(w:V)(hA:Arr 1 C4 w w A a)(hB:Arr 2 C8.enc w w B l)(hl:Y l<=1000):
  AL AE 284 #[R A (Y a) cA,U O n,U O t,R B (Y l) cB,U O m,U AA s] w fun e w'=>∃v,e=AN (Be #[v,U O (Pg a n t l m)])/\Own w' w 4 1 C4 v (MC a n t l m s)/\Ag w w w':=by
 by_cases h1:512<Y a
 ·obtain⟨e1,e2⟩:=ds1 (n:=n) (t:=t) (l:=l) (m:=m) (s:=s) h1
  rw[e1,e2];clear e1 e2;have d1:decide (512<(Y a:Int))=true:=by simp;omega
  go_in;go_wp2;go_ret2;exact⟨_,Q,Own.nil,Ae _ _⟩
 have d1:decide (512<(Y a:Int))=false:=by simp;omega
 have cb:=Ie n 0 (Y a) w;cases h2:AR n 0 (Y a)
 ·obtain⟨e1,e2⟩:=ds2 (t:=t) (l:=l) (m:=m) (s:=s) h1 h2
  rw[e1,e2];rw[h2]at cb;clear h2 e1 e2;go_in;go_wp2_with(go_at_call 72;refine mqv (cb) ?_);go_ret2;exact⟨_,Q,Own.nil,Ae _ _⟩
 rw[h2]at cb;have cL:=yZ n t B cB l m w hB J;by_cases h3:Gt n t l m=0
 ·rw[h3]at cL
  have cA':=qbw w fun w' hb=>Ac5 A cA a (FT n t l m) s w' (hA.on hb)
  by_cases h4:FT n t l m=0
  ·obtain⟨e1,e2⟩:=ds4 (s:=s) h1 h2 h3 h4
   rw[e1,e2];rw[h4]at cL;clear h3 h4 cA' e1 e2 h2;go_in;go_wp2_with(first | (go_at_call 72;refine mqv (cb) ?_) | (go_at_call 21;refine gqz cL fun w1 hb1=>?_));go_ret2;exact⟨_,Q,Own.nil,hb1⟩
  ·obtain⟨e1,e2⟩:=ds5 (s:=s) h1 h2 h3 h4
   rw[e1,e2];have d4:(FT n t l m == 0)=false:=qsu h4;clear e1 e2 h3 h4 h2;generalize FT n t l m=C0 at*;go_in;go_wp2_with(first | (go_at_call 72;refine mqv (cb) ?_) | (go_at_call 21;refine gqz cL fun w1 hb1=>?_) | (go_at_call 307;refine(cA' _ hb1).mono ?_;rintro e w2 ⟨v2,rfl,CU,hb2⟩));go_ret2;exact⟨_,Q,CU.down hb1.size,AH hb1 hb2⟩
 ·obtain⟨e1,e2⟩:=ds3 (s:=s) h1 h2 h3
  rw[e1,e2];have d3:(Gt n t l m != 0)=true:=qsu h3;clear e1 e2 h3 h2;generalize Gt n t l m=AM at*;go_in;go_wp2_with(first | (go_at_call 72;refine mqv (cb) ?_) | (go_at_call 21;refine gqz cL fun w1 hb1=>?_));go_ret2;exact⟨_,Q,Own.nil,hb1⟩
end
end Go.Proofs.YtjpidgffdkjjeaaGreat
