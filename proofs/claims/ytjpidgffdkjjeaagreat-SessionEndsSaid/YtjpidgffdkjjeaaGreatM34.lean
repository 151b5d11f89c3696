/- Contracts and plain laws. No condition. -/
import Derived.Laws.IdiomArrays
import Derived.Test.YtjpidgffdkjjeaaGreatMA
import Derived.Test.YtjpidgffdkjjeaaGreatM12
set_option linter.all false
set_option maxHeartbeats 16000000
namespace Go.Proofs.YtjpidgffdkjjeaaGreat
open Go.Proofs.Tryz
open Go.Proofs.Tryz renaming prog->AE
open List renaming length->Y
open Go.World renaming cell?->E,setCell->Ai,alloc->Ao,frozen?->Bo
open Go.Value renaming int->U,slice->R,pointer->AI,agg->Ba,tuple->Be,nilFunc->Bl,bool->Av
open Go.IntKind renaming i64->O,u64->AA,u32->BF,u8->Cd
open Option renaming none->Z,some->I
open Go.Ending renaming returned->AN
open Go.Obj renaming cells->N
open Go renaming World->V,Value->An,Calls->AL,Addr->AS
open Go.RowKit renaming Below->Ag,Hid->Aj
open Go.RowKit
set_option maxRecDepth 100000
open Go.ChangeShapes Go.WideShapes Go.ChangeAt Go.Deep Go.Joins
section
variable {H:Type} {en:TypeId × An→H} {w:V} {base:Nat} {sp:Nat→Bool} {held:Bool}
theorem G6{P:Program}{fs:Array Field}{xs:List (DataW H × List MemPlace)}{cs:List An}{n:Nat}
  (hd:∀(i:Nat) (f:Field),fs[i]?=I f->DataW.trod en P w base sp held n f.type ((cs.drop f.offset).take (P.cellsOf f.type))=xs[i]?) (hl:Y xs=fs.size)
  (i:Nat) (T:TypeId) (off k:Nat) (hf:(fs[i]?).map (fun f=>(f.type,f.offset))=I (T,off)) (hk:P.cellsOf T=k):∃y,DataW.trod en P w base sp held n T ((cs.drop off).take k)=I y:=by
 grind
theorem eJ{fuel:Nat}{c:An}{y:DataW H × List MemPlace}(h:DataW.trod en AE w base sp held fuel 3 [c]=I y):∃x,c=U O x:=by
 obtain⟨x,e,_⟩:=DataW.trod_int underlying3 h
 grind
end
section
variable {H:Type} {en:TypeId × An→H} {w:V} {base:Nat} {sp:Nat→Bool} {held:Bool}
theorem JM{fuel:Nat}{c:An}{y:DataW H × List MemPlace}(h:DataW.trod en AE w base sp held fuel 5 [c]=I y):∃x:Nat,c=U Cd x/\x<256:=by
 obtain⟨x,e,_,wf⟩:=DataW.trod_int underlying5 h;have hb:=bounds_u8 wf;obtain⟨x,rfl⟩:=DV hb.1
 grind
end
def yj{cs:Array An}(h:cs.size=20):∃c0 c1 c2 c3 c4 c5 c6 c7 c8 c9 c10 c11 c12 c13 c14 c15 c16 c17 c18 c19,cs=#[c0,c1,c2,c3,c4,c5,c6,c7,c8,c9,c10,c11,c12,c13,c14,c15,c16,c17,c18,c19]:=by
 obtain⟨l⟩:=cs
 match l,h with
 | [c0,c1,c2,c3,c4,c5,c6,c7,c8,c9,c10,c11,c12,c13,c14,c15,c16,c17,c18,c19],_=>simp
def yk{cs:List An}(h:Y cs=4):∃c0 c1 c2 c3,cs=[c0,c1,c2,c3]:=by
 match cs,h with
 | [c0,c1,c2,c3],_=>simp
section
variable {H:Type} {en:TypeId × An→H} {w:V} {base:Nat} {sp:Nat→Bool} {held:Bool}
theorem lG{fuel:Nat}{c:An}{y:DataW H × List MemPlace}(h:DataW.trod en AE w base sp held fuel 22 [c]=I y):∃x:Nat,c=U AA x/\x<18446744073709551616:=by
 obtain⟨x,e,_,wf⟩:=DataW.trod_int underlying22 h;have hb:=bounds_u64 wf;obtain⟨x,rfl⟩:=DV hb.1
 grind
def Ajj{W:V}{yl:Nat}{v:An}{d:DataW H}{p:List MemPlace}(hv:Value.okWide AE W .any yl 24 v)(h:DataW.Trod en AE w base sp held 24 v d p):∃m:Min,v=m.val/\m.Ok/\m.U8:=by
 obtain⟨cs,rfl,hsz⟩:=okWide_struct underlying24 hv;obtain⟨c0,c1,c2,c3,c4,c5,c6,c7,c8,c9,c10,c11,c12,c13,c14,c15,c16,c17,c18,c19,rfl⟩:=yj (hsz.trans (show prog.cellsOf 24=20 from by kernel_rfl));obtain⟨fuel,hf⟩:=h;obtain⟨xs,n,_,_,_,hl,hd⟩:=DataW.trod_struct underlying24 hf;obtain⟨_,z0⟩:=G6 hd hl 0 5 0 1 AG AG;obtain⟨x0,rfl,b0⟩:=JM z0;obtain⟨_,z1⟩:=G6 hd hl 1 5 1 1 AG AG;obtain⟨x1,rfl,b1⟩:=JM z1;obtain⟨_,z2⟩:=G6 hd hl 2 5 2 1 AG AG;obtain⟨x2,rfl,b2⟩:=JM z2;obtain⟨_,z3⟩:=G6 hd hl 3 5 3 1 AG AG;obtain⟨x3,rfl,b3⟩:=JM z3;obtain⟨_,z4⟩:=G6 hd hl 4 5 4 1 AG AG;obtain⟨x4,rfl,b4⟩:=JM z4;obtain⟨_,z5⟩:=G6 hd hl 5 5 5 1 AG AG;obtain⟨x5,rfl,b5⟩:=JM z5;obtain⟨_,z6⟩:=G6 hd hl 6 5 6 1 AG AG;obtain⟨x6,rfl,b6⟩:=JM z6;obtain⟨_,z7⟩:=G6 hd hl 7 5 7 1 AG AG;obtain⟨x7,rfl,b7⟩:=JM z7;obtain⟨_,z8⟩:=G6 hd hl 8 5 8 1 AG AG;obtain⟨x8,rfl,b8⟩:=JM z8;obtain⟨_,z9⟩:=G6 hd hl 9 5 9 1 AG AG;obtain⟨x9,rfl,b9⟩:=JM z9;obtain⟨_,z10⟩:=G6 hd hl 10 5 10 1 AG AG;obtain⟨x10,rfl,Jj⟩:=JM z10;obtain⟨_,z11⟩:=G6 hd hl 11 5 11 1 AG AG;obtain⟨OE,rfl,b11⟩:=JM z11;obtain⟨_,z12⟩:=G6 hd hl 12 5 12 1 AG AG;obtain⟨x12,rfl,b12⟩:=JM z12;obtain⟨_,z13⟩:=G6 hd hl 13 5 13 1 AG AG;obtain⟨Nm,rfl,Ma⟩:=JM z13;obtain⟨_,z14⟩:=G6 hd hl 14 5 14 1 AG AG;obtain⟨x14,rfl,b14⟩:=JM z14;obtain⟨_,z15⟩:=G6 hd hl 15 5 15 1 AG AG;obtain⟨x15,rfl,b15⟩:=JM z15;obtain⟨_,z16⟩:=G6 hd hl 16 5 16 1 AG AG;obtain⟨x16,rfl,Ei⟩:=JM z16;obtain⟨_,z17⟩:=G6 hd hl 17 5 17 1 AG AG;obtain⟨x17,rfl,b17⟩:=JM z17;obtain⟨_,z18⟩:=G6 hd hl 18 22 18 1 AG AG;obtain⟨x18,rfl,OG⟩:=lG z18;obtain⟨_,z19⟩:=G6 hd hl 19 22 19 1 AG AG;obtain⟨Mb,rfl,b19⟩:=lG z19;exact⟨⟨x0,x1,x2,x3,x4,x5,x6,x7,x8,x9,x10,OE,x12,Nm,x14,x15,x16,x17,x18,Mb⟩,Q,⟨b1,b2,b4,b12,b17,OG,b19⟩,⟨b0,b3,b5,b6,b7,b8,b9,Jj,b11,Ma,b14,b15,Ei⟩⟩
theorem Ajk{n:Nat}{cs:List An}{y:DataW H × List MemPlace}(h:DataW.trod en AE w base sp held n 32 cs=I y):∃x:G7,cs=x.enc/\x.n<65536:=by
 obtain⟨xs,m,_,_,hlen,hl,hd⟩:=DataW.trod_struct underlying32 h;have h4:Y cs=4:=hlen.trans AG;obtain⟨c0,c1,c2,c3,rfl⟩:=yk h4;obtain⟨_,z0⟩:=G6 hd hl 0 29 0 3 AG AG;obtain⟨_,z1⟩:=G6 hd hl 1 30 3 1 AG AG;obtain⟨ys,m2,_,_,_,hl2,Rh⟩:=DataW.trod_struct underlying29 z0;obtain⟨_,y0⟩:=G6 Rh hl2 0 3 0 1 AG AG;obtain⟨_,y1⟩:=G6 Rh hl2 1 3 1 1 AG AG;obtain⟨_,y2⟩:=G6 Rh hl2 2 3 2 1 AG AG;obtain⟨a,rfl⟩:=eJ y0;obtain⟨b,rfl⟩:=eJ y1;obtain⟨c,rfl⟩:=eJ y2;obtain⟨x,e,_,wf⟩:=DataW.trod_int underlying30 z1;have hb:=bounds_u16 wf;obtain⟨x,rfl⟩:=DV hb.1;obtain rfl:c3=.int .u16 (x:Int):=by grind
 exact⟨⟨a,b,c,x⟩,Q,by grind⟩
end
end Go.Proofs.YtjpidgffdkjjeaaGreat
