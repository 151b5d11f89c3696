/- Contracts and plain laws. No condition. -/
import Derived.Test.YtjpidgffdkjjeaaGreatMA
import Derived.Test.YtjpidgffdkjjeaaGreatM23
set_option linter.all false
set_option maxHeartbeats 16000000
namespace Go.Proofs.YtjpidgffdkjjeaaGreat
open Go.Proofs.Tryz
open Go.Proofs.Tryz renaming prog->AE
open List renaming length->Y
open Go.World renaming cell?->E,setCell->Ai,alloc->Ao,frozen?->Bo
open Go.Value renaming int->U,slice->R,pointer->AI,agg->Ba,tuple->Be,nilFunc->Bl,bool->Av
open Go.IntKind renaming i64->O,u64->AA,u32->BF,u8->Cd
open Option renaming none->Z,some->I
open Go.Ending renaming returned->AN
open Go.Obj renaming cells->N
open Go renaming World->V,Value->An,Calls->AL,Addr->AS
open Go.RowKit renaming Below->Ag,Hid->Aj
open Go.RowKit Go.Maps
set_option maxRecDepth 100000
section
variable{w:V}{τ:Nat->Nat}
theorem AiW{α β:Type}{f:α->β}{l:List α}{k:Nat}{x y:α}(hx:l[k]?=I x)(e:f y=f x):(l.set k y).map f=l.map f:=by
 refine List.ext_getElem? (fun j=>?_)
 grind
def jC(A:Option AS)(l:List BW):Prop:=∀x∈l,∀a b,x.A=I a->A=I b->a.block≠b.block
def BW.Im.set{x:BW}{g j:Nat}{u:An}(h:x.Im τ w)(hg:∀a,x.A=I a->a.block≠g):x.Im τ (Ai w ⟨g,j,Z⟩ u):=by
 obtain⟨A',c',he,m1,m2,m3,ax,tg⟩:=h;have hA:=(Value.slice.inj he).1;have ho:AT (fun k=>k=g) w (Ai w ⟨g,j,Z⟩ u):=AT.set Q;exact⟨A',c',he,m1,m2,m3,ho.arr ax (fun a ha=>hg a (hA.trans ha)),fun a ha=>⟨Ck (tg a ha).1 ho.size,(tg a ha).2⟩⟩
def AiX{M:Dg}{v:Bj}{q:Bt}(h:CO τ w M v q)(fr:BU τ w)(iv:Dv v q):
  AL AE 13 #[AI (I ⟨M.b,0,Z⟩)] w fun e w'=>∃vl fv,e=AN vl/\Own w' w 41 6 BW.enc vl fv/\fv.map BW.f=q.way/\(∀x∈fv,x.Im τ w')/\Ag w w w':=by
 have cV:=Zc h;obtain⟨fv,f1,f2,f3,f4⟩:=h.way;obtain⟨A,c,CZ,l1,l2,l3,ar⟩:=f2.form BW.BY;have Cm:Y fv=Y q.way:=by rw[<-f1,Dz]
 have IK:E w ⟨M.b,39,Z⟩=I (R A (Y fv) c):=qrb CZ (h.row.c 39);have cC:=AgM A c fv w ar l3 l1 (by have:=iv.len;omega);have F1:=F f1;have Lok:Aj (∀x∈fv,Pk v.W x.f.l):=F (fun x hx=>(iv.way x.f (qrb f1 (List.mem_map_of_mem hx))).2);have H64:Aj (Y fv<=64):=F (qrf Cm iv.len);clear f1 f2 f4 CZ Cm l1 l2 l3 ar iv;go_enter func13,ntmps13;go_wp2_with(go_at_call 56;refine mqv (cV) ?_);refine cC.mono ?_;rintro e w1⟨v1,rfl,Dy,hb1⟩;obtain⟨A1,c1,rfl,k1,k2,k3,ar1⟩:=Dy.form BW.BY
 have hap:jC A1 fv:=fun x hx a b ha hb=>by
  obtain⟨A',c',he,_,_,_,_,tg⟩:=f3 x hx;have h1:=(tg a ((Value.slice.inj he).1.symm.trans ha)).1;have h2:=(Cp Dy b.block (by rw[hb];rfl)).1;omega
 go_wp2_with fail;go_loopw [15] (fun iv wr=>∃(k:Nat) (fk:List BW),iv=U O k/\Own wr w 41 6 BW.enc (R A1 (Y fv) c1) fk/\Aj (fk.map BW.f=fv.map BW.f)/\(∀x∈fk,x.Im τ wr)/\Ag w w wr/\jC A1 fk) (fun iv _=>Y fv-(intOf iv).toNat)
 case atStart=>exact⟨0,fv,rfl,Dy,F rfl,fun x hx=>Imm.keep (f3 x hx) (Kp.of hb1),hb1,hap⟩
 case round=>
  obtain⟨k,fk,rfl,own,hf,MX,hb,ap⟩:=hrel;have hlk:Y fk=Y fv:=by have:=congrArg List.length hf.out;simpa using this
  by_cases hk:k<Y fv
  ·have T7:=own
   rcases own.2 with⟨_,h0⟩ | ⟨g,cap,cur,hv3,hg3,hgr,_⟩
   ·have:=h0
    omega
   have hA1:=(Value.slice.inj hv3).1;subst hA1;clear hv3;have RY:=(Bm.1 hgr).1;clear hgr;obtain⟨x,hx⟩:∃x,fk[k]?=I x:=⟨_,CH J⟩
   have xm:=DI hx;have x4:E wr ⟨g,k*6+1+3,Z⟩=_:=own.OI hlk BW.BY hx (j:=4) (u:= R x.A (Y x.f.l.ws) x.c) Q;obtain⟨A',c',he,m1,m2,m3,ax,tg⟩:=MX x xm;cases he
   have lok:Y x.f.l.ws<=4096:=by
    have h1:=hf.out▸List.mem_map_of_mem xm;obtain⟨y,hy,e⟩:=Ld.1 h1;have:=(Lok.out y hy).len;rw[<-e];exact this
   have cK:=WV x.A x.c x.f.l.ws wr ax m3 m1 J;clear ax tg m1 m2 m3;have Hx:=F hx;have He:=F hlk;clear hlk hx;go_wp2_with fail;refine cK.mono ?_;rintro e w2⟨v2,rfl,CU,hb2⟩;obtain⟨A3,c3,rfl,n1,n2,n3,_⟩:=CU.form DY;have EW:=T7.below hb2;have xf2:=EW.OJ He.out (k*6+1+3);have Eb:Own (Ai w2 ⟨g,k*6+1+3,Z⟩ (R A3 (Y x.f.l.ws) c3)) w 41 6 BW.enc (R (I ⟨g,0,Z⟩) (Y fv) c1) (fk.set k ⟨x.f,A3,c3⟩):=EW.TH He.out BW.BY Hx.out (j:=4) AC Q;have x42:=AK hb2 x4;have hb4:Ag w w (Ai w2 ⟨g,k*6+1+3,Z⟩ (R A3 (Y x.f.l.ws) c3)):=(hb.trans (hb2.mono hb.size)).setCell hg3 _
   have LH:Imm 1 BD τ (Ai w2 ⟨g,k*6+1+3,Z⟩ (R A3 (Y x.f.l.ws) c3)) (R A3 (Y x.f.l.ws) c3) x.f.l.ws:=Own.imm (Own.keep CU (Fo w2 g (k*6+1+3) _) (by
    cases hv:(Value.slice A3 (Y x.f.l.ws) c3).ownBlock with
    | none=>exact .inl Q
    | some j=>exact .inr (fun e=>by
     have h1:=(Cp CU j hv).1;have h2:j=g:=qsu e;omega))) DY (fun j hj=>fr j (Br hb.size hj))
   have hst:=F ((AiW (f:=BW.f) (y:=⟨x.f,A3,c3⟩) Hx.out Q).trans hf.out)
   have ha3:∀a,A3=I a->a.block≠g:=fun a ha e=>by
    have h1:=(Cp CU a.block (by rw[ha];rfl)).1;omega
   have AiY:∀y∈fk.set k ⟨x.f,A3,c3⟩,y.Im τ (Ai w2 ⟨g,k*6+1+3,Z⟩ (R A3 (Y x.f.l.ws) c3)):=fun y hy=>by
    rcases df hy with hy | rfl
    ·exact BW.Im.set (Imm.keep (MX y hy) (Kp.of hb2)) (fun a ha=>ap y hy a _ ha Q)
    ·exact LH
   have ap4:Aj (jC (I ⟨g,0,Z⟩) (fk.set k ⟨x.f,A3,c3⟩)):=F (fun y hy a b ha hb=>by
    rcases df hy with hy | rfl
    ·exact ap y hy a b ha hb
    ·cases hb;exact ha3 a ha)
   have h64:=H64.out;clear own T7 CU EW MX hb hb2 x4 LH ap ha3;go_wp2_with fail;exact⟨⟨k+1,_,qgm,Eb,hst,AiY,hb4,ap4.out⟩,qio⟩
  ·go_wp2_with fail
   go_ret;exact⟨_,fk,Q,own,hf.out.trans F1.out,MX,hb⟩
end
end Go.Proofs.YtjpidgffdkjjeaaGreat
