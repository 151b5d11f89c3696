/- The statement SessionCrashes: for any setup by small numbers, any script and either side the law returns true, and its arguments read as they did. No condition. -/
import Derived.Test.YtjpidgffdkjjeaaGreatCA
import Derived.Test.YtjpidgffdkjjeaaGreatC30
set_option linter.unusedVariables false
set_option linter.unusedSimpArgs false
namespace Go.Proofs.YtjpidgffdkjjeaaGreat.sessionCrashes
open Go.ChangeShapes Go.WideShapes Go.ChangeAt Go.RowKit Go.Deep Go.Joins
theorem walk(m:Min)(A:Option Addr)(c:Nat)(l:List G7)(s:Int)(w:World)(f:m.Ok)(g:m.U8)(ha:Arr 4 G7.enc w w.heap.size A l)(hl:l.length<=c)(hm:c<=maxLen)(_:A=none->c=0)(hx:∀x∈l,x.n<65536)(hs:(Lit.int .u8 s).wf=true):
  Calls Tryz.prog 9 #[m.val,.slice A l.length c,.int .u8 s] w fun e w'=>e=.returned (.bool true)/\Below w.heap.size w w':=by
 have hb:=bounds_u8 hs;obtain⟨n,rfl⟩:=Int.eq_ofNat_of_zero_le hb.1;exact cra_any m f g A c l n ha hl hm hx (by omega)
theorem own:ownKnob Tryz.prog.godebug=none:=by kernel_rfl
theorem laidOut:laidOutB Tryz.prog=true:=by kernel_rfl
set_option maxRecDepth 100000 in
theorem lifted(os:Os)(started:os.Started)(H:Type)(enc:TypeId × Value->H):
  ReturnsInHanded {} Tryz.checked os 9 .any (Rows.sessionCrashesSpec.pre6 enc Tryz.prog Tryz.f9 Rows.sessionCrashesRow.domain false) (Rows.sessionCrashesSpec.post enc Tryz.prog Tryz.f9 false true false false):=by
 refine returnsInHanded_of_change (C:=Tryz.checked) own started (by kernel_rfl) Tryz.func9
  (ChangeSpec.witness6 (enc:=enc) (C:=Tryz.checked) false ⟨#[],#[.agg #[.int .u8 0,.int .u8 0,.int .u8 0,.int .u8 0,.int .u8 0,.int .u8 0,.int .u8 0,.int .u8 0,.int .u8 0,.int .u8 0,.int .u8 0,.int .u8 0,.int .u8 0,.int .u8 0,.int .u8 0,.int .u8 0,.int .u8 0,.int .u8 0,.int .u64 0,.int .u64 0],.slice none 0 0,.int .u8 0],[]⟩ 8 (by kernel_rfl) (by kernel_rfl) (by kernel_rfl) (by kernel_rfl)) ?_
 intro W base args ds gs before AfF hW hcnd _;have hval:∀(j:Nat) t v,Tryz.f9.params[j]?=some t->args[j]?=some v->Value.okWide Tryz.prog W .any base t v:=AfF;have hW':=hW;obtain⟨p,q,hA0,hV,rfl,hfz,hnd⟩:=hW;have hA:DataW.TrodAll enc Tryz.prog W 0 (fun _=>true) true Tryz.f9.params.toList args.toList ds p:=hA0;rw[Tryz.params9] at hA hval;obtain⟨v0,vs0,d0,ds0,p0,q0,Axx,rfl,rfl,h0,r0⟩:=trodAll_cons hA;obtain⟨v1,vs1,d1,ds1,p1,q1,rfl,rfl,rfl,h1,r1⟩:=trodAll_cons r0;obtain⟨v2,vs2,d2,ds2,p2,q2,rfl,rfl,rfl,h2,r2⟩:=trodAll_cons r1;obtain⟨rfl,rfl,rfl⟩:=trodAll_nil r2;obtain rfl:args=#[v0,v1,v2]:=by cases args;simp_all
 obtain⟨rfl,rfl⟩:=trodVars_none hV;have lt0:∀x∈p0,x.block<W.heap.size:=by obtain⟨m,hm⟩:=h0;exact DataW.trod_lt m _ _ _ hm
 have k0:=h0;obtain⟨x0,rfl,f0,g0⟩:=Ajj (hval 0 24 v0 rfl rfl) h0;have lt1:∀x∈p1,x.block<W.heap.size:=by obtain⟨m,hm⟩:=h1;exact DataW.trod_lt m _ _ _ hm
 have k1:=h1;obtain⟨A1,Alk,n1,rfl⟩:=okWide_slice Tryz.underlying25 (hval 1 25 v1 rfl rfl);obtain⟨Axy,lW⟩:=h1;obtain⟨A1',n1',l1,AmV,aG,hm1,hz1,ha1,ho1⟩:=Ai8 (enc:=G7.enc) _ G7.BY (by decide) Tryz.underlying25 (by kernel_rfl) (fun n cs y h=>Ajk h) lW;simp[Value.cells] at AmV;obtain⟨rfl,rfl,rfl⟩:=AmV;have lt2:∀x∈p2,x.block<W.heap.size:=by obtain⟨m,hm⟩:=h2;exact DataW.trod_lt m _ _ _ hm
 have k2:=h2;obtain⟨x2,rfl,rfl,rfl,w2⟩:=open_int Tryz.underlying5 (hval 2 5 v2 rfl rfl) h2;clear hA0 AfF;refine(walk x0 A1 n1 l1 x2 W f0 g0 ha1 aG hm1 hz1 ho1 w2).mono fun e W' ⟨he,bel⟩=>?_
 subst he;exact⟨_,rfl,_,_,_,[],_,[],hW',trodAll_mk1 (shut_bool Tryz.underlying4 _),(trodAll_cons_mk (Below.trod laidOut (by kernel_rfl) (of_decide_eq_true (by kernel_rfl)) k0 bel lt0) (trodAll_cons_mk (Below.trod laidOut (by kernel_rfl) (of_decide_eq_true (by kernel_rfl)) k1 bel lt1) (trodAll_cons_mk (Below.trod laidOut (by kernel_rfl) (of_decide_eq_true (by kernel_rfl)) k2 bel lt2) trodAll_mk0))),rfl,bel.frame _,fun h=>by cases h⟩
theorem Vo{a b:Bool}(h:a=true)(k:b=true):(a&&b)=true:=by rw[h,k];rfl
theorem cl0:(Rows.sessionCrashesRow.wf (OpenSpec.ofChange Rows.sessionCrashesSpec))=true:=by kernel_rfl
theorem cl1:(laidOutB Tryz.pinned.checked.prog)=true:=by kernel_rfl
theorem cl2:(mapsRowed Tryz.pinned.checked.prog)=true:=by kernel_rfl
theorem cl3:(Tryz.f9.params.all (Tryz.pinned.checked.prog.readableRec ·))=true:=by kernel_rfl
theorem cl4:(namedTie Tryz.pinned.checked.prog Rows.sessionCrashesRow.named Rows.sessionCrashesSpec.vars)=true:=by kernel_rfl
theorem cl5:((Rows.sessionCrashesRow.stops == []))=true:=by kernel_rfl
theorem cl6:((Tryz.pinned.checked.prog.stops == []))=true:=by kernel_rfl
theorem cl7:((Rows.sessionCrashesRow.knobs == []))=true:=by kernel_rfl
theorem cl8:((Tryz.pinned.checked.prog.stopKnobs == []))=true:=by kernel_rfl
theorem cl9:((Rows.sessionCrashesRow.inPlace == Tryz.pinned.checked.prog.inPlace 9))=true:=by kernel_rfl
theorem cl10:((Rows.sessionCrashesRow.unfollowed == Tryz.pinned.checked.prog.unfollowed 9))=true:=by kernel_rfl
theorem cl11:((Rows.sessionCrashesRow.recurses == Tryz.pinned.checked.prog.recurses 9))=true:=by kernel_rfl
theorem cl12:((Rows.sessionCrashesRow.named == Tryz.pinned.checked.prog.varsNamed 9))=true:=by kernel_rfl
theorem cl13:((Rows.sessionCrashesRow.maps == (Tryz.f9.params.toList++ Rows.sessionCrashesSpec.plain.varTypes Tryz.pinned.checked.prog).any (Tryz.pinned.checked.prog.mapsRec ·)))=true:=by kernel_rfl
theorem cl14:((Rows.sessionCrashesRow.ifaces == (Tryz.f9.params.toList++ Rows.sessionCrashesSpec.plain.varTypes Tryz.pinned.checked.prog).any (Tryz.pinned.checked.prog.ifacesRec ·)))=true:=by kernel_rfl
theorem cl15:((Rows.sessionCrashesRow.mapsOut == Tryz.pinned.checked.prog.mapsAmong Tryz.f9.resultTypes.toList))=true:=by kernel_rfl
theorem cl16:((Rows.sessionCrashesRow.loops == (Tryz.f9.params.toList++ Rows.sessionCrashesSpec.plain.varTypes Tryz.pinned.checked.prog).any (Tryz.pinned.checked.prog.loopsFrom ·)))=true:=by kernel_rfl
theorem cl17:((Rows.sessionCrashesRow.wideKeys == (Tryz.f9.params.toList++ Rows.sessionCrashesSpec.plain.varTypes Tryz.pinned.checked.prog++ Tryz.f9.resultTypes.toList).any (Tryz.pinned.checked.prog.wideKeysFrom ·)))=true:=by kernel_rfl
theorem cl18:(Rows.sessionCrashesSpec.vars.all (Tryz.pinned.checked.prog.varReadable ·))=true:=by kernel_rfl
theorem cl19:(Tryz.f9.resultTypes.all (fun t=>Tryz.pinned.checked.prog.readableRec t&&decide (t<Tryz.pinned.checked.prog.types.size)))=true:=by kernel_rfl
theorem cl20:((Rows.sessionCrashesRow.ifacesOut == Tryz.f9.resultTypes.toList.any (Tryz.pinned.checked.prog.ifacesRec ·)))=true:=by kernel_rfl
theorem cl21:((Rows.sessionCrashesRow.loopsOut == Tryz.f9.resultTypes.toList.any (Tryz.pinned.checked.prog.loopsFrom ·)))=true:=by kernel_rfl
theorem cl22:((Rows.sessionCrashesRow.plainKeys == Tryz.pinned.checked.prog.plainKeys))=true:=by kernel_rfl
theorem cl23:(Rows.sessionCrashesRow.shortTexts.isNone)=true:=by kernel_rfl
theorem cl24:(Tryz.pinned.checked.prog.stopsHeard)=true:=by kernel_rfl
theorem cl25:(Tryz.pinned.checked.prog.mayEnter)=true:=by kernel_rfl
theorem cl26:((Rows.sessionCrashesRow.lifted == Tryz.pinned.checked.prog.liftsFinal))=true:=by kernel_rfl
theorem cl27:((Tryz.pinned.checked.prog.make == some Rows.sessionCrashesRow.make))=true:=by kernel_rfl
theorem cl28:((Rows.sessionCrashesRow.kinds == (if Rows.sessionCrashesRow.domain.isEmpty then[] else Tryz.f9.params.toList.map fun t=>match Tryz.pinned.checked.prog.underlying t with | some (.int k)=>some k | _=>none)))=true:=by kernel_rfl
theorem cl29:((Rows.sessionCrashesRow.pinned == Rows.sessionCrashesRow.pinnedBy))=true:=by kernel_rfl
theorem cl30:((Rows.sessionCrashesRow.veiled == (Tryz.f9.params.toList++ Rows.sessionCrashesSpec.plain.varTypes Tryz.pinned.checked.prog++ Tryz.f9.resultTypes.toList).any (Tryz.pinned.checked.prog.veiledRec ·)))=true:=by kernel_rfl
theorem cl31:(Rows.sessionCrashesRow.veiledFits Tryz.pinned.checked.prog Tryz.f9.params.toList (Tryz.f9.params.toList++ Rows.sessionCrashesSpec.plain.varTypes Tryz.pinned.checked.prog++ Tryz.f9.resultTypes.toList))=true:=by kernel_rfl
set_option maxRecDepth 100000 in
theorem closed:joinedFacts Tryz.pinned.checked.prog 9 Tryz.f9 Rows.sessionCrashesSpec Rows.sessionCrashesRow=true:=Vo (Vo (Vo (Vo (Vo (Vo (Vo (Vo (Vo (Vo (Vo (Vo (Vo (Vo (Vo (Vo (Vo (Vo (Vo (Vo (Vo (Vo (Vo (Vo (Vo (Vo (Vo (Vo (Vo (Vo (Vo cl0 cl1) cl2) cl3) cl4) cl5) cl6) cl7) cl8) cl9) cl10) cl11) cl12) cl13) cl14) cl15) cl16) cl17) cl18) cl19) cl20) cl21) cl22) cl23) cl24) cl25) cl26) cl27) cl28) cl29) cl30) cl31
theorem over:Rows.sessionCrashesRow.holds Tryz.pinned (OpenSpec.ofChange Rows.sessionCrashesSpec):=
 OpenClaim.holds_of_wide 9 Tryz.f9 rfl rfl rfl rfl rfl rfl rfl ⟨rfl,rfl,rfl,rfl,rfl⟩ rfl rfl rfl rfl rfl (by kernel_rfl) Tryz.func9 closed
  (of_decide_eq_true (by kernel_rfl)) (by unfold Func.isWrapper;first | (rw[if_pos (by decide+kernel)];kernel_rfl) | (rw[if_neg (by decide+kernel)];exact⟨rfl,rfl⟩))
  (fun os started H enc _=>lifted os started H enc)
theorem proved:Rows.SessionCrashesSaid:=over
end Go.Proofs.YtjpidgffdkjjeaaGreat.sessionCrashes
