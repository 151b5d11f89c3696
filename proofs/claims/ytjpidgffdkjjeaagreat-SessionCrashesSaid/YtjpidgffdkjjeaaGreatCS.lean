/- The contracts of the library's functions that are reached, as the kit lays them. No condition. -/
import Derived.Shelf.Small.Bits
import Derived.Shelf.Small.Wraps
import Derived.Shelf.Strconv.Itoa0
import Derived.Ground.Names2Prog
import Derived.Shelf.Slices.Clone
import Derived.Shelf.Slices.SearchI
import Derived.Shelf.Slices.Empties
import Derived.Ground.SlgnProg
import Derived.Shelf.SlicesE.Clone
import Derived.Ground.SlgmProg
import Derived.Shelf.SortM.Plain
import Derived.Shelf.SortM.SortNone
import Derived.Test.YtjpidgffdkjjeaaGreatProg
import Derived.Shelf.SlMaps.Clone
import Derived.Ground.SlmcProg
import Derived.Shelf.SlIterI.Nil
import Derived.Ground.GgzProg
import Derived.Shelf.Spec.SlicesGrow
namespace Go.Proofs
open Go.Shelf
open Go.RowKit in
def Tryz.laysNm215_ren : Go.Shelf.Ren:=⟨fun|15=>58|n=>n, fun|22=>37|3=>3|4=>4|n=>n, fun|n=>n⟩
theorem Tryz.laysNm215 : Go.Proofs.Lays2.n15 Tryz.prog Tryz.laysNm215_ren:={
 mixed:=by kernel_rfl
 f15:=Tryz.func58.trans (congrArg some (by kernel_rfl))
 t3:=Tryz.underlying3
 a3:=Tryz.isAgg3
 z3:=Tryz.sizeOf3
 v3:=Tryz.zeroValue3
 t4:=Tryz.underlying4
 a4:=Tryz.isAgg4
 z4:=Tryz.sizeOf4
 v4:=Tryz.zeroValue4
 t22:=Tryz.underlying37
 a22:=Tryz.isAgg37
 z22:=Tryz.sizeOf37
 v22:=Tryz.zeroValue37
 i3:=by kernel_rfl }
open Go.RowKit Go.Lib in
theorem Tryz.slices_Clone_int (b off n c : Nat) (zs : List Int) (w : World) (hz : n ≤ zs.length) (hbig : n * 8 ≤ 140737488355328) (hc : ∀ j, j < zs.length → w.cell? ⟨b, off + j, none⟩ = some (.int .i64 (zs.getD j 0))) :
 Calls Tryz.prog 58 #[.slice (some ⟨b, off, none⟩) n c] w fun e w'=>∃ v', e = .returned v' ∧ w'.ownsRow w.heap.size 3 1 v' n ((zs.take n).map (Value.int .i64)) ∧ v' ≠ .slice none 0 0 ∧ Below w.heap.size w w':=Any.slices_Clone_int Tryz.laysNm215 b off n c zs w hz hbig hc
open Go.RowKit Go.Lib in
open Go.RowKit Go.Lib in
open Go.RowKit Go.Lib in
open Go.RowKit Go.Lib in
open Go.RowKit Go.Lib in
def Tryz.laysNm225_ren : Go.Shelf.Ren:=⟨fun|25=>271|31=>262|32=>300|37=>293|n=>n, fun|22=>37|3=>3|4=>4|40=>182|0=>0|n=>n, fun|n=>n⟩
theorem Tryz.laysNm225 : Go.Proofs.Lays2.n25 Tryz.prog Tryz.laysNm225_ren:={
 mixed:=by kernel_rfl
 f25:=Tryz.func271.trans (congrArg some (by kernel_rfl))
 f31:=Tryz.func262.trans (congrArg some (by kernel_rfl))
 f32:=Tryz.func300.trans (congrArg some (by kernel_rfl))
 f37:=Tryz.func293.trans (congrArg some (by kernel_rfl))
 t0:=Tryz.underlying0
 a0:=Tryz.isAgg0
 z0:=Tryz.sizeOf0
 v0:=Tryz.zeroValue0
 t3:=Tryz.underlying3
 a3:=Tryz.isAgg3
 z3:=Tryz.sizeOf3
 v3:=Tryz.zeroValue3
 t4:=Tryz.underlying4
 a4:=Tryz.isAgg4
 z4:=Tryz.sizeOf4
 v4:=Tryz.zeroValue4
 t22:=Tryz.underlying37
 a22:=Tryz.isAgg37
 z22:=Tryz.sizeOf37
 v22:=Tryz.zeroValue37
 t40:=Tryz.underlying182
 a40:=Tryz.isAgg182
 z40:=Tryz.sizeOf182
 v40:=Tryz.zeroValue182 }
open Go.RowKit Go.Lib in
theorem Tryz.slices_BinarySearch_int (b off n c : Nat) (zs : List Int) (x : Int) (w : World) (hz : n ≤ zs.length) (hbig : n < 4611686018427387904) (hc : ∀ j, j < zs.length → w.cell? ⟨b, off + j, none⟩ = some (.int .i64 (zs.getD j 0))) (hs : (zs.take n).Pairwise (· ≤ ·)) :
 Calls Tryz.prog 271 #[.slice (some ⟨b, off, none⟩) n c, .int .i64 x] w fun e w'=>e = .returned (.tuple #[.int .i64 ((zs.take n).countP (· < x) : Nat), .bool ((zs.take n).contains x)]) ∧ ∃ q, w' = w.drewN q:=Any.slices_BinarySearch_int Tryz.laysNm225 b off n c zs x w hz hbig hc hs
open Go.RowKit Go.Lib in
open Go.RowKit Go.Lib in
open Go.RowKit Go.Lib in
open Go.RowKit Go.Lib in
open Go.RowKit Go.Lib in
def Tryz.laysSlM5_f179_ren : Go.Shelf.Ren:=⟨fun|5=>179|8=>219|7=>218|19=>265|20=>266|10=>256|11=>257|12=>258|13=>259|14=>260|15=>261|16=>262|17=>263|18=>264|30=>288|31=>289|32=>290|33=>291|34=>292|35=>293|40=>308|n=>n, fun|23=>37|25=>3|3=>3|32=>182|22=>37|0=>0|44=>132|46=>22|4=>4|36=>359|35=>358|41=>295|5=>5|9=>9|53=>393|57=>396|63=>411|64=>412|n=>n, fun|n=>n⟩
theorem Tryz.laysSlM5_f179 : Go.Proofs.SlLaysM.n5 Tryz.prog Tryz.laysSlM5_f179_ren:={
 mixed:=by kernel_rfl
 f5:=⟨Tryz.f179.name,by decide, Tryz.func179.trans (congrArg some (by kernel_rfl))⟩
 f7:=⟨Tryz.f218.name,by decide, Tryz.func218.trans (congrArg some (by kernel_rfl))⟩
 f8:=Tryz.func219.trans (congrArg some (by kernel_rfl))
 f10:=⟨Tryz.f256.name,by decide, Tryz.func256.trans (congrArg some (by kernel_rfl))⟩
 f11:=⟨Tryz.f257.name,by decide, Tryz.func257.trans (congrArg some (by kernel_rfl))⟩
 f12:=⟨Tryz.f258.name,by decide, Tryz.func258.trans (congrArg some (by kernel_rfl))⟩
 f13:=⟨Tryz.f259.name,by decide, Tryz.func259.trans (congrArg some (by kernel_rfl))⟩
 f14:=⟨Tryz.f260.name,by decide, Tryz.func260.trans (congrArg some (by kernel_rfl))⟩
 f15:=⟨Tryz.f261.name,by decide, Tryz.func261.trans (congrArg some (by kernel_rfl))⟩
 f16:=⟨Tryz.f262.name,by decide, Tryz.func262.trans (congrArg some (by kernel_rfl))⟩
 f17:=⟨Tryz.f263.name,by decide, Tryz.func263.trans (congrArg some (by kernel_rfl))⟩
 f18:=⟨Tryz.f264.name,by decide, Tryz.func264.trans (congrArg some (by kernel_rfl))⟩
 f19:=Tryz.func265.trans (congrArg some (by kernel_rfl))
 f20:=Tryz.func266.trans (congrArg some (by kernel_rfl))
 f30:=⟨Tryz.f288.name,by decide, Tryz.func288.trans (congrArg some (by kernel_rfl))⟩
 f31:=Tryz.func289.trans (congrArg some (by kernel_rfl))
 f32:=Tryz.func290.trans (congrArg some (by kernel_rfl))
 f33:=⟨Tryz.f291.name,by decide, Tryz.func291.trans (congrArg some (by kernel_rfl))⟩
 f34:=⟨Tryz.f292.name,by decide, Tryz.func292.trans (congrArg some (by kernel_rfl))⟩
 f35:=⟨Tryz.f293.name,by decide, Tryz.func293.trans (congrArg some (by kernel_rfl))⟩
 f40:=⟨Tryz.f308.name,by decide, Tryz.func308.trans (congrArg some (by kernel_rfl))⟩
 t0:=Tryz.underlying0
 a0:=Tryz.isAgg0
 z0:=Tryz.sizeOf0
 v0:=Tryz.zeroValue0
 t3:=Tryz.underlying3
 a3:=Tryz.isAgg3
 z3:=Tryz.sizeOf3
 v3:=Tryz.zeroValue3
 t4:=Tryz.underlying4
 a4:=Tryz.isAgg4
 z4:=Tryz.sizeOf4
 v4:=Tryz.zeroValue4
 t5:=Tryz.underlying5
 a5:=Tryz.isAgg5
 z5:=Tryz.sizeOf5
 v5:=Tryz.zeroValue5
 t9:=Tryz.underlying9
 a9:=Tryz.isAgg9
 z9:=Tryz.sizeOf9
 v9:=Tryz.zeroValue9
 t22:=Tryz.underlying37
 a22:=Tryz.isAgg37
 z22:=Tryz.sizeOf37
 v22:=Tryz.zeroValue37
 t23:=Tryz.underlying37
 a23:=Tryz.isAgg37
 z23:=Tryz.sizeOf37
 v23:=Tryz.zeroValue37
 t25:=Tryz.underlying3
 a25:=Tryz.isAgg3
 z25:=Tryz.sizeOf3
 v25:=Tryz.zeroValue3
 t32:=Tryz.underlying182
 a32:=Tryz.isAgg182
 z32:=Tryz.sizeOf182
 v32:=Tryz.zeroValue182
 t35:=Tryz.underlying358
 a35:=Tryz.isAgg358
 z35:=Tryz.sizeOf358
 v35:=Tryz.zeroValue358
 t36:=Tryz.underlying359
 a36:=Tryz.isAgg359
 z36:=Tryz.sizeOf359
 v36:=Tryz.zeroValue359
 t41:=Tryz.underlying295
 a41:=Tryz.isAgg295
 z41:=Tryz.sizeOf295
 v41:=Tryz.zeroValue295
 t44:=Tryz.underlying132
 a44:=Tryz.isAgg132
 z44:=Tryz.sizeOf132
 v44:=Tryz.zeroValue132
 t46:=Tryz.underlying22
 a46:=Tryz.isAgg22
 z46:=Tryz.sizeOf22
 v46:=Tryz.zeroValue22
 t53:=Tryz.underlying393
 a53:=Tryz.isAgg393
 z53:=Tryz.sizeOf393
 v53:=Tryz.zeroValue393
 t57:=Tryz.underlying396
 a57:=Tryz.isAgg396
 z57:=Tryz.sizeOf396
 v57:=Tryz.zeroValue396
 t63:=Tryz.underlying411
 a63:=Tryz.isAgg411
 z63:=Tryz.sizeOf411
 v63:=Tryz.zeroValue411
 t64:=Tryz.underlying412
 a64:=Tryz.isAgg412
 z64:=Tryz.sizeOf412
 v64:=Tryz.zeroValue412 }
open Go.Sort Go.RowKit in
theorem Tryz.slices_Sort_int (blk off cap : Nat) (zs : List Int) (w : World) (hH : Holds (Value.int .i64) w blk off zs.toArray) (hblk : blk < w.heap.size) (hsz : zs.length < 4611686018427387904) :
 Calls Tryz.prog 179 #[.slice (some ⟨blk, off, none⟩) zs.length cap] w fun e w' =>
 e = .returned (.tuple #[]) ∧ ∃ n os, w' = grow (putRow (Value.int .i64) (Sort.ahead w n) blk off (zs.mergeSort fun x y=>decide (x ≤ y)).toArray) os:=AnyM.slices_Sort_int Tryz.laysSlM5_f179 blk off cap zs w hH hblk hsz
open Go.RowKit Go.Sort in
open Go.Shelf
def Tryz.cloneM_ren : Go.Shelf.Ren:=⟨fun|5=>149|7=>192|n=>n, fun|23=>234|25=>3|3=>3|4=>4|20=>20|n=>n, fun|n=>n⟩
theorem Tryz.cloneM : Go.Proofs.SlLaysW.n5 Tryz.prog Tryz.cloneM_ren:={
 mixed:=by kernel_rfl
 f5:=⟨Tryz.f149.name,by decide, Tryz.func149.trans (congrArg some (by kernel_rfl))⟩
 f7:=Tryz.func192.trans (congrArg some (by kernel_rfl))
 t4:=Tryz.underlying4
 a4:=Tryz.isAgg4
 z4:=Tryz.sizeOf4
 v4:=Tryz.zeroValue4
 t20:=Tryz.underlying20
 a20:=Tryz.isAgg20
 z20:=Tryz.sizeOf20
 v20:=Tryz.zeroValue20
 t23:=Tryz.underlying234
 a23:=Tryz.isAgg234
 z23:=Tryz.sizeOf234
 v23:=Tryz.zeroValue234 }
def Tryz.cloneQ_ren : Go.Shelf.Ren:=⟨fun|5=>151|7=>192|n=>n, fun|23=>242|25=>245|3=>4|4=>4|20=>20|n=>n, fun|n=>n⟩
theorem Tryz.cloneQ : Go.Proofs.SlLaysW.n5 Tryz.prog Tryz.cloneQ_ren:={
 mixed:=by kernel_rfl
 f5:=⟨Tryz.f151.name,by decide, Tryz.func151.trans (congrArg some (by kernel_rfl))⟩
 f7:=Tryz.func192.trans (congrArg some (by kernel_rfl))
 t4:=Tryz.underlying4
 a4:=Tryz.isAgg4
 z4:=Tryz.sizeOf4
 v4:=Tryz.zeroValue4
 t20:=Tryz.underlying20
 a20:=Tryz.isAgg20
 z20:=Tryz.sizeOf20
 v20:=Tryz.zeroValue20
 t23:=Tryz.underlying242
 a23:=Tryz.isAgg242
 z23:=Tryz.sizeOf242
 v23:=Tryz.zeroValue242 }
def Tryz.keysA_ren : Go.Shelf.Ren:=⟨fun|7=>208|10=>241|n=>n, fun|23=>234|26=>3|3=>3|28=>172|0=>0|27=>171|33=>128|4=>4|n=>n, fun|n=>n⟩
theorem Tryz.keysA : Go.Proofs.SlLaysZI.n7 Tryz.prog Tryz.keysA_ren:={
 mixed:=by kernel_rfl
 f7:=⟨Tryz.f208.name,by decide, Tryz.func208.trans (congrArg some (by kernel_rfl))⟩
 f10:=⟨Tryz.f241.name,by decide, Tryz.func241.trans (congrArg some (by kernel_rfl))⟩
 t0:=Tryz.underlying0
 a0:=Tryz.isAgg0
 z0:=Tryz.sizeOf0
 v0:=Tryz.zeroValue0
 t4:=Tryz.underlying4
 a4:=Tryz.isAgg4
 z4:=Tryz.sizeOf4
 v4:=Tryz.zeroValue4
 t23:=Tryz.underlying234
 a23:=Tryz.isAgg234
 z23:=Tryz.sizeOf234
 v23:=Tryz.zeroValue234
 t26:=Tryz.underlying3
 a26:=Tryz.isAgg3
 z26:=Tryz.sizeOf3
 v26:=Tryz.zeroValue3
 t27:=Tryz.underlying171
 a27:=Tryz.isAgg171
 z27:=Tryz.sizeOf171
 v27:=Tryz.zeroValue171
 t28:=Tryz.underlying172
 a28:=Tryz.isAgg172
 z28:=Tryz.sizeOf172
 v28:=Tryz.zeroValue172
 t33:=Tryz.underlying128
 a33:=Tryz.isAgg128
 z33:=Tryz.sizeOf128
 v33:=Tryz.zeroValue128 }
def Tryz.sortedA_ren : Go.Shelf.Ren:=⟨fun|6=>207|8=>240|9=>179|11=>285|13=>219|12=>218|23=>265|24=>266|14=>256|15=>257|16=>258|17=>259|18=>260|19=>261|20=>262|21=>263|22=>264|25=>288|26=>289|27=>290|28=>291|29=>292|30=>293|31=>308|n=>n, fun|26=>3|28=>172|24=>37|0=>0|3=>3|37=>182|48=>132|50=>22|4=>4|40=>359|39=>358|45=>295|5=>5|9=>9|51=>393|55=>396|57=>411|58=>412|33=>128|n=>n, fun|n=>n⟩
theorem Tryz.sortedA : Go.Proofs.SlLaysZI.n6 Tryz.prog Tryz.sortedA_ren:={
 mixed:=by kernel_rfl
 f6:=⟨Tryz.f207.name,by decide, Tryz.func207.trans (congrArg some (by kernel_rfl))⟩
 f8:=⟨Tryz.f240.name,by decide, Tryz.func240.trans (congrArg some (by kernel_rfl))⟩
 f11:=⟨Tryz.f285.name,by decide, Tryz.func285.trans (congrArg some (by kernel_rfl))⟩
 t0:=Tryz.underlying0
 a0:=Tryz.isAgg0
 z0:=Tryz.sizeOf0
 v0:=Tryz.zeroValue0
 t24:=Tryz.underlying37
 a24:=Tryz.isAgg37
 z24:=Tryz.sizeOf37
 v24:=Tryz.zeroValue37
 t26:=Tryz.underlying3
 a26:=Tryz.isAgg3
 z26:=Tryz.sizeOf3
 v26:=Tryz.zeroValue3
 t28:=Tryz.underlying172
 a28:=Tryz.isAgg172
 z28:=Tryz.sizeOf172
 v28:=Tryz.zeroValue172
 i26:=by kernel_rfl }
def Tryz.sortA_ren : Go.Shelf.Ren:=⟨fun|5=>179|8=>219|7=>218|19=>265|20=>266|10=>256|11=>257|12=>258|13=>259|14=>260|15=>261|16=>262|17=>263|18=>264|30=>288|31=>289|32=>290|33=>291|34=>292|35=>293|40=>308|n=>n, fun|23=>37|25=>3|3=>3|32=>182|22=>37|0=>0|44=>132|46=>22|4=>4|36=>359|35=>358|41=>295|5=>5|9=>9|53=>393|57=>396|63=>411|64=>412|n=>n, fun|n=>n⟩
theorem Tryz.sortA : Go.Proofs.SlLaysM.n5 Tryz.prog Tryz.sortA_ren:={
 mixed:=by kernel_rfl
 f5:=⟨Tryz.f179.name,by decide, Tryz.func179.trans (congrArg some (by kernel_rfl))⟩
 f7:=⟨Tryz.f218.name,by decide, Tryz.func218.trans (congrArg some (by kernel_rfl))⟩
 f8:=Tryz.func219.trans (congrArg some (by kernel_rfl))
 f10:=⟨Tryz.f256.name,by decide, Tryz.func256.trans (congrArg some (by kernel_rfl))⟩
 f11:=⟨Tryz.f257.name,by decide, Tryz.func257.trans (congrArg some (by kernel_rfl))⟩
 f12:=⟨Tryz.f258.name,by decide, Tryz.func258.trans (congrArg some (by kernel_rfl))⟩
 f13:=⟨Tryz.f259.name,by decide, Tryz.func259.trans (congrArg some (by kernel_rfl))⟩
 f14:=⟨Tryz.f260.name,by decide, Tryz.func260.trans (congrArg some (by kernel_rfl))⟩
 f15:=⟨Tryz.f261.name,by decide, Tryz.func261.trans (congrArg some (by kernel_rfl))⟩
 f16:=⟨Tryz.f262.name,by decide, Tryz.func262.trans (congrArg some (by kernel_rfl))⟩
 f17:=⟨Tryz.f263.name,by decide, Tryz.func263.trans (congrArg some (by kernel_rfl))⟩
 f18:=⟨Tryz.f264.name,by decide, Tryz.func264.trans (congrArg some (by kernel_rfl))⟩
 f19:=Tryz.func265.trans (congrArg some (by kernel_rfl))
 f20:=Tryz.func266.trans (congrArg some (by kernel_rfl))
 f30:=⟨Tryz.f288.name,by decide, Tryz.func288.trans (congrArg some (by kernel_rfl))⟩
 f31:=Tryz.func289.trans (congrArg some (by kernel_rfl))
 f32:=Tryz.func290.trans (congrArg some (by kernel_rfl))
 f33:=⟨Tryz.f291.name,by decide, Tryz.func291.trans (congrArg some (by kernel_rfl))⟩
 f34:=⟨Tryz.f292.name,by decide, Tryz.func292.trans (congrArg some (by kernel_rfl))⟩
 f35:=⟨Tryz.f293.name,by decide, Tryz.func293.trans (congrArg some (by kernel_rfl))⟩
 f40:=⟨Tryz.f308.name,by decide, Tryz.func308.trans (congrArg some (by kernel_rfl))⟩
 t0:=Tryz.underlying0
 a0:=Tryz.isAgg0
 z0:=Tryz.sizeOf0
 v0:=Tryz.zeroValue0
 t3:=Tryz.underlying3
 a3:=Tryz.isAgg3
 z3:=Tryz.sizeOf3
 v3:=Tryz.zeroValue3
 t4:=Tryz.underlying4
 a4:=Tryz.isAgg4
 z4:=Tryz.sizeOf4
 v4:=Tryz.zeroValue4
 t5:=Tryz.underlying5
 a5:=Tryz.isAgg5
 z5:=Tryz.sizeOf5
 v5:=Tryz.zeroValue5
 t9:=Tryz.underlying9
 a9:=Tryz.isAgg9
 z9:=Tryz.sizeOf9
 v9:=Tryz.zeroValue9
 t22:=Tryz.underlying37
 a22:=Tryz.isAgg37
 z22:=Tryz.sizeOf37
 v22:=Tryz.zeroValue37
 t23:=Tryz.underlying37
 a23:=Tryz.isAgg37
 z23:=Tryz.sizeOf37
 v23:=Tryz.zeroValue37
 t25:=Tryz.underlying3
 a25:=Tryz.isAgg3
 z25:=Tryz.sizeOf3
 v25:=Tryz.zeroValue3
 t32:=Tryz.underlying182
 a32:=Tryz.isAgg182
 z32:=Tryz.sizeOf182
 v32:=Tryz.zeroValue182
 t35:=Tryz.underlying358
 a35:=Tryz.isAgg358
 z35:=Tryz.sizeOf358
 v35:=Tryz.zeroValue358
 t36:=Tryz.underlying359
 a36:=Tryz.isAgg359
 z36:=Tryz.sizeOf359
 v36:=Tryz.zeroValue359
 t41:=Tryz.underlying295
 a41:=Tryz.isAgg295
 z41:=Tryz.sizeOf295
 v41:=Tryz.zeroValue295
 t44:=Tryz.underlying132
 a44:=Tryz.isAgg132
 z44:=Tryz.sizeOf132
 v44:=Tryz.zeroValue132
 t46:=Tryz.underlying22
 a46:=Tryz.isAgg22
 z46:=Tryz.sizeOf22
 v46:=Tryz.zeroValue22
 t53:=Tryz.underlying393
 a53:=Tryz.isAgg393
 z53:=Tryz.sizeOf393
 v53:=Tryz.zeroValue393
 t57:=Tryz.underlying396
 a57:=Tryz.isAgg396
 z57:=Tryz.sizeOf396
 v57:=Tryz.zeroValue396
 t63:=Tryz.underlying411
 a63:=Tryz.isAgg411
 z63:=Tryz.sizeOf411
 v63:=Tryz.zeroValue411
 t64:=Tryz.underlying412
 a64:=Tryz.isAgg412
 z64:=Tryz.sizeOf412
 v64:=Tryz.zeroValue412 }
def Tryz.growB_ren : Go.Shelf.Ren:=⟨fun|4=>270|n=>n, fun|22=>44|25=>4|3=>3|4=>4|9=>9|20=>20|0=>0|n=>n, fun|n=>n⟩
theorem Tryz.growB : Go.Proofs.Lays8.n4 Tryz.prog Tryz.growB_ren:={
 mixed:=by kernel_rfl
 f4:=⟨Tryz.f270.name,by decide, Tryz.func270.trans (congrArg some (by kernel_rfl))⟩
 t0:=Tryz.underlying0
 a0:=Tryz.isAgg0
 z0:=Tryz.sizeOf0
 v0:=Tryz.zeroValue0
 t3:=Tryz.underlying3
 a3:=Tryz.isAgg3
 z3:=Tryz.sizeOf3
 v3:=Tryz.zeroValue3
 t4:=Tryz.underlying4
 a4:=Tryz.isAgg4
 z4:=Tryz.sizeOf4
 v4:=Tryz.zeroValue4
 t9:=Tryz.underlying9
 a9:=Tryz.isAgg9
 z9:=Tryz.sizeOf9
 v9:=Tryz.zeroValue9
 t20:=Tryz.underlying20
 a20:=Tryz.isAgg20
 z20:=Tryz.sizeOf20
 v20:=Tryz.zeroValue20
 t22:=Tryz.underlying44
 a22:=Tryz.isAgg44
 z22:=Tryz.sizeOf44
 v22:=Tryz.zeroValue44 }
end Go.Proofs
