/- The types and functions of this program as the abstract heaps use them. Conditions: none beyond the given model and program. -/
import Derived.Test.YtnimgapjllhccaaGreatDoorAbC
import Derived.Test.YtnimgapjllhccaaGreatDoorProg
import Derived.KernelRfl
namespace Go.Ab
open Go.Proofs

theorem flat_none {P : Program} {t : TypeId} : ∀ ks : List SK, (none : Option (List SK)) = some ks → flatK P 10000 t = some ks ∧ P.eqGuardType P.depth t = false := fun _ h => by cases h
theorem flat_some {P : Program} {t : TypeId} {l : List SK} (h1 : flatK P 10000 t = some l) (h2 : P.eqGuardType P.depth t = false) : ∀ ks : List SK, some l = some ks → flatK P 10000 t = some ks ∧ P.eqGuardType P.depth t = false := fun _ h => by cases h; exact ⟨h1, h2⟩

def ti2 : TI := ⟨1, 8, .int .i64 0, (.int .i64), (some [.int])⟩
theorem ti2_ok : TI.ok Tryz.prog 2 ti2 := ⟨⟨Tryz.t2, by kernel_rfl, by kernel_rfl, by kernel_rfl, by kernel_rfl⟩, by kernel_rfl, by kernel_rfl, Tryz.underlying2, flat_some (by kernel_rfl) (by kernel_rfl)⟩
def ti3 : TI := ⟨1, 8, .int .i64 0, (.int .i64), (some [.int])⟩
theorem ti3_ok : TI.ok Tryz.prog 3 ti3 := ⟨⟨Tryz.t3, by kernel_rfl, by kernel_rfl, by kernel_rfl, by kernel_rfl⟩, by kernel_rfl, by kernel_rfl, Tryz.underlying3, flat_some (by kernel_rfl) (by kernel_rfl)⟩
def ti4 : TI := ⟨1, 1, .bool false, .bool, (some [.bool])⟩
theorem ti4_ok : TI.ok Tryz.prog 4 ti4 := ⟨⟨Tryz.t4, by kernel_rfl, by kernel_rfl, by kernel_rfl, by kernel_rfl⟩, by kernel_rfl, by kernel_rfl, Tryz.underlying4, flat_some (by kernel_rfl) (by kernel_rfl)⟩
def ti5 : TI := ⟨1, 1, .int .u8 0, (.int .u8), (some [.int])⟩
theorem ti5_ok : TI.ok Tryz.prog 5 ti5 := ⟨⟨Tryz.t5, by kernel_rfl, by kernel_rfl, by kernel_rfl, by kernel_rfl⟩, by kernel_rfl, by kernel_rfl, Tryz.underlying5, flat_some (by kernel_rfl) (by kernel_rfl)⟩
def ti9 : TI := ⟨1, 16, .string ⟨#[]⟩, .str, (some [.str])⟩
theorem ti9_ok : TI.ok Tryz.prog 9 ti9 := ⟨⟨Tryz.t9, by kernel_rfl, by kernel_rfl, by kernel_rfl, by kernel_rfl⟩, by kernel_rfl, by kernel_rfl, Tryz.underlying9, flat_some (by kernel_rfl) (by kernel_rfl)⟩
def ti20 : TI := ⟨1, 16, .nilIface, .iface, none⟩
theorem ti20_ok : TI.ok Tryz.prog 20 ti20 := ⟨⟨Tryz.t20, by kernel_rfl, by kernel_rfl, by kernel_rfl, by kernel_rfl⟩, by kernel_rfl, by kernel_rfl, ⟨_, Tryz.underlying20⟩, flat_none⟩
def ti21 : TI := ⟨1, 4, .int .i32 0, (.int .i32), (some [.int])⟩
theorem ti21_ok : TI.ok Tryz.prog 21 ti21 := ⟨⟨Tryz.t21, by kernel_rfl, by kernel_rfl, by kernel_rfl, by kernel_rfl⟩, by kernel_rfl, by kernel_rfl, Tryz.underlying21, flat_some (by kernel_rfl) (by kernel_rfl)⟩
def ti22 : TI := ⟨1, 24, .slice none 0 0, (.slice 35), none⟩
theorem ti22_ok : TI.ok Tryz.prog 22 ti22 := ⟨⟨Tryz.t22, by kernel_rfl, by kernel_rfl, by kernel_rfl, by kernel_rfl⟩, by kernel_rfl, by kernel_rfl, Tryz.underlying22, flat_none⟩
def ti24 : TI := ⟨1, 24, .agg #[.slice none 0 0], (.struct [(0, 22)]), none⟩
theorem ti24_ok : TI.ok Tryz.prog 24 ti24 := ⟨⟨Tryz.t24, by kernel_rfl, by kernel_rfl, by kernel_rfl, by kernel_rfl⟩, by kernel_rfl, by kernel_rfl, ⟨_, Tryz.underlying24, by kernel_rfl⟩, flat_none⟩
def ti27 : TI := ⟨1, 8, .int .i64 0, (.int .i64), (some [.int])⟩
theorem ti27_ok : TI.ok Tryz.prog 27 ti27 := ⟨⟨Tryz.t27, by kernel_rfl, by kernel_rfl, by kernel_rfl, by kernel_rfl⟩, by kernel_rfl, by kernel_rfl, Tryz.underlying27, flat_some (by kernel_rfl) (by kernel_rfl)⟩
def ti32 : TI := ⟨4, 32, .agg #[.int .i64 0, .int .i64 0, .int .i64 0, .int .i64 0], (.arr 4 3), (some [.int, .int, .int, .int])⟩
theorem ti32_ok : TI.ok Tryz.prog 32 ti32 := ⟨⟨Tryz.t32, by kernel_rfl, by kernel_rfl, by kernel_rfl, by kernel_rfl⟩, by kernel_rfl, by kernel_rfl, Tryz.underlying32, flat_some (by kernel_rfl) (by kernel_rfl)⟩
def ti34 : TI := ⟨5, 40, .agg #[.int .i64 0, .int .i64 0, .int .i64 0, .int .i64 0, .int .i64 0], (.struct [(0, 3), (1, 32)]), (some [.int, .int, .int, .int, .int])⟩
theorem ti34_ok : TI.ok Tryz.prog 34 ti34 := ⟨⟨Tryz.t34, by kernel_rfl, by kernel_rfl, by kernel_rfl, by kernel_rfl⟩, by kernel_rfl, by kernel_rfl, ⟨_, Tryz.underlying34, by kernel_rfl⟩, flat_some (by kernel_rfl) (by kernel_rfl)⟩
def ti35 : TI := ⟨20, 160, .agg #[.int .i64 0, .int .i64 0, .int .i64 0, .int .i64 0, .int .i64 0, .int .i64 0, .int .i64 0, .int .i64 0, .int .i64 0, .int .i64 0, .int .i64 0, .int .i64 0, .int .i64 0, .int .i64 0, .int .i64 0, .int .i64 0, .int .i64 0, .int .i64 0, .int .i64 0, .int .i64 0], (.arr 4 34), (some [.int, .int, .int, .int, .int, .int, .int, .int, .int, .int, .int, .int, .int, .int, .int, .int, .int, .int, .int, .int])⟩
theorem ti35_ok : TI.ok Tryz.prog 35 ti35 := ⟨⟨Tryz.t35, by kernel_rfl, by kernel_rfl, by kernel_rfl, by kernel_rfl⟩, by kernel_rfl, by kernel_rfl, Tryz.underlying35, flat_some (by kernel_rfl) (by kernel_rfl)⟩
def ti36 : TI := ⟨1, 24, .slice none 0 0, (.slice 3), none⟩
theorem ti36_ok : TI.ok Tryz.prog 36 ti36 := ⟨⟨Tryz.t36, by kernel_rfl, by kernel_rfl, by kernel_rfl, by kernel_rfl⟩, by kernel_rfl, by kernel_rfl, Tryz.underlying36, flat_none⟩
def ti43 : TI := ⟨1, 24, .slice none 0 0, (.slice 32), none⟩
theorem ti43_ok : TI.ok Tryz.prog 43 ti43 := ⟨⟨Tryz.t43, by kernel_rfl, by kernel_rfl, by kernel_rfl, by kernel_rfl⟩, by kernel_rfl, by kernel_rfl, Tryz.underlying43, flat_none⟩
def ti61 : TI := ⟨1, 8, .nilFunc, .func, none⟩
theorem ti61_ok : TI.ok Tryz.prog 61 ti61 := ⟨⟨Tryz.t61, by kernel_rfl, by kernel_rfl, by kernel_rfl, by kernel_rfl⟩, by kernel_rfl, by kernel_rfl, ⟨_, _, _, Tryz.underlying61⟩, flat_none⟩
def ti62 : TI := ⟨1, 24, .slice none 0 0, (.slice 24), none⟩
theorem ti62_ok : TI.ok Tryz.prog 62 ti62 := ⟨⟨Tryz.t62, by kernel_rfl, by kernel_rfl, by kernel_rfl, by kernel_rfl⟩, by kernel_rfl, by kernel_rfl, Tryz.underlying62, flat_none⟩
def ti64 : TI := ⟨1, 8, .nilFunc, .func, none⟩
theorem ti64_ok : TI.ok Tryz.prog 64 ti64 := ⟨⟨Tryz.t64, by kernel_rfl, by kernel_rfl, by kernel_rfl, by kernel_rfl⟩, by kernel_rfl, by kernel_rfl, ⟨_, _, _, Tryz.underlying64⟩, flat_none⟩
def ti67 : TI := ⟨2, 16, .agg #[.int .i64 0, .int .i64 0], (.struct [(0, 3), (1, 3)]), (some [.int, .int])⟩
theorem ti67_ok : TI.ok Tryz.prog 67 ti67 := ⟨⟨Tryz.t67, by kernel_rfl, by kernel_rfl, by kernel_rfl, by kernel_rfl⟩, by kernel_rfl, by kernel_rfl, ⟨_, Tryz.underlying67, by kernel_rfl⟩, flat_some (by kernel_rfl) (by kernel_rfl)⟩
def ti70 : TI := ⟨1, 24, .slice none 0 0, (.slice 4), none⟩
theorem ti70_ok : TI.ok Tryz.prog 70 ti70 := ⟨⟨Tryz.t70, by kernel_rfl, by kernel_rfl, by kernel_rfl, by kernel_rfl⟩, by kernel_rfl, by kernel_rfl, Tryz.underlying70, flat_none⟩
def ti79 : TI := ⟨1, 24, .slice none 0 0, (.slice 9), none⟩
theorem ti79_ok : TI.ok Tryz.prog 79 ti79 := ⟨⟨Tryz.t79, by kernel_rfl, by kernel_rfl, by kernel_rfl, by kernel_rfl⟩, by kernel_rfl, by kernel_rfl, Tryz.underlying79, flat_none⟩
def ti83 : TI := ⟨0, 0, .agg #[], (.struct []), (some [])⟩
theorem ti83_ok : TI.ok Tryz.prog 83 ti83 := ⟨⟨Tryz.t83, by kernel_rfl, by kernel_rfl, by kernel_rfl, by kernel_rfl⟩, by kernel_rfl, by kernel_rfl, ⟨_, Tryz.underlying83, by kernel_rfl⟩, flat_some (by kernel_rfl) (by kernel_rfl)⟩
def ti85 : TI := ⟨1, 8, .pointer none, .ptr, none⟩
theorem ti85_ok : TI.ok Tryz.prog 85 ti85 := ⟨⟨Tryz.t85, by kernel_rfl, by kernel_rfl, by kernel_rfl, by kernel_rfl⟩, by kernel_rfl, by kernel_rfl, ⟨_, Tryz.underlying85⟩, flat_none⟩
def ti87 : TI := ⟨1, 16, .agg #[.string ⟨#[]⟩], (.struct [(0, 9)]), (some [.str])⟩
theorem ti87_ok : TI.ok Tryz.prog 87 ti87 := ⟨⟨Tryz.t87, by kernel_rfl, by kernel_rfl, by kernel_rfl, by kernel_rfl⟩, by kernel_rfl, by kernel_rfl, ⟨_, Tryz.underlying87, by kernel_rfl⟩, flat_some (by kernel_rfl) (by kernel_rfl)⟩
def ti89 : TI := ⟨1, 16, .agg #[.string ⟨#[]⟩], (.struct [(0, 87)]), (some [.str])⟩
theorem ti89_ok : TI.ok Tryz.prog 89 ti89 := ⟨⟨Tryz.t89, by kernel_rfl, by kernel_rfl, by kernel_rfl, by kernel_rfl⟩, by kernel_rfl, by kernel_rfl, ⟨_, Tryz.underlying89, by kernel_rfl⟩, flat_some (by kernel_rfl) (by kernel_rfl)⟩
def ti94 : TI := ⟨4, 4, .agg #[.bool false, .bool false, .bool false, .bool false], (.arr 4 4), (some [.bool, .bool, .bool, .bool])⟩
theorem ti94_ok : TI.ok Tryz.prog 94 ti94 := ⟨⟨Tryz.t94, by kernel_rfl, by kernel_rfl, by kernel_rfl, by kernel_rfl⟩, by kernel_rfl, by kernel_rfl, Tryz.underlying94, flat_some (by kernel_rfl) (by kernel_rfl)⟩
def ti95 : TI := ⟨1, 8, .nilFunc, .func, none⟩
theorem ti95_ok : TI.ok Tryz.prog 95 ti95 := ⟨⟨Tryz.t95, by kernel_rfl, by kernel_rfl, by kernel_rfl, by kernel_rfl⟩, by kernel_rfl, by kernel_rfl, ⟨_, _, _, Tryz.underlying95⟩, flat_none⟩
def ti98 : TI := ⟨1, 24, .slice none 0 0, (.slice 5), none⟩
theorem ti98_ok : TI.ok Tryz.prog 98 ti98 := ⟨⟨Tryz.t98, by kernel_rfl, by kernel_rfl, by kernel_rfl, by kernel_rfl⟩, by kernel_rfl, by kernel_rfl, Tryz.underlying98, flat_none⟩
def ti103 : TI := ⟨1, 16, .nilIface, .iface, none⟩
theorem ti103_ok : TI.ok Tryz.prog 103 ti103 := ⟨⟨Tryz.t103, by kernel_rfl, by kernel_rfl, by kernel_rfl, by kernel_rfl⟩, by kernel_rfl, by kernel_rfl, ⟨_, Tryz.underlying103⟩, flat_none⟩
def ti106 : TI := ⟨1, 8, .pointer none, .ptr, none⟩
theorem ti106_ok : TI.ok Tryz.prog 106 ti106 := ⟨⟨Tryz.t106, by kernel_rfl, by kernel_rfl, by kernel_rfl, by kernel_rfl⟩, by kernel_rfl, by kernel_rfl, ⟨_, Tryz.underlying106⟩, flat_none⟩
def ti110 : TI := ⟨256, 256, .agg #[.bool false, .bool false, .bool false, .bool false, .bool false, .bool false, .bool false, .bool false, .bool false, .bool false, .bool false, .bool false, .bool false, .bool false, .bool false, .bool false, .bool false, .bool false, .bool false, .bool false, .bool false, .bool false, .bool false, .bool false, .bool false, .bool false, .bool false, .bool false, .bool false, .bool false, .bool false, .bool false, .bool false, .bool false, .bool false, .bool false, .bool false, .bool false, .bool false, .bool false, .bool false, .bool false, .bool false, .bool false, .bool false, .bool false, .bool false, .bool false, .bool false, .bool false, .bool false, .bool false, .bool false, .bool false, .bool false, .bool false, .bool false, .bool false, .bool false, .bool false, .bool false, .bool false, .bool false, .bool false, .bool false, .bool false, .bool false, .bool false, .bool false, .bool false, .bool false, .bool false, .bool false, .bool false, .bool false, .bool false, .bool false, .bool false, .bool false, .bool false, .bool false, .bool false, .bool false, .bool false, .bool false, .bool false, .bool false, .bool false, .bool false, .bool false, .bool false, .bool false, .bool false, .bool false, .bool false, .bool false, .bool false, .bool false, .bool false, .bool false, .bool false, .bool false, .bool false, .bool false, .bool false, .bool false, .bool false, .bool false, .bool false, .bool false, .bool false, .bool false, .bool false, .bool false, .bool false, .bool false, .bool false, .bool false, .bool false, .bool false, .bool false, .bool false, .bool false, .bool false, .bool false, .bool false, .bool false, .bool false, .bool false, .bool false, .bool false, .bool false, .bool false, .bool false, .bool false, .bool false, .bool false, .bool false, .bool false, .bool false, .bool false, .bool false, .bool false, .bool false, .bool false, .bool false, .bool false, .bool false, .bool false, .bool false, .bool false, .bool false, .bool false, .bool false, .bool false, .bool false, .bool false, .bool false, .bool false, .bool false, .bool false, .bool false, .bool false, .bool false, .bool false, .bool false, .bool false, .bool false, .bool false, .bool false, .bool false, .bool false, .bool false, .bool false, .bool false, .bool false, .bool false, .bool false, .bool false, .bool false, .bool false, .bool false, .bool false, .bool false, .bool false, .bool false, .bool false, .bool false, .bool false, .bool false, .bool false, .bool false, .bool false, .bool false, .bool false, .bool false, .bool false, .bool false, .bool false, .bool false, .bool false, .bool false, .bool false, .bool false, .bool false, .bool false, .bool false, .bool false, .bool false, .bool false, .bool false, .bool false, .bool false, .bool false, .bool false, .bool false, .bool false, .bool false, .bool false, .bool false, .bool false, .bool false, .bool false, .bool false, .bool false, .bool false, .bool false, .bool false, .bool false, .bool false, .bool false, .bool false, .bool false, .bool false, .bool false, .bool false, .bool false, .bool false, .bool false, .bool false, .bool false, .bool false, .bool false, .bool false, .bool false, .bool false, .bool false, .bool false, .bool false, .bool false, .bool false, .bool false, .bool false, .bool false, .bool false, .bool false], (.arr 256 4), (some [.bool, .bool, .bool, .bool, .bool, .bool, .bool, .bool, .bool, .bool, .bool, .bool, .bool, .bool, .bool, .bool, .bool, .bool, .bool, .bool, .bool, .bool, .bool, .bool, .bool, .bool, .bool, .bool, .bool, .bool, .bool, .bool, .bool, .bool, .bool, .bool, .bool, .bool, .bool, .bool, .bool, .bool, .bool, .bool, .bool, .bool, .bool, .bool, .bool, .bool, .bool, .bool, .bool, .bool, .bool, .bool, .bool, .bool, .bool, .bool, .bool, .bool, .bool, .bool, .bool, .bool, .bool, .bool, .bool, .bool, .bool, .bool, .bool, .bool, .bool, .bool, .bool, .bool, .bool, .bool, .bool, .bool, .bool, .bool, .bool, .bool, .bool, .bool, .bool, .bool, .bool, .bool, .bool, .bool, .bool, .bool, .bool, .bool, .bool, .bool, .bool, .bool, .bool, .bool, .bool, .bool, .bool, .bool, .bool, .bool, .bool, .bool, .bool, .bool, .bool, .bool, .bool, .bool, .bool, .bool, .bool, .bool, .bool, .bool, .bool, .bool, .bool, .bool, .bool, .bool, .bool, .bool, .bool, .bool, .bool, .bool, .bool, .bool, .bool, .bool, .bool, .bool, .bool, .bool, .bool, .bool, .bool, .bool, .bool, .bool, .bool, .bool, .bool, .bool, .bool, .bool, .bool, .bool, .bool, .bool, .bool, .bool, .bool, .bool, .bool, .bool, .bool, .bool, .bool, .bool, .bool, .bool, .bool, .bool, .bool, .bool, .bool, .bool, .bool, .bool, .bool, .bool, .bool, .bool, .bool, .bool, .bool, .bool, .bool, .bool, .bool, .bool, .bool, .bool, .bool, .bool, .bool, .bool, .bool, .bool, .bool, .bool, .bool, .bool, .bool, .bool, .bool, .bool, .bool, .bool, .bool, .bool, .bool, .bool, .bool, .bool, .bool, .bool, .bool, .bool, .bool, .bool, .bool, .bool, .bool, .bool, .bool, .bool, .bool, .bool, .bool, .bool, .bool, .bool, .bool, .bool, .bool, .bool, .bool, .bool, .bool, .bool, .bool, .bool, .bool, .bool, .bool, .bool, .bool, .bool, .bool, .bool, .bool, .bool, .bool, .bool])⟩
theorem ti110_ok : TI.ok Tryz.prog 110 ti110 := ⟨⟨Tryz.t110, by kernel_rfl, by kernel_rfl, by kernel_rfl, by kernel_rfl⟩, by kernel_rfl, by kernel_rfl, Tryz.underlying110, flat_some (by kernel_rfl) (by kernel_rfl)⟩
def ti111 : TI := ⟨256, 256, .agg #[.bool false, .bool false, .bool false, .bool false, .bool false, .bool false, .bool false, .bool false, .bool false, .bool false, .bool false, .bool false, .bool false, .bool false, .bool false, .bool false, .bool false, .bool false, .bool false, .bool false, .bool false, .bool false, .bool false, .bool false, .bool false, .bool false, .bool false, .bool false, .bool false, .bool false, .bool false, .bool false, .bool false, .bool false, .bool false, .bool false, .bool false, .bool false, .bool false, .bool false, .bool false, .bool false, .bool false, .bool false, .bool false, .bool false, .bool false, .bool false, .bool false, .bool false, .bool false, .bool false, .bool false, .bool false, .bool false, .bool false, .bool false, .bool false, .bool false, .bool false, .bool false, .bool false, .bool false, .bool false, .bool false, .bool false, .bool false, .bool false, .bool false, .bool false, .bool false, .bool false, .bool false, .bool false, .bool false, .bool false, .bool false, .bool false, .bool false, .bool false, .bool false, .bool false, .bool false, .bool false, .bool false, .bool false, .bool false, .bool false, .bool false, .bool false, .bool false, .bool false, .bool false, .bool false, .bool false, .bool false, .bool false, .bool false, .bool false, .bool false, .bool false, .bool false, .bool false, .bool false, .bool false, .bool false, .bool false, .bool false, .bool false, .bool false, .bool false, .bool false, .bool false, .bool false, .bool false, .bool false, .bool false, .bool false, .bool false, .bool false, .bool false, .bool false, .bool false, .bool false, .bool false, .bool false, .bool false, .bool false, .bool false, .bool false, .bool false, .bool false, .bool false, .bool false, .bool false, .bool false, .bool false, .bool false, .bool false, .bool false, .bool false, .bool false, .bool false, .bool false, .bool false, .bool false, .bool false, .bool false, .bool false, .bool false, .bool false, .bool false, .bool false, .bool false, .bool false, .bool false, .bool false, .bool false, .bool false, .bool false, .bool false, .bool false, .bool false, .bool false, .bool false, .bool false, .bool false, .bool false, .bool false, .bool false, .bool false, .bool false, .bool false, .bool false, .bool false, .bool false, .bool false, .bool false, .bool false, .bool false, .bool false, .bool false, .bool false, .bool false, .bool false, .bool false, .bool false, .bool false, .bool false, .bool false, .bool false, .bool false, .bool false, .bool false, .bool false, .bool false, .bool false, .bool false, .bool false, .bool false, .bool false, .bool false, .bool false, .bool false, .bool false, .bool false, .bool false, .bool false, .bool false, .bool false, .bool false, .bool false, .bool false, .bool false, .bool false, .bool false, .bool false, .bool false, .bool false, .bool false, .bool false, .bool false, .bool false, .bool false, .bool false, .bool false, .bool false, .bool false, .bool false, .bool false, .bool false, .bool false, .bool false, .bool false, .bool false, .bool false, .bool false, .bool false, .bool false, .bool false, .bool false, .bool false, .bool false, .bool false, .bool false, .bool false, .bool false, .bool false, .bool false, .bool false, .bool false, .bool false, .bool false, .bool false, .bool false, .bool false], (.arr 256 4), (some [.bool, .bool, .bool, .bool, .bool, .bool, .bool, .bool, .bool, .bool, .bool, .bool, .bool, .bool, .bool, .bool, .bool, .bool, .bool, .bool, .bool, .bool, .bool, .bool, .bool, .bool, .bool, .bool, .bool, .bool, .bool, .bool, .bool, .bool, .bool, .bool, .bool, .bool, .bool, .bool, .bool, .bool, .bool, .bool, .bool, .bool, .bool, .bool, .bool, .bool, .bool, .bool, .bool, .bool, .bool, .bool, .bool, .bool, .bool, .bool, .bool, .bool, .bool, .bool, .bool, .bool, .bool, .bool, .bool, .bool, .bool, .bool, .bool, .bool, .bool, .bool, .bool, .bool, .bool, .bool, .bool, .bool, .bool, .bool, .bool, .bool, .bool, .bool, .bool, .bool, .bool, .bool, .bool, .bool, .bool, .bool, .bool, .bool, .bool, .bool, .bool, .bool, .bool, .bool, .bool, .bool, .bool, .bool, .bool, .bool, .bool, .bool, .bool, .bool, .bool, .bool, .bool, .bool, .bool, .bool, .bool, .bool, .bool, .bool, .bool, .bool, .bool, .bool, .bool, .bool, .bool, .bool, .bool, .bool, .bool, .bool, .bool, .bool, .bool, .bool, .bool, .bool, .bool, .bool, .bool, .bool, .bool, .bool, .bool, .bool, .bool, .bool, .bool, .bool, .bool, .bool, .bool, .bool, .bool, .bool, .bool, .bool, .bool, .bool, .bool, .bool, .bool, .bool, .bool, .bool, .bool, .bool, .bool, .bool, .bool, .bool, .bool, .bool, .bool, .bool, .bool, .bool, .bool, .bool, .bool, .bool, .bool, .bool, .bool, .bool, .bool, .bool, .bool, .bool, .bool, .bool, .bool, .bool, .bool, .bool, .bool, .bool, .bool, .bool, .bool, .bool, .bool, .bool, .bool, .bool, .bool, .bool, .bool, .bool, .bool, .bool, .bool, .bool, .bool, .bool, .bool, .bool, .bool, .bool, .bool, .bool, .bool, .bool, .bool, .bool, .bool, .bool, .bool, .bool, .bool, .bool, .bool, .bool, .bool, .bool, .bool, .bool, .bool, .bool, .bool, .bool, .bool, .bool, .bool, .bool, .bool, .bool, .bool, .bool, .bool, .bool])⟩
theorem ti111_ok : TI.ok Tryz.prog 111 ti111 := ⟨⟨Tryz.t111, by kernel_rfl, by kernel_rfl, by kernel_rfl, by kernel_rfl⟩, by kernel_rfl, by kernel_rfl, Tryz.underlying111, flat_some (by kernel_rfl) (by kernel_rfl)⟩
def ti115 : TI := ⟨1, 8, .pointer none, .ptr, none⟩
theorem ti115_ok : TI.ok Tryz.prog 115 ti115 := ⟨⟨Tryz.t115, by kernel_rfl, by kernel_rfl, by kernel_rfl, by kernel_rfl⟩, by kernel_rfl, by kernel_rfl, ⟨_, Tryz.underlying115⟩, flat_none⟩
def ti117 : TI := ⟨1, 8, .pointer none, .ptr, none⟩
theorem ti117_ok : TI.ok Tryz.prog 117 ti117 := ⟨⟨Tryz.t117, by kernel_rfl, by kernel_rfl, by kernel_rfl, by kernel_rfl⟩, by kernel_rfl, by kernel_rfl, ⟨_, Tryz.underlying117⟩, flat_none⟩
def ti124 : TI := ⟨1, 8, .int .u64 0, (.int .u64), (some [.int])⟩
theorem ti124_ok : TI.ok Tryz.prog 124 ti124 := ⟨⟨Tryz.t124, by kernel_rfl, by kernel_rfl, by kernel_rfl, by kernel_rfl⟩, by kernel_rfl, by kernel_rfl, Tryz.underlying124, flat_some (by kernel_rfl) (by kernel_rfl)⟩
def ti143 : TI := ⟨1, 4, .int .u32 0, (.int .u32), (some [.int])⟩
theorem ti143_ok : TI.ok Tryz.prog 143 ti143 := ⟨⟨Tryz.t143, by kernel_rfl, by kernel_rfl, by kernel_rfl, by kernel_rfl⟩, by kernel_rfl, by kernel_rfl, Tryz.underlying143, flat_some (by kernel_rfl) (by kernel_rfl)⟩

def TY : TT
  | 2 => some ti2
  | 3 => some ti3
  | 4 => some ti4
  | 5 => some ti5
  | 9 => some ti9
  | 20 => some ti20
  | 21 => some ti21
  | 22 => some ti22
  | 24 => some ti24
  | 27 => some ti27
  | 32 => some ti32
  | 34 => some ti34
  | 35 => some ti35
  | 36 => some ti36
  | 43 => some ti43
  | 61 => some ti61
  | 62 => some ti62
  | 64 => some ti64
  | 67 => some ti67
  | 70 => some ti70
  | 79 => some ti79
  | 83 => some ti83
  | 85 => some ti85
  | 87 => some ti87
  | 89 => some ti89
  | 94 => some ti94
  | 95 => some ti95
  | 98 => some ti98
  | 103 => some ti103
  | 106 => some ti106
  | 110 => some ti110
  | 111 => some ti111
  | 115 => some ti115
  | 117 => some ti117
  | 124 => some ti124
  | 143 => some ti143
  | _ => none

theorem TY_ok : TT.ok Tryz.prog TY := by
  intro t i h
  unfold TY at h
  split at h
  · cases h; exact ti2_ok
  · cases h; exact ti3_ok
  · cases h; exact ti4_ok
  · cases h; exact ti5_ok
  · cases h; exact ti9_ok
  · cases h; exact ti20_ok
  · cases h; exact ti21_ok
  · cases h; exact ti22_ok
  · cases h; exact ti24_ok
  · cases h; exact ti27_ok
  · cases h; exact ti32_ok
  · cases h; exact ti34_ok
  · cases h; exact ti35_ok
  · cases h; exact ti36_ok
  · cases h; exact ti43_ok
  · cases h; exact ti61_ok
  · cases h; exact ti62_ok
  · cases h; exact ti64_ok
  · cases h; exact ti67_ok
  · cases h; exact ti70_ok
  · cases h; exact ti79_ok
  · cases h; exact ti83_ok
  · cases h; exact ti85_ok
  · cases h; exact ti87_ok
  · cases h; exact ti89_ok
  · cases h; exact ti94_ok
  · cases h; exact ti95_ok
  · cases h; exact ti98_ok
  · cases h; exact ti103_ok
  · cases h; exact ti106_ok
  · cases h; exact ti110_ok
  · cases h; exact ti111_ok
  · cases h; exact ti115_ok
  · cases h; exact ti117_ok
  · cases h; exact ti124_ok
  · cases h; exact ti143_ok
  · cases h

theorem TY_2 : TY 2 = some ti2 := rfl
theorem TY_3 : TY 3 = some ti3 := rfl
theorem TY_4 : TY 4 = some ti4 := rfl
theorem TY_5 : TY 5 = some ti5 := rfl
theorem TY_9 : TY 9 = some ti9 := rfl
theorem TY_20 : TY 20 = some ti20 := rfl
theorem TY_21 : TY 21 = some ti21 := rfl
theorem TY_22 : TY 22 = some ti22 := rfl
theorem TY_24 : TY 24 = some ti24 := rfl
theorem TY_27 : TY 27 = some ti27 := rfl
theorem TY_32 : TY 32 = some ti32 := rfl
theorem TY_34 : TY 34 = some ti34 := rfl
theorem TY_35 : TY 35 = some ti35 := rfl
theorem TY_36 : TY 36 = some ti36 := rfl
theorem TY_43 : TY 43 = some ti43 := rfl
theorem TY_61 : TY 61 = some ti61 := rfl
theorem TY_62 : TY 62 = some ti62 := rfl
theorem TY_64 : TY 64 = some ti64 := rfl
theorem TY_67 : TY 67 = some ti67 := rfl
theorem TY_70 : TY 70 = some ti70 := rfl
theorem TY_79 : TY 79 = some ti79 := rfl
theorem TY_83 : TY 83 = some ti83 := rfl
theorem TY_85 : TY 85 = some ti85 := rfl
theorem TY_87 : TY 87 = some ti87 := rfl
theorem TY_89 : TY 89 = some ti89 := rfl
theorem TY_94 : TY 94 = some ti94 := rfl
theorem TY_95 : TY 95 = some ti95 := rfl
theorem TY_98 : TY 98 = some ti98 := rfl
theorem TY_103 : TY 103 = some ti103 := rfl
theorem TY_106 : TY 106 = some ti106 := rfl
theorem TY_110 : TY 110 = some ti110 := rfl
theorem TY_111 : TY 111 = some ti111 := rfl
theorem TY_115 : TY 115 = some ti115 := rfl
theorem TY_117 : TY 117 = some ti117 := rfl
theorem TY_124 : TY 124 = some ti124 := rfl
theorem TY_143 : TY 143 = some ti143 := rfl
end Go.Ab

namespace Go.Ab
open Go.Proofs

theorem codeOk_of {b : Option Code} {n : Nat} (h : b.map (codeOk n) = some true) : ∀ c, b = some c → codeOk n c = true := by
  intro c hc; subst hc; simpa using h

theorem fn8_ok : Tryz.prog.funcs[8]? = some Tryz.f8 ∧ (Tryz.f8.name == "runtime.NumGoroutine") = false ∧ ∀ c, Tryz.f8.body = some c → codeOk Tryz.f8.ntmps c = true :=
  ⟨Tryz.func8, by kernel_rfl, codeOk_of (by kernel_rfl)⟩
theorem fn10_ok : Tryz.prog.funcs[10]? = some Tryz.f10 ∧ (Tryz.f10.name == "runtime.NumGoroutine") = false ∧ ∀ c, Tryz.f10.body = some c → codeOk Tryz.f10.ntmps c = true :=
  ⟨Tryz.func10, by kernel_rfl, codeOk_of (by kernel_rfl)⟩
theorem fn11_ok : Tryz.prog.funcs[11]? = some Tryz.f11 ∧ (Tryz.f11.name == "runtime.NumGoroutine") = false ∧ ∀ c, Tryz.f11.body = some c → codeOk Tryz.f11.ntmps c = true :=
  ⟨Tryz.func11, by kernel_rfl, codeOk_of (by kernel_rfl)⟩
theorem fn12_ok : Tryz.prog.funcs[12]? = some Tryz.f12 ∧ (Tryz.f12.name == "runtime.NumGoroutine") = false ∧ ∀ c, Tryz.f12.body = some c → codeOk Tryz.f12.ntmps c = true :=
  ⟨Tryz.func12, by kernel_rfl, codeOk_of (by kernel_rfl)⟩
theorem fn13_ok : Tryz.prog.funcs[13]? = some Tryz.f13 ∧ (Tryz.f13.name == "runtime.NumGoroutine") = false ∧ ∀ c, Tryz.f13.body = some c → codeOk Tryz.f13.ntmps c = true :=
  ⟨Tryz.func13, by kernel_rfl, codeOk_of (by kernel_rfl)⟩
theorem fn14_ok : Tryz.prog.funcs[14]? = some Tryz.f14 ∧ (Tryz.f14.name == "runtime.NumGoroutine") = false ∧ ∀ c, Tryz.f14.body = some c → codeOk Tryz.f14.ntmps c = true :=
  ⟨Tryz.func14, by kernel_rfl, codeOk_of (by kernel_rfl)⟩
theorem fn18_ok : Tryz.prog.funcs[18]? = some Tryz.f18 ∧ (Tryz.f18.name == "runtime.NumGoroutine") = false ∧ ∀ c, Tryz.f18.body = some c → codeOk Tryz.f18.ntmps c = true :=
  ⟨Tryz.func18, by kernel_rfl, codeOk_of (by kernel_rfl)⟩
theorem fn19_ok : Tryz.prog.funcs[19]? = some Tryz.f19 ∧ (Tryz.f19.name == "runtime.NumGoroutine") = false ∧ ∀ c, Tryz.f19.body = some c → codeOk Tryz.f19.ntmps c = true :=
  ⟨Tryz.func19, by kernel_rfl, codeOk_of (by kernel_rfl)⟩
theorem fn20_ok : Tryz.prog.funcs[20]? = some Tryz.f20 ∧ (Tryz.f20.name == "runtime.NumGoroutine") = false ∧ ∀ c, Tryz.f20.body = some c → codeOk Tryz.f20.ntmps c = true :=
  ⟨Tryz.func20, by kernel_rfl, codeOk_of (by kernel_rfl)⟩
theorem fn21_ok : Tryz.prog.funcs[21]? = some Tryz.f21 ∧ (Tryz.f21.name == "runtime.NumGoroutine") = false ∧ ∀ c, Tryz.f21.body = some c → codeOk Tryz.f21.ntmps c = true :=
  ⟨Tryz.func21, by kernel_rfl, codeOk_of (by kernel_rfl)⟩
theorem fn26_ok : Tryz.prog.funcs[26]? = some Tryz.f26 ∧ (Tryz.f26.name == "runtime.NumGoroutine") = false ∧ ∀ c, Tryz.f26.body = some c → codeOk Tryz.f26.ntmps c = true :=
  ⟨Tryz.func26, by kernel_rfl, codeOk_of (by kernel_rfl)⟩
theorem fn27_ok : Tryz.prog.funcs[27]? = some Tryz.f27 ∧ (Tryz.f27.name == "runtime.NumGoroutine") = false ∧ ∀ c, Tryz.f27.body = some c → codeOk Tryz.f27.ntmps c = true :=
  ⟨Tryz.func27, by kernel_rfl, codeOk_of (by kernel_rfl)⟩
theorem fn28_ok : Tryz.prog.funcs[28]? = some Tryz.f28 ∧ (Tryz.f28.name == "runtime.NumGoroutine") = false ∧ ∀ c, Tryz.f28.body = some c → codeOk Tryz.f28.ntmps c = true :=
  ⟨Tryz.func28, by kernel_rfl, codeOk_of (by kernel_rfl)⟩
theorem fn29_ok : Tryz.prog.funcs[29]? = some Tryz.f29 ∧ (Tryz.f29.name == "runtime.NumGoroutine") = false ∧ ∀ c, Tryz.f29.body = some c → codeOk Tryz.f29.ntmps c = true :=
  ⟨Tryz.func29, by kernel_rfl, codeOk_of (by kernel_rfl)⟩
theorem fn30_ok : Tryz.prog.funcs[30]? = some Tryz.f30 ∧ (Tryz.f30.name == "runtime.NumGoroutine") = false ∧ ∀ c, Tryz.f30.body = some c → codeOk Tryz.f30.ntmps c = true :=
  ⟨Tryz.func30, by kernel_rfl, codeOk_of (by kernel_rfl)⟩
theorem fn31_ok : Tryz.prog.funcs[31]? = some Tryz.f31 ∧ (Tryz.f31.name == "runtime.NumGoroutine") = false ∧ ∀ c, Tryz.f31.body = some c → codeOk Tryz.f31.ntmps c = true :=
  ⟨Tryz.func31, by kernel_rfl, codeOk_of (by kernel_rfl)⟩
theorem fn32_ok : Tryz.prog.funcs[32]? = some Tryz.f32 ∧ (Tryz.f32.name == "runtime.NumGoroutine") = false ∧ ∀ c, Tryz.f32.body = some c → codeOk Tryz.f32.ntmps c = true :=
  ⟨Tryz.func32, by kernel_rfl, codeOk_of (by kernel_rfl)⟩
theorem fn33_ok : Tryz.prog.funcs[33]? = some Tryz.f33 ∧ (Tryz.f33.name == "runtime.NumGoroutine") = false ∧ ∀ c, Tryz.f33.body = some c → codeOk Tryz.f33.ntmps c = true :=
  ⟨Tryz.func33, by kernel_rfl, codeOk_of (by kernel_rfl)⟩
theorem fn34_ok : Tryz.prog.funcs[34]? = some Tryz.f34 ∧ (Tryz.f34.name == "runtime.NumGoroutine") = false ∧ ∀ c, Tryz.f34.body = some c → codeOk Tryz.f34.ntmps c = true :=
  ⟨Tryz.func34, by kernel_rfl, codeOk_of (by kernel_rfl)⟩
theorem fn35_ok : Tryz.prog.funcs[35]? = some Tryz.f35 ∧ (Tryz.f35.name == "runtime.NumGoroutine") = false ∧ ∀ c, Tryz.f35.body = some c → codeOk Tryz.f35.ntmps c = true :=
  ⟨Tryz.func35, by kernel_rfl, codeOk_of (by kernel_rfl)⟩
theorem fn36_ok : Tryz.prog.funcs[36]? = some Tryz.f36 ∧ (Tryz.f36.name == "runtime.NumGoroutine") = false ∧ ∀ c, Tryz.f36.body = some c → codeOk Tryz.f36.ntmps c = true :=
  ⟨Tryz.func36, by kernel_rfl, codeOk_of (by kernel_rfl)⟩
theorem fn37_ok : Tryz.prog.funcs[37]? = some Tryz.f37 ∧ (Tryz.f37.name == "runtime.NumGoroutine") = false ∧ ∀ c, Tryz.f37.body = some c → codeOk Tryz.f37.ntmps c = true :=
  ⟨Tryz.func37, by kernel_rfl, codeOk_of (by kernel_rfl)⟩
theorem fn38_ok : Tryz.prog.funcs[38]? = some Tryz.f38 ∧ (Tryz.f38.name == "runtime.NumGoroutine") = false ∧ ∀ c, Tryz.f38.body = some c → codeOk Tryz.f38.ntmps c = true :=
  ⟨Tryz.func38, by kernel_rfl, codeOk_of (by kernel_rfl)⟩
theorem fn39_ok : Tryz.prog.funcs[39]? = some Tryz.f39 ∧ (Tryz.f39.name == "runtime.NumGoroutine") = false ∧ ∀ c, Tryz.f39.body = some c → codeOk Tryz.f39.ntmps c = true :=
  ⟨Tryz.func39, by kernel_rfl, codeOk_of (by kernel_rfl)⟩
theorem fn40_ok : Tryz.prog.funcs[40]? = some Tryz.f40 ∧ (Tryz.f40.name == "runtime.NumGoroutine") = false ∧ ∀ c, Tryz.f40.body = some c → codeOk Tryz.f40.ntmps c = true :=
  ⟨Tryz.func40, by kernel_rfl, codeOk_of (by kernel_rfl)⟩
theorem fn41_ok : Tryz.prog.funcs[41]? = some Tryz.f41 ∧ (Tryz.f41.name == "runtime.NumGoroutine") = false ∧ ∀ c, Tryz.f41.body = some c → codeOk Tryz.f41.ntmps c = true :=
  ⟨Tryz.func41, by kernel_rfl, codeOk_of (by kernel_rfl)⟩
theorem fn42_ok : Tryz.prog.funcs[42]? = some Tryz.f42 ∧ (Tryz.f42.name == "runtime.NumGoroutine") = false ∧ ∀ c, Tryz.f42.body = some c → codeOk Tryz.f42.ntmps c = true :=
  ⟨Tryz.func42, by kernel_rfl, codeOk_of (by kernel_rfl)⟩
theorem fn46_ok : Tryz.prog.funcs[46]? = some Tryz.f46 ∧ (Tryz.f46.name == "runtime.NumGoroutine") = false ∧ ∀ c, Tryz.f46.body = some c → codeOk Tryz.f46.ntmps c = true :=
  ⟨Tryz.func46, by kernel_rfl, codeOk_of (by kernel_rfl)⟩
theorem fn47_ok : Tryz.prog.funcs[47]? = some Tryz.f47 ∧ (Tryz.f47.name == "runtime.NumGoroutine") = false ∧ ∀ c, Tryz.f47.body = some c → codeOk Tryz.f47.ntmps c = true :=
  ⟨Tryz.func47, by kernel_rfl, codeOk_of (by kernel_rfl)⟩
theorem fn48_ok : Tryz.prog.funcs[48]? = some Tryz.f48 ∧ (Tryz.f48.name == "runtime.NumGoroutine") = false ∧ ∀ c, Tryz.f48.body = some c → codeOk Tryz.f48.ntmps c = true :=
  ⟨Tryz.func48, by kernel_rfl, codeOk_of (by kernel_rfl)⟩
theorem fn49_ok : Tryz.prog.funcs[49]? = some Tryz.f49 ∧ (Tryz.f49.name == "runtime.NumGoroutine") = false ∧ ∀ c, Tryz.f49.body = some c → codeOk Tryz.f49.ntmps c = true :=
  ⟨Tryz.func49, by kernel_rfl, codeOk_of (by kernel_rfl)⟩
theorem fn50_ok : Tryz.prog.funcs[50]? = some Tryz.f50 ∧ (Tryz.f50.name == "runtime.NumGoroutine") = false ∧ ∀ c, Tryz.f50.body = some c → codeOk Tryz.f50.ntmps c = true :=
  ⟨Tryz.func50, by kernel_rfl, codeOk_of (by kernel_rfl)⟩
theorem fn53_ok : Tryz.prog.funcs[53]? = some Tryz.f53 ∧ (Tryz.f53.name == "runtime.NumGoroutine") = false ∧ ∀ c, Tryz.f53.body = some c → codeOk Tryz.f53.ntmps c = true :=
  ⟨Tryz.func53, by kernel_rfl, codeOk_of (by kernel_rfl)⟩
theorem fn54_ok : Tryz.prog.funcs[54]? = some Tryz.f54 ∧ (Tryz.f54.name == "runtime.NumGoroutine") = false ∧ ∀ c, Tryz.f54.body = some c → codeOk Tryz.f54.ntmps c = true :=
  ⟨Tryz.func54, by kernel_rfl, codeOk_of (by kernel_rfl)⟩
theorem fn57_ok : Tryz.prog.funcs[57]? = some Tryz.f57 ∧ (Tryz.f57.name == "runtime.NumGoroutine") = false ∧ ∀ c, Tryz.f57.body = some c → codeOk Tryz.f57.ntmps c = true :=
  ⟨Tryz.func57, by kernel_rfl, codeOk_of (by kernel_rfl)⟩
theorem fn56_ok : Tryz.prog.funcs[56]? = some Tryz.f56 ∧ (Tryz.f56.name == "runtime.NumGoroutine") = false ∧ ∀ c, Tryz.f56.body = some c → codeOk Tryz.f56.ntmps c = true :=
  ⟨Tryz.func56, by kernel_rfl, codeOk_of (by kernel_rfl)⟩
theorem fn58_ok : Tryz.prog.funcs[58]? = some Tryz.f58 ∧ (Tryz.f58.name == "runtime.NumGoroutine") = false ∧ ∀ c, Tryz.f58.body = some c → codeOk Tryz.f58.ntmps c = true :=
  ⟨Tryz.func58, by kernel_rfl, codeOk_of (by kernel_rfl)⟩
theorem fn59_ok : Tryz.prog.funcs[59]? = some Tryz.f59 ∧ (Tryz.f59.name == "runtime.NumGoroutine") = false ∧ ∀ c, Tryz.f59.body = some c → codeOk Tryz.f59.ntmps c = true :=
  ⟨Tryz.func59, by kernel_rfl, codeOk_of (by kernel_rfl)⟩
theorem fn60_ok : Tryz.prog.funcs[60]? = some Tryz.f60 ∧ (Tryz.f60.name == "runtime.NumGoroutine") = false ∧ ∀ c, Tryz.f60.body = some c → codeOk Tryz.f60.ntmps c = true :=
  ⟨Tryz.func60, by kernel_rfl, codeOk_of (by kernel_rfl)⟩
theorem fn61_ok : Tryz.prog.funcs[61]? = some Tryz.f61 ∧ (Tryz.f61.name == "runtime.NumGoroutine") = false ∧ ∀ c, Tryz.f61.body = some c → codeOk Tryz.f61.ntmps c = true :=
  ⟨Tryz.func61, by kernel_rfl, codeOk_of (by kernel_rfl)⟩
theorem fn64_ok : Tryz.prog.funcs[64]? = some Tryz.f64 ∧ (Tryz.f64.name == "runtime.NumGoroutine") = false ∧ ∀ c, Tryz.f64.body = some c → codeOk Tryz.f64.ntmps c = true :=
  ⟨Tryz.func64, by kernel_rfl, codeOk_of (by kernel_rfl)⟩
theorem fn69_ok : Tryz.prog.funcs[69]? = some Tryz.f69 ∧ (Tryz.f69.name == "runtime.NumGoroutine") = false ∧ ∀ c, Tryz.f69.body = some c → codeOk Tryz.f69.ntmps c = true :=
  ⟨Tryz.func69, by kernel_rfl, codeOk_of (by kernel_rfl)⟩
theorem fn70_ok : Tryz.prog.funcs[70]? = some Tryz.f70 ∧ (Tryz.f70.name == "runtime.NumGoroutine") = false ∧ ∀ c, Tryz.f70.body = some c → codeOk Tryz.f70.ntmps c = true :=
  ⟨Tryz.func70, by kernel_rfl, codeOk_of (by kernel_rfl)⟩
theorem fn71_ok : Tryz.prog.funcs[71]? = some Tryz.f71 ∧ (Tryz.f71.name == "runtime.NumGoroutine") = false ∧ ∀ c, Tryz.f71.body = some c → codeOk Tryz.f71.ntmps c = true :=
  ⟨Tryz.func71, by kernel_rfl, codeOk_of (by kernel_rfl)⟩
theorem fn72_ok : Tryz.prog.funcs[72]? = some Tryz.f72 ∧ (Tryz.f72.name == "runtime.NumGoroutine") = false ∧ ∀ c, Tryz.f72.body = some c → codeOk Tryz.f72.ntmps c = true :=
  ⟨Tryz.func72, by kernel_rfl, codeOk_of (by kernel_rfl)⟩
theorem fn73_ok : Tryz.prog.funcs[73]? = some Tryz.f73 ∧ (Tryz.f73.name == "runtime.NumGoroutine") = false ∧ ∀ c, Tryz.f73.body = some c → codeOk Tryz.f73.ntmps c = true :=
  ⟨Tryz.func73, by kernel_rfl, codeOk_of (by kernel_rfl)⟩
theorem fn74_ok : Tryz.prog.funcs[74]? = some Tryz.f74 ∧ (Tryz.f74.name == "runtime.NumGoroutine") = false ∧ ∀ c, Tryz.f74.body = some c → codeOk Tryz.f74.ntmps c = true :=
  ⟨Tryz.func74, by kernel_rfl, codeOk_of (by kernel_rfl)⟩
theorem fn75_ok : Tryz.prog.funcs[75]? = some Tryz.f75 ∧ (Tryz.f75.name == "runtime.NumGoroutine") = false ∧ ∀ c, Tryz.f75.body = some c → codeOk Tryz.f75.ntmps c = true :=
  ⟨Tryz.func75, by kernel_rfl, codeOk_of (by kernel_rfl)⟩
theorem fn78_ok : Tryz.prog.funcs[78]? = some Tryz.f78 ∧ (Tryz.f78.name == "runtime.NumGoroutine") = false ∧ ∀ c, Tryz.f78.body = some c → codeOk Tryz.f78.ntmps c = true :=
  ⟨Tryz.func78, by kernel_rfl, codeOk_of (by kernel_rfl)⟩
theorem fn83_ok : Tryz.prog.funcs[83]? = some Tryz.f83 ∧ (Tryz.f83.name == "runtime.NumGoroutine") = false ∧ ∀ c, Tryz.f83.body = some c → codeOk Tryz.f83.ntmps c = true :=
  ⟨Tryz.func83, by kernel_rfl, codeOk_of (by kernel_rfl)⟩
theorem fn84_ok : Tryz.prog.funcs[84]? = some Tryz.f84 ∧ (Tryz.f84.name == "runtime.NumGoroutine") = false ∧ ∀ c, Tryz.f84.body = some c → codeOk Tryz.f84.ntmps c = true :=
  ⟨Tryz.func84, by kernel_rfl, codeOk_of (by kernel_rfl)⟩
theorem fn88_ok : Tryz.prog.funcs[88]? = some Tryz.f88 ∧ (Tryz.f88.name == "runtime.NumGoroutine") = false ∧ ∀ c, Tryz.f88.body = some c → codeOk Tryz.f88.ntmps c = true :=
  ⟨Tryz.func88, by kernel_rfl, codeOk_of (by kernel_rfl)⟩
theorem fn99_ok : Tryz.prog.funcs[99]? = some Tryz.f99 ∧ (Tryz.f99.name == "runtime.NumGoroutine") = false ∧ ∀ c, Tryz.f99.body = some c → codeOk Tryz.f99.ntmps c = true :=
  ⟨Tryz.func99, by kernel_rfl, codeOk_of (by kernel_rfl)⟩
noncomputable def FN : FuncId → Option Func
  | 8 => some Tryz.f8
  | 10 => some Tryz.f10
  | 11 => some Tryz.f11
  | 12 => some Tryz.f12
  | 13 => some Tryz.f13
  | 14 => some Tryz.f14
  | 18 => some Tryz.f18
  | 19 => some Tryz.f19
  | 20 => some Tryz.f20
  | 21 => some Tryz.f21
  | 26 => some Tryz.f26
  | 27 => some Tryz.f27
  | 28 => some Tryz.f28
  | 29 => some Tryz.f29
  | 30 => some Tryz.f30
  | 31 => some Tryz.f31
  | 32 => some Tryz.f32
  | 33 => some Tryz.f33
  | 34 => some Tryz.f34
  | 35 => some Tryz.f35
  | 36 => some Tryz.f36
  | 37 => some Tryz.f37
  | 38 => some Tryz.f38
  | 39 => some Tryz.f39
  | 40 => some Tryz.f40
  | 41 => some Tryz.f41
  | 42 => some Tryz.f42
  | 46 => some Tryz.f46
  | 47 => some Tryz.f47
  | 48 => some Tryz.f48
  | 49 => some Tryz.f49
  | 50 => some Tryz.f50
  | 53 => some Tryz.f53
  | 54 => some Tryz.f54
  | 57 => some Tryz.f57
  | 56 => some Tryz.f56
  | 58 => some Tryz.f58
  | 59 => some Tryz.f59
  | 60 => some Tryz.f60
  | 61 => some Tryz.f61
  | 64 => some Tryz.f64
  | 69 => some Tryz.f69
  | 70 => some Tryz.f70
  | 71 => some Tryz.f71
  | 72 => some Tryz.f72
  | 73 => some Tryz.f73
  | 74 => some Tryz.f74
  | 75 => some Tryz.f75
  | 78 => some Tryz.f78
  | 83 => some Tryz.f83
  | 84 => some Tryz.f84
  | 88 => some Tryz.f88
  | 99 => some Tryz.f99
  | _ => none
theorem FN_ok : ∀ f fn, FN f = some fn → Tryz.prog.funcs[f]? = some fn ∧ (fn.name == "runtime.NumGoroutine") = false ∧ ∀ c, fn.body = some c → codeOk fn.ntmps c = true := by
  intro f fn h
  unfold FN at h
  split at h
  · cases h; exact fn8_ok
  · cases h; exact fn10_ok
  · cases h; exact fn11_ok
  · cases h; exact fn12_ok
  · cases h; exact fn13_ok
  · cases h; exact fn14_ok
  · cases h; exact fn18_ok
  · cases h; exact fn19_ok
  · cases h; exact fn20_ok
  · cases h; exact fn21_ok
  · cases h; exact fn26_ok
  · cases h; exact fn27_ok
  · cases h; exact fn28_ok
  · cases h; exact fn29_ok
  · cases h; exact fn30_ok
  · cases h; exact fn31_ok
  · cases h; exact fn32_ok
  · cases h; exact fn33_ok
  · cases h; exact fn34_ok
  · cases h; exact fn35_ok
  · cases h; exact fn36_ok
  · cases h; exact fn37_ok
  · cases h; exact fn38_ok
  · cases h; exact fn39_ok
  · cases h; exact fn40_ok
  · cases h; exact fn41_ok
  · cases h; exact fn42_ok
  · cases h; exact fn46_ok
  · cases h; exact fn47_ok
  · cases h; exact fn48_ok
  · cases h; exact fn49_ok
  · cases h; exact fn50_ok
  · cases h; exact fn53_ok
  · cases h; exact fn54_ok
  · cases h; exact fn57_ok
  · cases h; exact fn56_ok
  · cases h; exact fn58_ok
  · cases h; exact fn59_ok
  · cases h; exact fn60_ok
  · cases h; exact fn61_ok
  · cases h; exact fn64_ok
  · cases h; exact fn69_ok
  · cases h; exact fn70_ok
  · cases h; exact fn71_ok
  · cases h; exact fn72_ok
  · cases h; exact fn73_ok
  · cases h; exact fn74_ok
  · cases h; exact fn75_ok
  · cases h; exact fn78_ok
  · cases h; exact fn83_ok
  · cases h; exact fn84_ok
  · cases h; exact fn88_ok
  · cases h; exact fn99_ok
  · cases h

noncomputable def XX (fuel : Nat) : XC := { T := TY, fn := FN, lib := fun _ _ _ => none, seqs := fun _ _ _ => none, own := fun _ => false, fuel }
def pm (a b c d : Int) : Value := .agg #[.int .i64 a, .int .i64 b, .int .i64 c, .int .i64 d]
def okRet (x : Option (AOut × Heap)) (v : Value) : Bool := match x with | some (.ret u, []) => veq u v | _ => false
end Go.Ab
