/- The types and functions of this program as the abstract heaps use them. Conditions: none beyond the given model and program. -/
import Derived.Test.YtnimgapjllhccaaDoorAbC
import Derived.Test.YtnimgapjllhccaaDoorProg
import Derived.KernelRfl
namespace Go.Ab
open Go.Proofs

theorem flat_none {P : Program} {t : TypeId} : ∀ ks : List SK, (none : Option (List SK)) = some ks → flatK P 10000 t = some ks ∧ P.eqGuardType P.depth t = false := fun _ h => by cases h
theorem flat_some {P : Program} {t : TypeId} {l : List SK} (h1 : flatK P 10000 t = some l) (h2 : P.eqGuardType P.depth t = false) : ∀ ks : List SK, some l = some ks → flatK P 10000 t = some ks ∧ P.eqGuardType P.depth t = false := fun _ h => by cases h; exact ⟨h1, h2⟩

def ti1 : TI := ⟨1, 8, .nilFunc, .func, none⟩
theorem ti1_ok : TI.ok Tryd.prog 1 ti1 := ⟨⟨Tryd.t1, by kernel_rfl, by kernel_rfl, by kernel_rfl, by kernel_rfl⟩, by kernel_rfl, by kernel_rfl, ⟨_, _, _, Tryd.underlying1⟩, flat_none⟩
def ti2 : TI := ⟨1, 8, .int .i64 0, (.int .i64), (some [.int])⟩
theorem ti2_ok : TI.ok Tryd.prog 2 ti2 := ⟨⟨Tryd.t2, by kernel_rfl, by kernel_rfl, by kernel_rfl, by kernel_rfl⟩, by kernel_rfl, by kernel_rfl, Tryd.underlying2, flat_some (by kernel_rfl) (by kernel_rfl)⟩
def ti3 : TI := ⟨1, 8, .int .i64 0, (.int .i64), (some [.int])⟩
theorem ti3_ok : TI.ok Tryd.prog 3 ti3 := ⟨⟨Tryd.t3, by kernel_rfl, by kernel_rfl, by kernel_rfl, by kernel_rfl⟩, by kernel_rfl, by kernel_rfl, Tryd.underlying3, flat_some (by kernel_rfl) (by kernel_rfl)⟩
def ti4 : TI := ⟨1, 1, .bool false, .bool, (some [.bool])⟩
theorem ti4_ok : TI.ok Tryd.prog 4 ti4 := ⟨⟨Tryd.t4, by kernel_rfl, by kernel_rfl, by kernel_rfl, by kernel_rfl⟩, by kernel_rfl, by kernel_rfl, Tryd.underlying4, flat_some (by kernel_rfl) (by kernel_rfl)⟩
def ti5 : TI := ⟨1, 1, .int .u8 0, (.int .u8), (some [.int])⟩
theorem ti5_ok : TI.ok Tryd.prog 5 ti5 := ⟨⟨Tryd.t5, by kernel_rfl, by kernel_rfl, by kernel_rfl, by kernel_rfl⟩, by kernel_rfl, by kernel_rfl, Tryd.underlying5, flat_some (by kernel_rfl) (by kernel_rfl)⟩
def ti9 : TI := ⟨1, 16, .string ⟨#[]⟩, .str, (some [.str])⟩
theorem ti9_ok : TI.ok Tryd.prog 9 ti9 := ⟨⟨Tryd.t9, by kernel_rfl, by kernel_rfl, by kernel_rfl, by kernel_rfl⟩, by kernel_rfl, by kernel_rfl, Tryd.underlying9, flat_some (by kernel_rfl) (by kernel_rfl)⟩
def ti20 : TI := ⟨1, 16, .nilIface, .iface, none⟩
theorem ti20_ok : TI.ok Tryd.prog 20 ti20 := ⟨⟨Tryd.t20, by kernel_rfl, by kernel_rfl, by kernel_rfl, by kernel_rfl⟩, by kernel_rfl, by kernel_rfl, ⟨_, Tryd.underlying20⟩, flat_none⟩
def ti23 : TI := ⟨4, 32, .agg #[.int .i64 0, .int .i64 0, .int .i64 0, .int .i64 0], (.arr 4 3), (some [.int, .int, .int, .int])⟩
theorem ti23_ok : TI.ok Tryd.prog 23 ti23 := ⟨⟨Tryd.t23, by kernel_rfl, by kernel_rfl, by kernel_rfl, by kernel_rfl⟩, by kernel_rfl, by kernel_rfl, Tryd.underlying23, flat_some (by kernel_rfl) (by kernel_rfl)⟩
def ti31 : TI := ⟨1, 24, .slice none 0 0, (.slice 37), none⟩
theorem ti31_ok : TI.ok Tryd.prog 31 ti31 := ⟨⟨Tryd.t31, by kernel_rfl, by kernel_rfl, by kernel_rfl, by kernel_rfl⟩, by kernel_rfl, by kernel_rfl, Tryd.underlying31, flat_none⟩
def ti33 : TI := ⟨1, 24, .agg #[.slice none 0 0], (.struct [(0, 31)]), none⟩
theorem ti33_ok : TI.ok Tryd.prog 33 ti33 := ⟨⟨Tryd.t33, by kernel_rfl, by kernel_rfl, by kernel_rfl, by kernel_rfl⟩, by kernel_rfl, by kernel_rfl, ⟨_, Tryd.underlying33, by kernel_rfl⟩, flat_none⟩
def ti36 : TI := ⟨5, 40, .agg #[.int .i64 0, .int .i64 0, .int .i64 0, .int .i64 0, .int .i64 0], (.struct [(0, 3), (1, 23)]), (some [.int, .int, .int, .int, .int])⟩
theorem ti36_ok : TI.ok Tryd.prog 36 ti36 := ⟨⟨Tryd.t36, by kernel_rfl, by kernel_rfl, by kernel_rfl, by kernel_rfl⟩, by kernel_rfl, by kernel_rfl, ⟨_, Tryd.underlying36, by kernel_rfl⟩, flat_some (by kernel_rfl) (by kernel_rfl)⟩
def ti37 : TI := ⟨20, 160, .agg #[.int .i64 0, .int .i64 0, .int .i64 0, .int .i64 0, .int .i64 0, .int .i64 0, .int .i64 0, .int .i64 0, .int .i64 0, .int .i64 0, .int .i64 0, .int .i64 0, .int .i64 0, .int .i64 0, .int .i64 0, .int .i64 0, .int .i64 0, .int .i64 0, .int .i64 0, .int .i64 0], (.arr 4 36), (some [.int, .int, .int, .int, .int, .int, .int, .int, .int, .int, .int, .int, .int, .int, .int, .int, .int, .int, .int, .int])⟩
theorem ti37_ok : TI.ok Tryd.prog 37 ti37 := ⟨⟨Tryd.t37, by kernel_rfl, by kernel_rfl, by kernel_rfl, by kernel_rfl⟩, by kernel_rfl, by kernel_rfl, Tryd.underlying37, flat_some (by kernel_rfl) (by kernel_rfl)⟩
def ti38 : TI := ⟨1, 8, .int .i64 0, (.int .i64), (some [.int])⟩
theorem ti38_ok : TI.ok Tryd.prog 38 ti38 := ⟨⟨Tryd.t38, by kernel_rfl, by kernel_rfl, by kernel_rfl, by kernel_rfl⟩, by kernel_rfl, by kernel_rfl, Tryd.underlying38, flat_some (by kernel_rfl) (by kernel_rfl)⟩
def ti41 : TI := ⟨1, 24, .slice none 0 0, (.slice 3), none⟩
theorem ti41_ok : TI.ok Tryd.prog 41 ti41 := ⟨⟨Tryd.t41, by kernel_rfl, by kernel_rfl, by kernel_rfl, by kernel_rfl⟩, by kernel_rfl, by kernel_rfl, Tryd.underlying41, flat_none⟩
def ti50 : TI := ⟨4, 4, .agg #[.bool false, .bool false, .bool false, .bool false], (.arr 4 4), (some [.bool, .bool, .bool, .bool])⟩
theorem ti50_ok : TI.ok Tryd.prog 50 ti50 := ⟨⟨Tryd.t50, by kernel_rfl, by kernel_rfl, by kernel_rfl, by kernel_rfl⟩, by kernel_rfl, by kernel_rfl, Tryd.underlying50, flat_some (by kernel_rfl) (by kernel_rfl)⟩
def ti52 : TI := ⟨1, 24, .slice none 0 0, (.slice 9), none⟩
theorem ti52_ok : TI.ok Tryd.prog 52 ti52 := ⟨⟨Tryd.t52, by kernel_rfl, by kernel_rfl, by kernel_rfl, by kernel_rfl⟩, by kernel_rfl, by kernel_rfl, Tryd.underlying52, flat_none⟩
def ti53 : TI := ⟨1, 8, .nilFunc, .func, none⟩
theorem ti53_ok : TI.ok Tryd.prog 53 ti53 := ⟨⟨Tryd.t53, by kernel_rfl, by kernel_rfl, by kernel_rfl, by kernel_rfl⟩, by kernel_rfl, by kernel_rfl, ⟨_, _, _, Tryd.underlying53⟩, flat_none⟩
def ti54 : TI := ⟨1, 8, .nilFunc, .func, none⟩
theorem ti54_ok : TI.ok Tryd.prog 54 ti54 := ⟨⟨Tryd.t54, by kernel_rfl, by kernel_rfl, by kernel_rfl, by kernel_rfl⟩, by kernel_rfl, by kernel_rfl, ⟨_, _, _, Tryd.underlying54⟩, flat_none⟩
def ti57 : TI := ⟨2, 16, .agg #[.int .i64 0, .int .i64 0], (.struct [(0, 3), (1, 3)]), (some [.int, .int])⟩
theorem ti57_ok : TI.ok Tryd.prog 57 ti57 := ⟨⟨Tryd.t57, by kernel_rfl, by kernel_rfl, by kernel_rfl, by kernel_rfl⟩, by kernel_rfl, by kernel_rfl, ⟨_, Tryd.underlying57, by kernel_rfl⟩, flat_some (by kernel_rfl) (by kernel_rfl)⟩
def ti61 : TI := ⟨0, 0, .agg #[], (.struct []), (some [])⟩
theorem ti61_ok : TI.ok Tryd.prog 61 ti61 := ⟨⟨Tryd.t61, by kernel_rfl, by kernel_rfl, by kernel_rfl, by kernel_rfl⟩, by kernel_rfl, by kernel_rfl, ⟨_, Tryd.underlying61, by kernel_rfl⟩, flat_some (by kernel_rfl) (by kernel_rfl)⟩
def ti63 : TI := ⟨1, 8, .pointer none, .ptr, none⟩
theorem ti63_ok : TI.ok Tryd.prog 63 ti63 := ⟨⟨Tryd.t63, by kernel_rfl, by kernel_rfl, by kernel_rfl, by kernel_rfl⟩, by kernel_rfl, by kernel_rfl, ⟨_, Tryd.underlying63⟩, flat_none⟩
def ti65 : TI := ⟨1, 16, .agg #[.string ⟨#[]⟩], (.struct [(0, 9)]), (some [.str])⟩
theorem ti65_ok : TI.ok Tryd.prog 65 ti65 := ⟨⟨Tryd.t65, by kernel_rfl, by kernel_rfl, by kernel_rfl, by kernel_rfl⟩, by kernel_rfl, by kernel_rfl, ⟨_, Tryd.underlying65, by kernel_rfl⟩, flat_some (by kernel_rfl) (by kernel_rfl)⟩
def ti67 : TI := ⟨1, 16, .agg #[.string ⟨#[]⟩], (.struct [(0, 65)]), (some [.str])⟩
theorem ti67_ok : TI.ok Tryd.prog 67 ti67 := ⟨⟨Tryd.t67, by kernel_rfl, by kernel_rfl, by kernel_rfl, by kernel_rfl⟩, by kernel_rfl, by kernel_rfl, ⟨_, Tryd.underlying67, by kernel_rfl⟩, flat_some (by kernel_rfl) (by kernel_rfl)⟩
def ti75 : TI := ⟨1, 24, .slice none 0 0, (.slice 5), none⟩
theorem ti75_ok : TI.ok Tryd.prog 75 ti75 := ⟨⟨Tryd.t75, by kernel_rfl, by kernel_rfl, by kernel_rfl, by kernel_rfl⟩, by kernel_rfl, by kernel_rfl, Tryd.underlying75, flat_none⟩
def ti80 : TI := ⟨1, 16, .nilIface, .iface, none⟩
theorem ti80_ok : TI.ok Tryd.prog 80 ti80 := ⟨⟨Tryd.t80, by kernel_rfl, by kernel_rfl, by kernel_rfl, by kernel_rfl⟩, by kernel_rfl, by kernel_rfl, ⟨_, Tryd.underlying80⟩, flat_none⟩
def ti85 : TI := ⟨1, 8, .pointer none, .ptr, none⟩
theorem ti85_ok : TI.ok Tryd.prog 85 ti85 := ⟨⟨Tryd.t85, by kernel_rfl, by kernel_rfl, by kernel_rfl, by kernel_rfl⟩, by kernel_rfl, by kernel_rfl, ⟨_, Tryd.underlying85⟩, flat_none⟩
def ti90 : TI := ⟨256, 256, .agg #[.bool false, .bool false, .bool false, .bool false, .bool false, .bool false, .bool false, .bool false, .bool false, .bool false, .bool false, .bool false, .bool false, .bool false, .bool false, .bool false, .bool false, .bool false, .bool false, .bool false, .bool false, .bool false, .bool false, .bool false, .bool false, .bool false, .bool false, .bool false, .bool false, .bool false, .bool false, .bool false, .bool false, .bool false, .bool false, .bool false, .bool false, .bool false, .bool false, .bool false, .bool false, .bool false, .bool false, .bool false, .bool false, .bool false, .bool false, .bool false, .bool false, .bool false, .bool false, .bool false, .bool false, .bool false, .bool false, .bool false, .bool false, .bool false, .bool false, .bool false, .bool false, .bool false, .bool false, .bool false, .bool false, .bool false, .bool false, .bool false, .bool false, .bool false, .bool false, .bool false, .bool false, .bool false, .bool false, .bool false, .bool false, .bool false, .bool false, .bool false, .bool false, .bool false, .bool false, .bool false, .bool false, .bool false, .bool false, .bool false, .bool false, .bool false, .bool false, .bool false, .bool false, .bool false, .bool false, .bool false, .bool false, .bool false, .bool false, .bool false, .bool false, .bool false, .bool false, .bool false, .bool false, .bool false, .bool false, .bool false, .bool false, .bool false, .bool false, .bool false, .bool false, .bool false, .bool false, .bool false, .bool false, .bool false, .bool false, .bool false, .bool false, .bool false, .bool false, .bool false, .bool false, .bool false, .bool false, .bool false, .bool false, .bool false, .bool false, .bool false, .bool false, .bool false, .bool false, .bool false, .bool false, .bool false, .bool false, .bool false, .bool false, .bool false, .bool false, .bool false, .bool false, .bool false, .bool false, .bool false, .bool false, .bool false, .bool false, .bool false, .bool false, .bool false, .bool false, .bool false, .bool false, .bool false, .bool false, .bool false, .bool false, .bool false, .bool false, .bool false, .bool false, .bool false, .bool false, .bool false, .bool false, .bool false, .bool false, .bool false, .bool false, .bool false, .bool false, .bool false, .bool false, .bool false, .bool false, .bool false, .bool false, .bool false, .bool false, .bool false, .bool false, .bool false, .bool false, .bool false, .bool false, .bool false, .bool false, .bool false, .bool false, .bool false, .bool false, .bool false, .bool false, .bool false, .bool false, .bool false, .bool false, .bool false, .bool false, .bool false, .bool false, .bool false, .bool false, .bool false, .bool false, .bool false, .bool false, .bool false, .bool false, .bool false, .bool false, .bool false, .bool false, .bool false, .bool false, .bool false, .bool false, .bool false, .bool false, .bool false, .bool false, .bool false, .bool false, .bool false, .bool false, .bool false, .bool false, .bool false, .bool false, .bool false, .bool false, .bool false, .bool false, .bool false, .bool false, .bool false, .bool false, .bool false, .bool false, .bool false, .bool false, .bool false, .bool false, .bool false, .bool false, .bool false, .bool false, .bool false, .bool false, .bool false, .bool false, .bool false], (.arr 256 4), (some [.bool, .bool, .bool, .bool, .bool, .bool, .bool, .bool, .bool, .bool, .bool, .bool, .bool, .bool, .bool, .bool, .bool, .bool, .bool, .bool, .bool, .bool, .bool, .bool, .bool, .bool, .bool, .bool, .bool, .bool, .bool, .bool, .bool, .bool, .bool, .bool, .bool, .bool, .bool, .bool, .bool, .bool, .bool, .bool, .bool, .bool, .bool, .bool, .bool, .bool, .bool, .bool, .bool, .bool, .bool, .bool, .bool, .bool, .bool, .bool, .bool, .bool, .bool, .bool, .bool, .bool, .bool, .bool, .bool, .bool, .bool, .bool, .bool, .bool, .bool, .bool, .bool, .bool, .bool, .bool, .bool, .bool, .bool, .bool, .bool, .bool, .bool, .bool, .bool, .bool, .bool, .bool, .bool, .bool, .bool, .bool, .bool, .bool, .bool, .bool, .bool, .bool, .bool, .bool, .bool, .bool, .bool, .bool, .bool, .bool, .bool, .bool, .bool, .bool, .bool, .bool, .bool, .bool, .bool, .bool, .bool, .bool, .bool, .bool, .bool, .bool, .bool, .bool, .bool, .bool, .bool, .bool, .bool, .bool, .bool, .bool, .bool, .bool, .bool, .bool, .bool, .bool, .bool, .bool, .bool, .bool, .bool, .bool, .bool, .bool, .bool, .bool, .bool, .bool, .bool, .bool, .bool, .bool, .bool, .bool, .bool, .bool, .bool, .bool, .bool, .bool, .bool, .bool, .bool, .bool, .bool, .bool, .bool, .bool, .bool, .bool, .bool, .bool, .bool, .bool, .bool, .bool, .bool, .bool, .bool, .bool, .bool, .bool, .bool, .bool, .bool, .bool, .bool, .bool, .bool, .bool, .bool, .bool, .bool, .bool, .bool, .bool, .bool, .bool, .bool, .bool, .bool, .bool, .bool, .bool, .bool, .bool, .bool, .bool, .bool, .bool, .bool, .bool, .bool, .bool, .bool, .bool, .bool, .bool, .bool, .bool, .bool, .bool, .bool, .bool, .bool, .bool, .bool, .bool, .bool, .bool, .bool, .bool, .bool, .bool, .bool, .bool, .bool, .bool, .bool, .bool, .bool, .bool, .bool, .bool, .bool, .bool, .bool, .bool, .bool, .bool])⟩
theorem ti90_ok : TI.ok Tryd.prog 90 ti90 := ⟨⟨Tryd.t90, by kernel_rfl, by kernel_rfl, by kernel_rfl, by kernel_rfl⟩, by kernel_rfl, by kernel_rfl, Tryd.underlying90, flat_some (by kernel_rfl) (by kernel_rfl)⟩
def ti94 : TI := ⟨1, 8, .pointer none, .ptr, none⟩
theorem ti94_ok : TI.ok Tryd.prog 94 ti94 := ⟨⟨Tryd.t94, by kernel_rfl, by kernel_rfl, by kernel_rfl, by kernel_rfl⟩, by kernel_rfl, by kernel_rfl, ⟨_, Tryd.underlying94⟩, flat_none⟩
def ti102 : TI := ⟨24, 24, .agg #[.int .u8 0, .int .u8 0, .int .u8 0, .int .u8 0, .int .u8 0, .int .u8 0, .int .u8 0, .int .u8 0, .int .u8 0, .int .u8 0, .int .u8 0, .int .u8 0, .int .u8 0, .int .u8 0, .int .u8 0, .int .u8 0, .int .u8 0, .int .u8 0, .int .u8 0, .int .u8 0, .int .u8 0, .int .u8 0, .int .u8 0, .int .u8 0], (.arr 24 5), (some [.int, .int, .int, .int, .int, .int, .int, .int, .int, .int, .int, .int, .int, .int, .int, .int, .int, .int, .int, .int, .int, .int, .int, .int])⟩
theorem ti102_ok : TI.ok Tryd.prog 102 ti102 := ⟨⟨Tryd.t102, by kernel_rfl, by kernel_rfl, by kernel_rfl, by kernel_rfl⟩, by kernel_rfl, by kernel_rfl, Tryd.underlying102, flat_some (by kernel_rfl) (by kernel_rfl)⟩
def ti103 : TI := ⟨1, 8, .int .u64 0, (.int .u64), (some [.int])⟩
theorem ti103_ok : TI.ok Tryd.prog 103 ti103 := ⟨⟨Tryd.t103, by kernel_rfl, by kernel_rfl, by kernel_rfl, by kernel_rfl⟩, by kernel_rfl, by kernel_rfl, Tryd.underlying103, flat_some (by kernel_rfl) (by kernel_rfl)⟩

def TY : TT
  | 1 => some ti1
  | 2 => some ti2
  | 3 => some ti3
  | 4 => some ti4
  | 5 => some ti5
  | 9 => some ti9
  | 20 => some ti20
  | 23 => some ti23
  | 31 => some ti31
  | 33 => some ti33
  | 36 => some ti36
  | 37 => some ti37
  | 38 => some ti38
  | 41 => some ti41
  | 50 => some ti50
  | 52 => some ti52
  | 53 => some ti53
  | 54 => some ti54
  | 57 => some ti57
  | 61 => some ti61
  | 63 => some ti63
  | 65 => some ti65
  | 67 => some ti67
  | 75 => some ti75
  | 80 => some ti80
  | 85 => some ti85
  | 90 => some ti90
  | 94 => some ti94
  | 102 => some ti102
  | 103 => some ti103
  | _ => none

theorem TY_ok : TT.ok Tryd.prog TY := by
  intro t i h
  unfold TY at h
  split at h
  · cases h; exact ti1_ok
  · cases h; exact ti2_ok
  · cases h; exact ti3_ok
  · cases h; exact ti4_ok
  · cases h; exact ti5_ok
  · cases h; exact ti9_ok
  · cases h; exact ti20_ok
  · cases h; exact ti23_ok
  · cases h; exact ti31_ok
  · cases h; exact ti33_ok
  · cases h; exact ti36_ok
  · cases h; exact ti37_ok
  · cases h; exact ti38_ok
  · cases h; exact ti41_ok
  · cases h; exact ti50_ok
  · cases h; exact ti52_ok
  · cases h; exact ti53_ok
  · cases h; exact ti54_ok
  · cases h; exact ti57_ok
  · cases h; exact ti61_ok
  · cases h; exact ti63_ok
  · cases h; exact ti65_ok
  · cases h; exact ti67_ok
  · cases h; exact ti75_ok
  · cases h; exact ti80_ok
  · cases h; exact ti85_ok
  · cases h; exact ti90_ok
  · cases h; exact ti94_ok
  · cases h; exact ti102_ok
  · cases h; exact ti103_ok
  · cases h

theorem TY_1 : TY 1 = some ti1 := rfl
theorem TY_2 : TY 2 = some ti2 := rfl
theorem TY_3 : TY 3 = some ti3 := rfl
theorem TY_4 : TY 4 = some ti4 := rfl
theorem TY_5 : TY 5 = some ti5 := rfl
theorem TY_9 : TY 9 = some ti9 := rfl
theorem TY_20 : TY 20 = some ti20 := rfl
theorem TY_23 : TY 23 = some ti23 := rfl
theorem TY_31 : TY 31 = some ti31 := rfl
theorem TY_33 : TY 33 = some ti33 := rfl
theorem TY_36 : TY 36 = some ti36 := rfl
theorem TY_37 : TY 37 = some ti37 := rfl
theorem TY_38 : TY 38 = some ti38 := rfl
theorem TY_41 : TY 41 = some ti41 := rfl
theorem TY_50 : TY 50 = some ti50 := rfl
theorem TY_52 : TY 52 = some ti52 := rfl
theorem TY_53 : TY 53 = some ti53 := rfl
theorem TY_54 : TY 54 = some ti54 := rfl
theorem TY_57 : TY 57 = some ti57 := rfl
theorem TY_61 : TY 61 = some ti61 := rfl
theorem TY_63 : TY 63 = some ti63 := rfl
theorem TY_65 : TY 65 = some ti65 := rfl
theorem TY_67 : TY 67 = some ti67 := rfl
theorem TY_75 : TY 75 = some ti75 := rfl
theorem TY_80 : TY 80 = some ti80 := rfl
theorem TY_85 : TY 85 = some ti85 := rfl
theorem TY_90 : TY 90 = some ti90 := rfl
theorem TY_94 : TY 94 = some ti94 := rfl
theorem TY_102 : TY 102 = some ti102 := rfl
theorem TY_103 : TY 103 = some ti103 := rfl
end Go.Ab

namespace Go.Ab
open Go.Proofs

theorem codeOk_of {b : Option Code} {n : Nat} (h : b.map (codeOk n) = some true) : ∀ c, b = some c → codeOk n c = true := by
  intro c hc; subst hc; simpa using h

theorem fn4_ok : Tryd.prog.funcs[4]? = some Tryd.f4 ∧ (Tryd.f4.name == "runtime.NumGoroutine") = false ∧ ∀ c, Tryd.f4.body = some c → codeOk Tryd.f4.ntmps c = true :=
  ⟨Tryd.func4, by kernel_rfl, codeOk_of (by kernel_rfl)⟩
theorem fn17_ok : Tryd.prog.funcs[17]? = some Tryd.f17 ∧ (Tryd.f17.name == "runtime.NumGoroutine") = false ∧ ∀ c, Tryd.f17.body = some c → codeOk Tryd.f17.ntmps c = true :=
  ⟨Tryd.func17, by kernel_rfl, codeOk_of (by kernel_rfl)⟩
theorem fn18_ok : Tryd.prog.funcs[18]? = some Tryd.f18 ∧ (Tryd.f18.name == "runtime.NumGoroutine") = false ∧ ∀ c, Tryd.f18.body = some c → codeOk Tryd.f18.ntmps c = true :=
  ⟨Tryd.func18, by kernel_rfl, codeOk_of (by kernel_rfl)⟩
theorem fn22_ok : Tryd.prog.funcs[22]? = some Tryd.f22 ∧ (Tryd.f22.name == "runtime.NumGoroutine") = false ∧ ∀ c, Tryd.f22.body = some c → codeOk Tryd.f22.ntmps c = true :=
  ⟨Tryd.func22, by kernel_rfl, codeOk_of (by kernel_rfl)⟩
theorem fn16_ok : Tryd.prog.funcs[16]? = some Tryd.f16 ∧ (Tryd.f16.name == "runtime.NumGoroutine") = false ∧ ∀ c, Tryd.f16.body = some c → codeOk Tryd.f16.ntmps c = true :=
  ⟨Tryd.func16, by kernel_rfl, codeOk_of (by kernel_rfl)⟩
theorem fn29_ok : Tryd.prog.funcs[29]? = some Tryd.f29 ∧ (Tryd.f29.name == "runtime.NumGoroutine") = false ∧ ∀ c, Tryd.f29.body = some c → codeOk Tryd.f29.ntmps c = true :=
  ⟨Tryd.func29, by kernel_rfl, codeOk_of (by kernel_rfl)⟩
theorem fn8_ok : Tryd.prog.funcs[8]? = some Tryd.f8 ∧ (Tryd.f8.name == "runtime.NumGoroutine") = false ∧ ∀ c, Tryd.f8.body = some c → codeOk Tryd.f8.ntmps c = true :=
  ⟨Tryd.func8, by kernel_rfl, codeOk_of (by kernel_rfl)⟩
theorem fn10_ok : Tryd.prog.funcs[10]? = some Tryd.f10 ∧ (Tryd.f10.name == "runtime.NumGoroutine") = false ∧ ∀ c, Tryd.f10.body = some c → codeOk Tryd.f10.ntmps c = true :=
  ⟨Tryd.func10, by kernel_rfl, codeOk_of (by kernel_rfl)⟩
theorem fn15_ok : Tryd.prog.funcs[15]? = some Tryd.f15 ∧ (Tryd.f15.name == "runtime.NumGoroutine") = false ∧ ∀ c, Tryd.f15.body = some c → codeOk Tryd.f15.ntmps c = true :=
  ⟨Tryd.func15, by kernel_rfl, codeOk_of (by kernel_rfl)⟩
theorem fn21_ok : Tryd.prog.funcs[21]? = some Tryd.f21 ∧ (Tryd.f21.name == "runtime.NumGoroutine") = false ∧ ∀ c, Tryd.f21.body = some c → codeOk Tryd.f21.ntmps c = true :=
  ⟨Tryd.func21, by kernel_rfl, codeOk_of (by kernel_rfl)⟩
theorem fn19_ok : Tryd.prog.funcs[19]? = some Tryd.f19 ∧ (Tryd.f19.name == "runtime.NumGoroutine") = false ∧ ∀ c, Tryd.f19.body = some c → codeOk Tryd.f19.ntmps c = true :=
  ⟨Tryd.func19, by kernel_rfl, codeOk_of (by kernel_rfl)⟩
theorem fn14_ok : Tryd.prog.funcs[14]? = some Tryd.f14 ∧ (Tryd.f14.name == "runtime.NumGoroutine") = false ∧ ∀ c, Tryd.f14.body = some c → codeOk Tryd.f14.ntmps c = true :=
  ⟨Tryd.func14, by kernel_rfl, codeOk_of (by kernel_rfl)⟩
theorem fn13_ok : Tryd.prog.funcs[13]? = some Tryd.f13 ∧ (Tryd.f13.name == "runtime.NumGoroutine") = false ∧ ∀ c, Tryd.f13.body = some c → codeOk Tryd.f13.ntmps c = true :=
  ⟨Tryd.func13, by kernel_rfl, codeOk_of (by kernel_rfl)⟩
theorem fn20_ok : Tryd.prog.funcs[20]? = some Tryd.f20 ∧ (Tryd.f20.name == "runtime.NumGoroutine") = false ∧ ∀ c, Tryd.f20.body = some c → codeOk Tryd.f20.ntmps c = true :=
  ⟨Tryd.func20, by kernel_rfl, codeOk_of (by kernel_rfl)⟩
theorem fn7_ok : Tryd.prog.funcs[7]? = some Tryd.f7 ∧ (Tryd.f7.name == "runtime.NumGoroutine") = false ∧ ∀ c, Tryd.f7.body = some c → codeOk Tryd.f7.ntmps c = true :=
  ⟨Tryd.func7, by kernel_rfl, codeOk_of (by kernel_rfl)⟩
theorem fn11_ok : Tryd.prog.funcs[11]? = some Tryd.f11 ∧ (Tryd.f11.name == "runtime.NumGoroutine") = false ∧ ∀ c, Tryd.f11.body = some c → codeOk Tryd.f11.ntmps c = true :=
  ⟨Tryd.func11, by kernel_rfl, codeOk_of (by kernel_rfl)⟩
theorem fn5_ok : Tryd.prog.funcs[5]? = some Tryd.f5 ∧ (Tryd.f5.name == "runtime.NumGoroutine") = false ∧ ∀ c, Tryd.f5.body = some c → codeOk Tryd.f5.ntmps c = true :=
  ⟨Tryd.func5, by kernel_rfl, codeOk_of (by kernel_rfl)⟩
theorem fn6_ok : Tryd.prog.funcs[6]? = some Tryd.f6 ∧ (Tryd.f6.name == "runtime.NumGoroutine") = false ∧ ∀ c, Tryd.f6.body = some c → codeOk Tryd.f6.ntmps c = true :=
  ⟨Tryd.func6, by kernel_rfl, codeOk_of (by kernel_rfl)⟩
theorem fn27_ok : Tryd.prog.funcs[27]? = some Tryd.f27 ∧ (Tryd.f27.name == "runtime.NumGoroutine") = false ∧ ∀ c, Tryd.f27.body = some c → codeOk Tryd.f27.ntmps c = true :=
  ⟨Tryd.func27, by kernel_rfl, codeOk_of (by kernel_rfl)⟩
theorem fn25_ok : Tryd.prog.funcs[25]? = some Tryd.f25 ∧ (Tryd.f25.name == "runtime.NumGoroutine") = false ∧ ∀ c, Tryd.f25.body = some c → codeOk Tryd.f25.ntmps c = true :=
  ⟨Tryd.func25, by kernel_rfl, codeOk_of (by kernel_rfl)⟩
theorem fn30_ok : Tryd.prog.funcs[30]? = some Tryd.f30 ∧ (Tryd.f30.name == "runtime.NumGoroutine") = false ∧ ∀ c, Tryd.f30.body = some c → codeOk Tryd.f30.ntmps c = true :=
  ⟨Tryd.func30, by kernel_rfl, codeOk_of (by kernel_rfl)⟩
theorem fn24_ok : Tryd.prog.funcs[24]? = some Tryd.f24 ∧ (Tryd.f24.name == "runtime.NumGoroutine") = false ∧ ∀ c, Tryd.f24.body = some c → codeOk Tryd.f24.ntmps c = true :=
  ⟨Tryd.func24, by kernel_rfl, codeOk_of (by kernel_rfl)⟩
theorem fn23_ok : Tryd.prog.funcs[23]? = some Tryd.f23 ∧ (Tryd.f23.name == "runtime.NumGoroutine") = false ∧ ∀ c, Tryd.f23.body = some c → codeOk Tryd.f23.ntmps c = true :=
  ⟨Tryd.func23, by kernel_rfl, codeOk_of (by kernel_rfl)⟩
theorem fn42_ok : Tryd.prog.funcs[42]? = some Tryd.f42 ∧ (Tryd.f42.name == "runtime.NumGoroutine") = false ∧ ∀ c, Tryd.f42.body = some c → codeOk Tryd.f42.ntmps c = true :=
  ⟨Tryd.func42, by kernel_rfl, codeOk_of (by kernel_rfl)⟩
theorem fn43_ok : Tryd.prog.funcs[43]? = some Tryd.f43 ∧ (Tryd.f43.name == "runtime.NumGoroutine") = false ∧ ∀ c, Tryd.f43.body = some c → codeOk Tryd.f43.ntmps c = true :=
  ⟨Tryd.func43, by kernel_rfl, codeOk_of (by kernel_rfl)⟩
theorem fn12_ok : Tryd.prog.funcs[12]? = some Tryd.f12 ∧ (Tryd.f12.name == "runtime.NumGoroutine") = false ∧ ∀ c, Tryd.f12.body = some c → codeOk Tryd.f12.ntmps c = true :=
  ⟨Tryd.func12, by kernel_rfl, codeOk_of (by kernel_rfl)⟩
theorem fn26_ok : Tryd.prog.funcs[26]? = some Tryd.f26 ∧ (Tryd.f26.name == "runtime.NumGoroutine") = false ∧ ∀ c, Tryd.f26.body = some c → codeOk Tryd.f26.ntmps c = true :=
  ⟨Tryd.func26, by kernel_rfl, codeOk_of (by kernel_rfl)⟩
theorem fn31_ok : Tryd.prog.funcs[31]? = some Tryd.f31 ∧ (Tryd.f31.name == "runtime.NumGoroutine") = false ∧ ∀ c, Tryd.f31.body = some c → codeOk Tryd.f31.ntmps c = true :=
  ⟨Tryd.func31, by kernel_rfl, codeOk_of (by kernel_rfl)⟩
theorem fn36_ok : Tryd.prog.funcs[36]? = some Tryd.f36 ∧ (Tryd.f36.name == "runtime.NumGoroutine") = false ∧ ∀ c, Tryd.f36.body = some c → codeOk Tryd.f36.ntmps c = true :=
  ⟨Tryd.func36, by kernel_rfl, codeOk_of (by kernel_rfl)⟩
theorem fn32_ok : Tryd.prog.funcs[32]? = some Tryd.f32 ∧ (Tryd.f32.name == "runtime.NumGoroutine") = false ∧ ∀ c, Tryd.f32.body = some c → codeOk Tryd.f32.ntmps c = true :=
  ⟨Tryd.func32, by kernel_rfl, codeOk_of (by kernel_rfl)⟩
theorem fn33_ok : Tryd.prog.funcs[33]? = some Tryd.f33 ∧ (Tryd.f33.name == "runtime.NumGoroutine") = false ∧ ∀ c, Tryd.f33.body = some c → codeOk Tryd.f33.ntmps c = true :=
  ⟨Tryd.func33, by kernel_rfl, codeOk_of (by kernel_rfl)⟩
theorem fn34_ok : Tryd.prog.funcs[34]? = some Tryd.f34 ∧ (Tryd.f34.name == "runtime.NumGoroutine") = false ∧ ∀ c, Tryd.f34.body = some c → codeOk Tryd.f34.ntmps c = true :=
  ⟨Tryd.func34, by kernel_rfl, codeOk_of (by kernel_rfl)⟩
theorem fn35_ok : Tryd.prog.funcs[35]? = some Tryd.f35 ∧ (Tryd.f35.name == "runtime.NumGoroutine") = false ∧ ∀ c, Tryd.f35.body = some c → codeOk Tryd.f35.ntmps c = true :=
  ⟨Tryd.func35, by kernel_rfl, codeOk_of (by kernel_rfl)⟩
theorem fn37_ok : Tryd.prog.funcs[37]? = some Tryd.f37 ∧ (Tryd.f37.name == "runtime.NumGoroutine") = false ∧ ∀ c, Tryd.f37.body = some c → codeOk Tryd.f37.ntmps c = true :=
  ⟨Tryd.func37, by kernel_rfl, codeOk_of (by kernel_rfl)⟩
theorem fn45_ok : Tryd.prog.funcs[45]? = some Tryd.f45 ∧ (Tryd.f45.name == "runtime.NumGoroutine") = false ∧ ∀ c, Tryd.f45.body = some c → codeOk Tryd.f45.ntmps c = true :=
  ⟨Tryd.func45, by kernel_rfl, codeOk_of (by kernel_rfl)⟩
theorem fn46_ok : Tryd.prog.funcs[46]? = some Tryd.f46 ∧ (Tryd.f46.name == "runtime.NumGoroutine") = false ∧ ∀ c, Tryd.f46.body = some c → codeOk Tryd.f46.ntmps c = true :=
  ⟨Tryd.func46, by kernel_rfl, codeOk_of (by kernel_rfl)⟩
theorem fn47_ok : Tryd.prog.funcs[47]? = some Tryd.f47 ∧ (Tryd.f47.name == "runtime.NumGoroutine") = false ∧ ∀ c, Tryd.f47.body = some c → codeOk Tryd.f47.ntmps c = true :=
  ⟨Tryd.func47, by kernel_rfl, codeOk_of (by kernel_rfl)⟩
theorem fn48_ok : Tryd.prog.funcs[48]? = some Tryd.f48 ∧ (Tryd.f48.name == "runtime.NumGoroutine") = false ∧ ∀ c, Tryd.f48.body = some c → codeOk Tryd.f48.ntmps c = true :=
  ⟨Tryd.func48, by kernel_rfl, codeOk_of (by kernel_rfl)⟩
theorem fn49_ok : Tryd.prog.funcs[49]? = some Tryd.f49 ∧ (Tryd.f49.name == "runtime.NumGoroutine") = false ∧ ∀ c, Tryd.f49.body = some c → codeOk Tryd.f49.ntmps c = true :=
  ⟨Tryd.func49, by kernel_rfl, codeOk_of (by kernel_rfl)⟩
theorem fn50_ok : Tryd.prog.funcs[50]? = some Tryd.f50 ∧ (Tryd.f50.name == "runtime.NumGoroutine") = false ∧ ∀ c, Tryd.f50.body = some c → codeOk Tryd.f50.ntmps c = true :=
  ⟨Tryd.func50, by kernel_rfl, codeOk_of (by kernel_rfl)⟩
theorem fn51_ok : Tryd.prog.funcs[51]? = some Tryd.f51 ∧ (Tryd.f51.name == "runtime.NumGoroutine") = false ∧ ∀ c, Tryd.f51.body = some c → codeOk Tryd.f51.ntmps c = true :=
  ⟨Tryd.func51, by kernel_rfl, codeOk_of (by kernel_rfl)⟩
theorem fn54_ok : Tryd.prog.funcs[54]? = some Tryd.f54 ∧ (Tryd.f54.name == "runtime.NumGoroutine") = false ∧ ∀ c, Tryd.f54.body = some c → codeOk Tryd.f54.ntmps c = true :=
  ⟨Tryd.func54, by kernel_rfl, codeOk_of (by kernel_rfl)⟩
theorem fn59_ok : Tryd.prog.funcs[59]? = some Tryd.f59 ∧ (Tryd.f59.name == "runtime.NumGoroutine") = false ∧ ∀ c, Tryd.f59.body = some c → codeOk Tryd.f59.ntmps c = true :=
  ⟨Tryd.func59, by kernel_rfl, codeOk_of (by kernel_rfl)⟩
theorem fn60_ok : Tryd.prog.funcs[60]? = some Tryd.f60 ∧ (Tryd.f60.name == "runtime.NumGoroutine") = false ∧ ∀ c, Tryd.f60.body = some c → codeOk Tryd.f60.ntmps c = true :=
  ⟨Tryd.func60, by kernel_rfl, codeOk_of (by kernel_rfl)⟩
theorem fn64_ok : Tryd.prog.funcs[64]? = some Tryd.f64 ∧ (Tryd.f64.name == "runtime.NumGoroutine") = false ∧ ∀ c, Tryd.f64.body = some c → codeOk Tryd.f64.ntmps c = true :=
  ⟨Tryd.func64, by kernel_rfl, codeOk_of (by kernel_rfl)⟩
theorem fn75_ok : Tryd.prog.funcs[75]? = some Tryd.f75 ∧ (Tryd.f75.name == "runtime.NumGoroutine") = false ∧ ∀ c, Tryd.f75.body = some c → codeOk Tryd.f75.ntmps c = true :=
  ⟨Tryd.func75, by kernel_rfl, codeOk_of (by kernel_rfl)⟩
theorem fn9_ok : Tryd.prog.funcs[9]? = some Tryd.f9 ∧ (Tryd.f9.name == "runtime.NumGoroutine") = false ∧ ∀ c, Tryd.f9.body = some c → codeOk Tryd.f9.ntmps c = true :=
  ⟨Tryd.func9, by kernel_rfl, codeOk_of (by kernel_rfl)⟩
noncomputable def FN : FuncId → Option Func
  | 4 => some Tryd.f4
  | 17 => some Tryd.f17
  | 18 => some Tryd.f18
  | 22 => some Tryd.f22
  | 16 => some Tryd.f16
  | 29 => some Tryd.f29
  | 8 => some Tryd.f8
  | 10 => some Tryd.f10
  | 15 => some Tryd.f15
  | 21 => some Tryd.f21
  | 19 => some Tryd.f19
  | 14 => some Tryd.f14
  | 13 => some Tryd.f13
  | 20 => some Tryd.f20
  | 7 => some Tryd.f7
  | 11 => some Tryd.f11
  | 5 => some Tryd.f5
  | 6 => some Tryd.f6
  | 27 => some Tryd.f27
  | 25 => some Tryd.f25
  | 30 => some Tryd.f30
  | 24 => some Tryd.f24
  | 23 => some Tryd.f23
  | 42 => some Tryd.f42
  | 43 => some Tryd.f43
  | 12 => some Tryd.f12
  | 26 => some Tryd.f26
  | 31 => some Tryd.f31
  | 36 => some Tryd.f36
  | 32 => some Tryd.f32
  | 33 => some Tryd.f33
  | 34 => some Tryd.f34
  | 35 => some Tryd.f35
  | 37 => some Tryd.f37
  | 45 => some Tryd.f45
  | 46 => some Tryd.f46
  | 47 => some Tryd.f47
  | 48 => some Tryd.f48
  | 49 => some Tryd.f49
  | 50 => some Tryd.f50
  | 51 => some Tryd.f51
  | 54 => some Tryd.f54
  | 59 => some Tryd.f59
  | 60 => some Tryd.f60
  | 64 => some Tryd.f64
  | 75 => some Tryd.f75
  | 9 => some Tryd.f9
  | _ => none
theorem FN_ok : ∀ f fn, FN f = some fn → Tryd.prog.funcs[f]? = some fn ∧ (fn.name == "runtime.NumGoroutine") = false ∧ ∀ c, fn.body = some c → codeOk fn.ntmps c = true := by
  intro f fn h
  unfold FN at h
  split at h
  · cases h; exact fn4_ok
  · cases h; exact fn17_ok
  · cases h; exact fn18_ok
  · cases h; exact fn22_ok
  · cases h; exact fn16_ok
  · cases h; exact fn29_ok
  · cases h; exact fn8_ok
  · cases h; exact fn10_ok
  · cases h; exact fn15_ok
  · cases h; exact fn21_ok
  · cases h; exact fn19_ok
  · cases h; exact fn14_ok
  · cases h; exact fn13_ok
  · cases h; exact fn20_ok
  · cases h; exact fn7_ok
  · cases h; exact fn11_ok
  · cases h; exact fn5_ok
  · cases h; exact fn6_ok
  · cases h; exact fn27_ok
  · cases h; exact fn25_ok
  · cases h; exact fn30_ok
  · cases h; exact fn24_ok
  · cases h; exact fn23_ok
  · cases h; exact fn42_ok
  · cases h; exact fn43_ok
  · cases h; exact fn12_ok
  · cases h; exact fn26_ok
  · cases h; exact fn31_ok
  · cases h; exact fn36_ok
  · cases h; exact fn32_ok
  · cases h; exact fn33_ok
  · cases h; exact fn34_ok
  · cases h; exact fn35_ok
  · cases h; exact fn37_ok
  · cases h; exact fn45_ok
  · cases h; exact fn46_ok
  · cases h; exact fn47_ok
  · cases h; exact fn48_ok
  · cases h; exact fn49_ok
  · cases h; exact fn50_ok
  · cases h; exact fn51_ok
  · cases h; exact fn54_ok
  · cases h; exact fn59_ok
  · cases h; exact fn60_ok
  · cases h; exact fn64_ok
  · cases h; exact fn75_ok
  · cases h; exact fn9_ok
  · cases h

noncomputable def XX (fuel : Nat) : XC := { T := TY, fn := FN, lib := fun _ _ _ => none, seqs := fun _ _ _ => none, own := fun _ => false, fuel }
def pm (a b c d : Int) : Value := .agg #[.int .i64 a, .int .i64 b, .int .i64 c, .int .i64 d]
def okRet (x : Option (AOut × Heap)) (v : Value) : Bool := match x with | some (.ret u, []) => veq u v | _ => false
end Go.Ab
