/- The answers at gluings that the examples ask for. Conditions: none beyond the given model and program. -/
import Derived.Test.YtnimgapjllhccaaGreatDoorMe
namespace Go.Ab
open Go.Proofs
def g_xs : List Int := [0, 1, 0, 2, 3, 0, 1, 0, 2, 3, 0, 0, 1, 3, 2, 0, 0, 1, 3, 2]
def g_xt : List Int := [0, 1, 0, 2, 3, 0, 1, 0, 2, 3, 0, 0, 1, 3, 2, 0, 0, 1, 3, 2, 1, 1, 0, 2, 3, 1, 1, 0, 2, 3, 1, 0, 1, 3, 2, 1, 0, 1, 3, 2]
def g_xd : List Int := [1, 0, 1, 2, 3, 1, 0, 1, 2, 3, 1, 0, 1, 2, 3, 1, 0, 1, 2, 3, 0, 0, 1, 2, 3, 0, 0, 1, 2, 3, 0, 0, 1, 2, 3, 0, 0, 1, 2, 3]
def g_xf : List Int := [-1, 0, 0, 0, 0, -1, 0, 0, 0, 0, -1, 0, 0, 0, 0, -1, 0, 0, 0, 0]
def g_xb : List Int := [0, 0, 1, 2, 3, -1, 0, 0, 0, 0, -1, 0, 0, 0, 0, -1, 0, 0, 0, 0]
def mt1 : Memo := ⟨29, 1, g_xs, .tuple #[st [49, 32, 48, 32, 49, 48, 50, 51, 32, 48, 32, 49, 48, 50, 51, 32, 48, 32, 48, 49, 51, 50, 32, 48, 32, 48, 49, 51, 50], .int .i64 0], []⟩
theorem mt1_ok : mt1.ok := memo_of XC3_ok _ (by kernel_rfl)
def mo : Memo := ⟨14, 1, g_xs, .tuple #[.slice (some ⟨1, 0, none⟩) 1 1, .bool true, .int .i64 0], [some ⟨[.int .i64 1], true⟩]⟩
theorem mo_ok : mo.ok := memo_of XC3_ok _ (by kernel_rfl)
def m2 : Memo := ⟨11, 1, g_xs, .tuple #[.agg #[.slice (some ⟨1, 0, none⟩) 2 20], .int .i64 0], [some ⟨ints g_xt, true⟩]⟩
theorem m2_ok : m2.ok := memo_of XC3_ok _ (by kernel_rfl)
def md : Memo := ⟨12, 1, g_xf, .tuple #[.agg #[.slice (some ⟨1, 0, none⟩) 2 20], .int .i64 0], [some ⟨ints g_xd, true⟩]⟩
theorem md_ok : md.ok := memo_of XC3_ok _ (by kernel_rfl)
def mt2 : Memo := ⟨29, 2, g_xt, .tuple #[st [50, 32, 48, 32, 49, 48, 50, 51, 32, 48, 32, 49, 48, 50, 51, 32, 48, 32, 48, 49, 51, 50, 32, 48, 32, 48, 49, 51, 50, 32, 49, 32, 49, 48, 50, 51, 32, 49, 32, 49, 48, 50, 51, 32, 49, 32, 48, 49, 51, 50, 32, 49, 32, 48, 49, 51, 50], .int .i64 0], []⟩
theorem mt2_ok : mt2.ok := memo_of XC3_ok _ (by kernel_rfl)
def mt3 : Memo := ⟨29, 2, g_xd, .tuple #[st [50, 32, 49, 32, 48, 49, 50, 51, 32, 49, 32, 48, 49, 50, 51, 32, 49, 32, 48, 49, 50, 51, 32, 49, 32, 48, 49, 50, 51, 32, 48, 32, 48, 49, 50, 51, 32, 48, 32, 48, 49, 50, 51, 32, 48, 32, 48, 49, 50, 51, 32, 48, 32, 48, 49, 50, 51], .int .i64 0], []⟩
theorem mt3_ok : mt3.ok := memo_of XC3_ok _ (by kernel_rfl)
def mc1 : Memo := ⟨13, 1, g_xb, .int .i64 7, []⟩
theorem mc1_ok : mc1.ok := memo_of XC3_ok _ (by kernel_rfl)
def mc2 : Memo := ⟨13, 1, g_xs, .int .i64 0, []⟩
theorem mc2_ok : mc2.ok := memo_of XC3_ok _ (by kernel_rfl)
def tblS : List Memo := [mt1, mo, m2, md, mt2, mt3, mc1, mc2]
theorem tblS_ok : ∀ m ∈ tblS, m.ok := by
  intro m hm
  simp only [tblS, List.mem_cons, List.not_mem_nil, or_false] at hm
  rcases hm with rfl | rfl | rfl | rfl | rfl | rfl | rfl | rfl
  · exact mt1_ok
  · exact mo_ok
  · exact m2_ok
  · exact md_ok
  · exact mt2_ok
  · exact mt3_ok
  · exact mc1_ok
  · exact mc2_ok
end Go.Ab
