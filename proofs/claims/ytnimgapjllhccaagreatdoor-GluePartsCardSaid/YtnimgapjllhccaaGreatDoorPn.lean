/- Faces of a valid gluing; reading one number. Conditions: none beyond the given model and program. -/
import Derived.Test.YtnimgapjllhccaaGreatDoorMv
import Derived.Test.YtnimgapjllhccaaGreatDoorRc
import Derived.Test.YtnimgapjllhccaaGreatDoorRu
import Derived.Test.YtnimgapjllhccaaGreatDoorVd
namespace Go.Ab
open Go.Proofs

theorem rd_cell {x : List Int} {h : Heap} {b o : Nat} {w : Bool} (hb : hblk h b = some ⟨ints x, w⟩) (ho : o + 1 ≤ x.length) : readCells h ⟨b, o, none⟩ 1 = some [.int .i64 (cel x o)] := by
  unfold readCells
  rw [hb]
  simp only [ints_length, true_and, if_pos ho]
  rw [cells_ints x o 1 ho]
  rfl

/-- What is known of a face of a valid gluing. -/
theorem face_of_chk {x : List Int} {n t f : Nat} (hc : chk n x = 0) (ht : t < n) (hf : f < 4) : ((fc x t f).u = -1 ∧ (fc x t f).p = .zero) ∨ (0 ≤ (fc x t f).u ∧ (fc x t f).u < n ∧ (fc x t f).p.valid = true) := by
  have h : faceOk n x t f = true := by
    unfold chk at hc
    split at hc
    · rename_i h
      simp only [checkB, Bool.and_eq_true] at h
      exact List.all_eq_true.1 (List.all_eq_true.1 h.2 t (List.mem_range.2 ht)) f (List.mem_range.2 hf)
    · cases hc
  unfold faceOk at h
  simp only [Bool.or_eq_true, Bool.and_eq_true, decide_eq_true_eq] at h
  rcases h with h | h
  · left
    simp only [Fc.free, Bool.and_eq_true, beq_iff_eq] at h
    exact ⟨h.1, eqP_iff.1 h.2⟩
  · right
    exact ⟨h.1, h.2.1, h.2.2.1⟩

theorem hv_of_chk {x : List Int} {n : Nat} (hc : chk n x = 0) : ∀ t f, t < n → f < 4 → ile 0 (fc x t f).u = true → (fc x t f).p.valid = true := by
  intro t f ht hf h
  rw [ile_eq] at h
  rcases face_of_chk hc ht hf with h2 | h2
  · rw [h2.1] at h; simp at h
  · exact h2.2.2
end Go.Ab
