/- Lists of numbers set and grown in the heap. Conditions: none beyond the given model and program. -/
import Derived.Test.YtnimgapjllhccaaGreatDoorGq
import Derived.Test.YtnimgapjllhccaaGreatDoorGa
namespace Go.Ab
open Go.Proofs

theorem splice_set {o : List Int} {v : Nat} {k : Int} (hv : v < o.length) : splice (ints o) v [.int .i64 k] = ints (o.set v k) := by
  refine List.ext_getElem? fun i => ?_
  rw [splice_get (by simp [ints_length]; omega)]
  simp only [ints, List.getElem?_map, List.getElem?_set]
  by_cases h : v = i
  · subst h; simp [hv]
  · rw [if_neg (by simp; omega), if_neg h]
theorem wr_int {h : Heap} {b v : Nat} {o : List Int} {k : Int} (hb : hblk h b = some ⟨ints o, true⟩) (hv : v < o.length) : writeCells h ⟨b, 0 + v * 1, none⟩ [.int .i64 k] = some (h.set b (some ⟨ints (o.set v k), true⟩)) := by
  simp only [writeCells, hb, ints_length]
  rw [if_pos (by simp; omega)]
  simp only [Nat.zero_add, Nat.mul_one]
  rw [splice_set hv]

theorem TY36 : TY 36 = some ti36 := rfl
theorem TY3 : TY 3 = some ti3 := rfl
theorem app_own36 {n0 b n c : Nat} {h : Heap} {q : List Int} {u : Int} {w : Bool} (hb : hblk h b = some ⟨ints q, true⟩) (hn0 : n0 ≤ b) (hc : hblk h c = some ⟨[.int .i64 u], w⟩) (hq : q.length = n) (hbig : n ≤ 1000000) :
    aAppend TY n0 36 36 (oS b n) (oS c 1) h = some (oS h.length (n + 1), h.set b none ++ [some ⟨ints (q ++ [u]), true⟩]) := by
  rw [show ints (q ++ [u]) = ints q ++ [.int .i64 u] from ints_append _ _]
  have hx : cellsOf h 1 (.slice (some ⟨c, 0, none⟩) 1 1) = some [.int .i64 u] := by simp [cellsOf, readCells, hc]
  have hone : [Value.int .i64 u].all Value.oneCell' = true := rfl
  simp only [aAppend, TY36, TY3, Option.bind_some, ti36, ti3, oS, hx]
  simp only [hb, hn0, hone, ints_length, hq, isStr, List.length_cons, List.length_nil]
  simp
  omega

/-- A frame over other blocks. -/
def renFr (ks : List Nat) : List (Nat × Value) → Option (List (Nat × Value))
  | [] => some []
  | p :: q => match renV (fun i => posOf i ks 0) p.2 with
    | some v => match renFr ks q with
      | some l => some ((p.1, v) :: l)
      | none => none
    | none => none
theorem renFr_get {ks : List Nat} : ∀ {l l1 : List (Nat × Value)}, renFr ks l = some l1 → ∀ p ∈ l1, ∃ u, (p.1, u) ∈ l ∧ renV (fun i => posOf i ks 0) u = some p.2 := by
  intro l
  induction l with
  | nil => intro l1 h p hp; simp [renFr] at h; subst h; cases hp
  | cons a q ih =>
    intro l1 h p hp
    simp only [renFr] at h
    split at h
    · rename_i v hv
      split at h
      · rename_i l2 hl2
        cases h
        rcases List.mem_cons.1 hp with rfl | hp
        · exact ⟨a.2, .head _, hv⟩
        · obtain ⟨u, h1, h2⟩ := ih hl2 p hp
          exact ⟨u, .tail _ h1, h2⟩
      · cases h
    · cases h
theorem Ref.ord {n0 N : Nat} {e : Env} {h0 h1 : Heap} {ks : List Nat} {l0 l1 : List (Nat × Value)} (ho : orderOk n0 ks = true) (hp : PickB (ks.map some) h0 ks h1) (hf : flags n0 h1 = flags n0 h0) (hl : renFr ks l0 = some l1) (he : ∀ p ∈ l0, e p.1 = some p.2) : Ref n0 (envL (mkE N l1)) h1 e h0 := by
  refine Ref.pick ho hp hf fun p hpp => ?_
  obtain ⟨u, h2, h3⟩ := renFr_get hl p hpp
  have hfk : ∀ i k, posOf i ks 0 = some k → (ks.map some)[k]? = some (some i) := by
    intro i k hp
    obtain ⟨_, h2⟩ := posOf_get ks 0 k hp
    rw [List.getElem?_map, show k = k - 0 by omega, h2]; rfl
  exact ⟨u, he _ h2, renV_sub hfk u p.2 h3⟩

section
variable {M : Mk} {x : List Int} {s : List Int × List Int}
theorem gq_stay {i : Nat} (h : (gq M x s i).2.length ≤ i) : ∀ j, gq M x s (i + j) = gq M x s i
  | 0 => rfl
  | j + 1 => by
    rw [show i + (j + 1) = i + j + 1 by omega, gq, gq_stay h j, if_neg (by omega)]
theorem gq_end {n i : Nat} (h : (gq M x s i).2.length ≤ i) (hi : i ≤ n) : gq M x s n = gq M x s i := by
  have := gq_stay h (n - i)
  rwa [show i + (n - i) = n by omega] at this
end
end Go.Ab
