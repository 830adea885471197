/- The function Union of the specification answers for all gluings. Conditions: none beyond the given model and program. -/
import Derived.Test.YtnimgapjllhccaaGreatDoorMv
namespace Go.Ab
open Go.Proofs

theorem hblk_roH {h : Heap} {b : Nat} {bl : Blk} (hb : hblk h b = some bl) : hblk (roH h) b = some ⟨bl.cells, false⟩ := by
  unfold hblk at hb ⊢
  simp only [roH, List.getElem?_map]
  cases hy : h[b]? with
  | none => simp [hy] at hb
  | some y => rw [hy] at hb; simp at hb; subst hb; rfl

theorem emb_one {h : Heap} {b : Nat} {x : List Int} {w : Bool} (hb : hblk h b = some ⟨ints x, w⟩) : Emb [some b] [some ⟨ints x, false⟩] (roH h) := by
  refine ⟨rfl, ?_, ?_⟩
  · intro i b2 hi
    match i with
    | 0 => simp [hblk] at hi; subst hi; exact .inl ⟨b, _, rfl, hblk_roH hb, subL_plain _ _ (ints_plain _), fun hh => by cases hh⟩
    | i + 1 => simp [hblk] at hi
  · intro i j k b2 b2' _ hi ho
    match i with
    | 0 => simp [hblk] at hi; subst hi; cases ho
    | i + 1 => simp [hblk] at hi

theorem emb_two {h : Heap} {b c : Nat} {x y : List Int} {w w' : Bool} (hb : hblk h b = some ⟨ints x, w⟩) (hc : hblk h c = some ⟨ints y, w'⟩) : Emb [some b, some c] [some ⟨ints x, false⟩, some ⟨ints y, false⟩] (roH h) := by
  refine ⟨rfl, ?_, ?_⟩
  · intro i b2 hi
    match i with
    | 0 => simp [hblk] at hi; subst hi; exact .inl ⟨b, _, rfl, hblk_roH hb, subL_plain _ _ (ints_plain _), fun hh => by cases hh⟩
    | 1 => simp [hblk] at hi; subst hi; exact .inl ⟨c, _, rfl, hblk_roH hc, subL_plain _ _ (ints_plain _), fun hh => by cases hh⟩
    | i + 2 => simp [hblk] at hi
  · intro i j k b2 b2' _ hi ho
    match i with
    | 0 => simp [hblk] at hi; subst hi; cases ho
    | 1 => simp [hblk] at hi; subst hi; cases ho
    | i + 2 => simp [hblk] at hi

/-- The slice as a part of the heap shows it. -/
theorem sub_gS {s : List (Option Nat)} {i b n : Nat} (h : s[i]? = some (some b)) : sub s (gS i n) (gS b n) := .inr ⟨b, h, rfl⟩
theorem sub_gV {s : List (Option Nat)} {i b n : Nat} (h : s[i]? = some (some b)) : sub s (gV i n) (gV b n) := ⟨[gS b n], rfl, gS b n, [], rfl, sub_gS h, rfl⟩

theorem gives_one {f : FuncId} {x : List Int} {n b : Nat} {h : Heap} {w : Bool} {v : Value} (hs : Sum Tryz.prog f [gV 0 n] [some ⟨ints x, false⟩] fun o _ => o = .ret v) (hv : plain v = true) (hb : hblk h b = some ⟨ints x, w⟩) :
    Gives Tryz.prog f [gV b n] h (.ret v) h ∧ ∃ y, h = h ++ y :=
  gives_plain hs rfl (emb_one hb) ⟨_, _, rfl, sub_gV rfl, rfl⟩ hv
theorem gives_two {f : FuncId} {x y : List Int} {n m b c : Nat} {h : Heap} {w w' : Bool} {v : Value} (hs : Sum Tryz.prog f [gV 0 n, gV 1 m] [some ⟨ints x, false⟩, some ⟨ints y, false⟩] fun o _ => o = .ret v) (hv : plain v = true) (hb : hblk h b = some ⟨ints x, w⟩) (hc : hblk h c = some ⟨ints y, w'⟩) :
    Gives Tryz.prog f [gV b n, gV c m] h (.ret v) h ∧ ∃ y, h = h ++ y :=
  gives_plain hs rfl (emb_two hb hc) ⟨_, _, rfl, sub_gV rfl, _, _, rfl, sub_gV rfl, rfl⟩ hv

/-- A result that is a new gluing, with an error number. -/
def gRes (b n : Nat) (k : Int) : Value := .tuple ⟨[gV b n, .int .i64 k]⟩
def gErr (k : Int) : Value := .tuple ⟨[.agg ⟨[.slice none 0 0]⟩, .int .i64 k]⟩
theorem gives_one_new {f : FuncId} {x z : List Int} {n m b : Nat} {h : Heap} {w : Bool} {k : Int} (hs : Sum Tryz.prog f [gV 0 n] [some ⟨ints x, false⟩] fun o h2 => o = .ret (gRes 1 m k) ∧ h2 = [some ⟨ints x, false⟩] ++ [some ⟨ints z, true⟩]) (hb : hblk h b = some ⟨ints x, w⟩) :
    Gives Tryz.prog f [gV b n] h (.ret (gRes h.length m k)) (h ++ [some ⟨ints z, true⟩]) ∧ ∃ y, h ++ [some ⟨ints z, true⟩] = h ++ y := by
  have := gives_new hs rfl (emb_one hb) (xs := [gV b n]) ⟨_, _, rfl, sub_gV rfl, rfl⟩
  simp only [List.map_cons, List.map_nil, renB, renL_eq] at this
  have e : (ints z).map (ren (backF [some b] h.length)) = ints z := by simp [ints, ren]
  rw [e] at this
  exact this
theorem gives_two_new {f : FuncId} {x y z : List Int} {n m b c j : Nat} {h : Heap} {w w' : Bool} {k : Int} (hs : Sum Tryz.prog f [gV 0 n, gV 1 m] [some ⟨ints x, false⟩, some ⟨ints y, false⟩] fun o h2 => o = .ret (gRes 2 j k) ∧ h2 = [some ⟨ints x, false⟩, some ⟨ints y, false⟩] ++ [some ⟨ints z, true⟩]) (hb : hblk h b = some ⟨ints x, w⟩) (hc : hblk h c = some ⟨ints y, w'⟩) :
    Gives Tryz.prog f [gV b n, gV c m] h (.ret (gRes h.length j k)) (h ++ [some ⟨ints z, true⟩]) ∧ ∃ y, h ++ [some ⟨ints z, true⟩] = h ++ y := by
  have := gives_new hs rfl (emb_two hb hc) (xs := [gV b n, gV c m]) ⟨_, _, rfl, sub_gV rfl, _, _, rfl, sub_gV rfl, rfl⟩
  simp only [List.map_cons, List.map_nil, renB, renL_eq] at this
  have e : (ints z).map (ren (backF [some b, some c] h.length)) = ints z := by simp [ints, ren]
  rw [e] at this
  exact this
end Go.Ab
