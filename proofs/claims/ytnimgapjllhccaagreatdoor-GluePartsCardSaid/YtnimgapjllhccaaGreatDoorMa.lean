/- Matching of parts in plain words; lists of arrays in the heap. Conditions: none beyond the given model and program. -/
import Derived.Test.YtnimgapjllhccaaGreatDoorPx
import Derived.Test.YtnimgapjllhccaaGreatDoorVd
import Derived.Test.YtnimgapjllhccaaGreatDoorTy
namespace Go.Ab
open Go.Proofs

-- lists of arrays, by a function
def pms (n : Nat) (B : Nat → Pm) : List Int := inl (4 * n) fun i => (B (i / 4)).at ((i % 4 : Nat) : Int)
theorem pms_length (n : Nat) (B : Nat → Pm) : (pms n B).length = 4 * n := inl_length _ _
theorem pms_cel {n v f : Nat} {B : Nat → Pm} (hv : v < n) (hf : f < 4) : cel (pms n B) (4 * v + f) = (B v).at (f : Nat) := by
  unfold pms
  rw [cel_inl (by omega), show (4 * v + f) / 4 = v by omega, show (4 * v + f) % 4 = f by omega]
theorem pms_at {n v : Nat} {B : Nat → Pm} (hv : v < n) : pmAt (pms n B) (4 * v) = B v := by
  unfold pmAt
  have h0 := pms_cel (B := B) hv (show 0 < 4 by omega)
  have h1 := pms_cel (B := B) hv (show 1 < 4 by omega)
  have h2 := pms_cel (B := B) hv (show 2 < 4 by omega)
  have h3 := pms_cel (B := B) hv (show 3 < 4 by omega)
  rw [show 4 * v + 0 = 4 * v by omega] at h0
  rw [h0, h1, h2, h3]
  rfl
theorem splice_pms {n v : Nat} {B : Nat → Pm} {w : Pm} (hv : v < n) : splice (ints (pms n B)) (4 * v) (pmL w) = ints (pms n fun u => if u = v then w else B u) := by
  refine List.ext_getElem? fun i => ?_
  rw [splice_get (by simp [ints_length, pms_length, pmL]; omega)]
  simp only [ints, pms, inl, List.getElem?_map]
  by_cases hi : i < 4 * n
  · rw [List.getElem?_range hi]
    by_cases h2 : 4 * v ≤ i ∧ i < 4 * v + (pmL w).length
    · rw [if_pos h2]
      have h3 : i < 4 * v + 4 := h2.2
      have h4 : i / 4 = v := by omega
      simp only [Option.map_some, h4, if_true]
      have : i - 4 * v = 0 ∨ i - 4 * v = 1 ∨ i - 4 * v = 2 ∨ i - 4 * v = 3 := by omega
      rcases this with h5 | h5 | h5 | h5
      · rw [h5, show i % 4 = 0 by omega]; rfl
      · rw [h5, show i % 4 = 1 by omega]; rfl
      · rw [h5, show i % 4 = 2 by omega]; rfl
      · rw [h5, show i % 4 = 3 by omega]; rfl
    · rw [if_neg h2]
      have h3 : ¬ (4 * v ≤ i ∧ i < 4 * v + 4) := h2
      have h4 : i / 4 ≠ v := by omega
      simp only [Option.map_some, if_neg h4]
  · have h3 : ¬ (4 * v ≤ i ∧ i < 4 * v + (pmL w).length) := by show ¬ (4 * v ≤ i ∧ i < 4 * v + 4); omega
    rw [if_neg h3, List.getElem?_eq_none (by simp; omega)]
    rfl
theorem wr_pms {h : Heap} {b n v : Nat} {B : Nat → Pm} {w : Pm} (hb : hblk h b = some ⟨ints (pms n B), true⟩) (hv : v < n) : writeCells h ⟨b, 0 + v * 4, none⟩ (pmL w) = some (h.set b (some ⟨ints (pms n fun u => if u = v then w else B u), true⟩)) := by
  simp only [writeCells, hb, ints_length, pms_length]
  rw [if_pos (by show True ∧ True ∧ 0 + v * 4 + 4 ≤ 4 * n; exact ⟨trivial, trivial, by omega⟩), show 0 + v * 4 = 4 * v by omega, splice_pms hv]
theorem mk43 {n : Nat} {h : Heap} (hn : n ≤ 1000) : aMakeSlice TY 43 (.int .i64 n) (.int .i64 n) h = some (pS h.length n, h ++ [some ⟨ints (pms n fun _ => .zero), true⟩]) := by
  have t1 : TY 43 = some ti43 := rfl
  have t2 : TY 32 = some ti32 := rfl
  simp only [aMakeSlice, t1, t2, Option.bind_some, ti43, ti32]
  rw [if_pos (by refine ⟨by omega, by omega, by omega, by omega, by omega⟩)]
  have e : zcells (Value.agg #[.int .i64 0, .int .i64 0, .int .i64 0, .int .i64 0]).cells.toList ((n : Int).toNat) = ints (pms n fun _ => .zero) := by
    simp only [zcells, ints, pms, inl, Int.toNat_natCast, List.map_map]
    refine List.ext_getElem? fun i => ?_
    simp only [List.getElem?_map, Value.cells]
    by_cases hi : i < 4 * n
    · rw [List.getElem?_range (by simp; omega), List.getElem?_range hi]
      simp only [Option.map_some, Function.comp]
      have h1 : i % 4 = 0 ∨ i % 4 = 1 ∨ i % 4 = 2 ∨ i % 4 = 3 := by omega
      have h2 : ([Value.int IntKind.i64 0, .int .i64 0, .int .i64 0, .int .i64 0] : List Value).length = 4 := rfl
      rw [h2]
      rcases h1 with h1 | h1 | h1 | h1 <;> rw [h1] <;> rfl
    · have e1 : (List.range (n * [Value.int IntKind.i64 0, .int .i64 0, .int .i64 0, .int .i64 0].length))[i]? = none := List.getElem?_eq_none (by simp; omega)
      have e2 : (List.range (4 * n))[i]? = none := List.getElem?_eq_none (by simp; omega)
      rw [e1, e2]
      rfl
  rw [e]
  simp [pS]

/-- How far a matching is: where tetrahedra go, how their vertices go, what is taken, the list. -/
structure MS where
  T : Nat → Int
  B : Nat → Pm
  g : Nat → Bool
  q : List Int
def fset {α : Type} (F : Nat → α) (v : Nat) (w : α) : Nat → α := fun u => if u = v then w else F u
def wantP (b : Pm) (q : Pm) (a : Pm) : Pm := composeP b (composeP q (inverseP a))
/-- The face on the other side. -/
def otherF (y : List Int) (s : MS) (v f : Nat) : Fc := fc y (s.T v).toNat ((s.B v).at (f : Nat)).toNat
/-- One face: nothing is wrong, or something is. -/
def mF (x y : List Int) (s : MS) (v f : Nat) : Option MS :=
  let a := fc x v f
  let b := otherF y s v f
  if ilt a.u 0 = true ∨ ilt b.u 0 = true then (if a.u = b.u then some s else none)
  else if ilt (s.T a.u.toNat) 0 = true then
    (if s.g b.u.toNat = true then none else some ⟨fset s.T a.u.toNat b.u, fset s.B a.u.toNat (wantP b.p (s.B v) a.p), fset s.g b.u.toNat true, s.q ++ [a.u]⟩)
  else if s.T a.u.toNat = b.u ∧ eqP (s.B a.u.toNat) (wantP b.p (s.B v) a.p) = true then some s else none
def mT (x y : List Int) (s : MS) (v : Nat) : Nat → Option MS
  | 0 => some s
  | m + 1 => (mT x y s v m).bind fun s => mF x y s v m
def mQ (x y : List Int) (s : MS) : Nat → Option MS
  | 0 => some s
  | i + 1 => (mQ x y s i).bind fun s => if i < s.q.length then mT x y s (cel s.q i).toNat 4 else some s
def mStart (t u : Nat) (p : Pm) : MS := ⟨fset (fun _ => -1) t u, fset (fun _ => .zero) t p, fset (fun _ => false) u true, [(t : Int)]⟩
/-- Whether the part of t is that of u, vertices of t mapped by p. -/
def mRes (x y : List Int) (n t u : Nat) (p : Pm) : Bool := (mQ x y (mStart t u p) n).isSome
end Go.Ab

namespace Go.Ab
open Go.Proofs

-- the arrays by their number
def nthP (p : Nat) : Pm := l24.getD p .zero
theorem nth_k : (List.range 24).map (fun p : Nat => Rt (pmv (nthP p))) = (List.range 24).map (fun p : Nat => sFun Tryz.prog TY A0 200 Tryz.f53 [.int .i64 p] [] fun o _ => o = .ret (pmv (nthP p))) := by kernel_rfl
theorem nth53 {p : Nat} (hp : p < 24) : Plain Tryz.prog 53 [.int .i64 p] (pmv (nthP p)) :=
  Plain.of_fun (S := A0) (k := 200) TY_ok mixed fn53_ok (by simp [plain]) rfl (A := Rt (pmv (nthP p))) (rt _) (List.map_inj_left.1 nth_k p (List.mem_range.2 hp))
theorem nthP_valid {p : Nat} (hp : p < 24) : (nthP p).valid = true := by
  have h : (List.range 24).all (fun p => (nthP p).valid) = true := by decide +kernel
  exact List.all_eq_true.1 h p (List.mem_range.2 hp)
theorem nthP_all {q : Pm} (hq : q.valid = true) : ∃ p, p < 24 ∧ nthP p = q := by
  obtain ⟨i, hi, h⟩ := List.getElem_of_mem (mem24 hq)
  refine ⟨i, hi, ?_⟩
  simp [nthP, List.getD_eq_getElem?_getD, List.getElem?_eq_getElem hi, h]

end Go.Ab
