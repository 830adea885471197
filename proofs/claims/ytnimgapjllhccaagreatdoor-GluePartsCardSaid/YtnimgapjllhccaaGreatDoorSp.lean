/- Reading and building lists of tetrahedra. Conditions: none beyond the given model and program. -/
import Derived.Test.YtnimgapjllhccaaGreatDoorVa
import Derived.Test.YtnimgapjllhccaaGreatDoorIt
import Derived.Test.YtnimgapjllhccaaGreatDoorAbD
namespace Go.Ab
open Go.Proofs

def cel (x : List Int) (o : Nat) : Int := x.getD o 0
def pmAt (x : List Int) (o : Nat) : Pm := ⟨cel x o, cel x (o + 1), cel x (o + 2), cel x (o + 3)⟩

/-- A face as the cells hold it. -/
structure Fc where
  u : Int
  p : Pm
def Fc.cells (f : Fc) : List Value := [.int .i64 f.u, .int .i64 f.p.a, .int .i64 f.p.b, .int .i64 f.p.c, .int .i64 f.p.d]
def Fc.ints (f : Fc) : List Int := [f.u, f.p.a, f.p.b, f.p.c, f.p.d]
def fcAt (x : List Int) (o : Nat) : Fc := ⟨cel x o, pmAt x (o + 1)⟩
/-- The face f of tetrahedron t. -/
def fc (x : List Int) (t f : Nat) : Fc := fcAt x (20 * t + 5 * f)
def Fc.free (f : Fc) : Bool := f.u == -1 && eqP f.p .zero

theorem cells_ints (x : List Int) (o k : Nat) (h : o + k ≤ x.length) : ((ints x).drop o).take k = (List.range k).map fun i => .int .i64 (cel x (o + i)) := by
  refine List.ext_getElem? fun i => ?_
  rw [List.getElem?_take, List.getElem?_drop, ints, List.getElem?_map, List.getElem?_map]
  by_cases hi : i < k
  · rw [if_pos hi, List.getElem?_range hi, List.getElem?_eq_getElem (by omega)]
    simp [cel, List.getD_eq_getElem?_getD, List.getElem?_eq_getElem (show o + i < x.length by omega)]
  · rw [if_neg hi, List.getElem?_eq_none (by simp; omega)]
    rfl

theorem rd_face {x : List Int} {h : Heap} {b o : Nat} {w : Bool} (hb : hblk h b = some ⟨ints x, w⟩) (ho : o + 5 ≤ x.length) : readCells h ⟨b, o, none⟩ 5 = some (fcAt x o).cells := by
  unfold readCells
  rw [hb]
  simp only [ints_length, true_and, if_pos ho]
  rw [cells_ints x o 5 ho]
  rfl
theorem rd_tet {x : List Int} {h : Heap} {b o : Nat} {w : Bool} (hb : hblk h b = some ⟨ints x, w⟩) (ho : o + 20 ≤ x.length) :
    readCells h ⟨b, o, none⟩ 20 = some ((fcAt x o).cells ++ (fcAt x (o + 5)).cells ++ (fcAt x (o + 10)).cells ++ (fcAt x (o + 15)).cells) := by
  unfold readCells
  rw [hb]
  simp only [ints_length, true_and, if_pos ho]
  rw [cells_ints x o 20 ho]
  rfl

-- directives
def dd (l : List ((Nat × Nat) × (Option Bool × Td))) : Nat → Nat → Option Bool × Td := fun r i => match l with
  | [] => (none, .auto)
  | p :: q => match Nat.beq p.1.1 r && Nat.beq p.1.2 i with
    | true => p.2
    | false => dd q r i
def kk (l : List (Nat × Bool)) : Nat → Option Bool := fun t => match l with
  | [] => none
  | p :: q => match Nat.beq p.1 t with
    | true => some p.2
    | false => kk q t
abbrev LoopD := List Nat × (List (Nat × Value) → Heap → AX × List (Nat × Value) × Heap)
def noloop : Nat → Option LoopD := fun _ => none
def loops (l : List (Nat × LoopD)) : Nat → Option LoopD := fun t => match l with
  | [] => none
  | p :: q => match Nat.beq p.1 t with
    | true => some p.2
    | false => loops q t
def ldC (cs : List Value) : Option Bool × Td := (none, .ld fun _ _ => cs)
def ldF (f : Fc) : Option Bool × Td := ldC f.cells
def ixD : Option Bool × Td := (none, .ix)
def plD (v : Value) : Option Bool × Td := (none, .pl fun _ _ => v)
def ansD (v : Value) (g : Heap → Heap) : Option Bool × Td := (none, .ans fun _ h => (v, g h))
def knowD (b : Bool) : Option Bool × Td := (some b, .auto)

/-- The slice of a gluing's tetrahedra in block b. -/
def gS (b n : Nat) : Value := .slice (some ⟨b, 0, none⟩) n 20
def gV (b n : Nat) : Value := .agg ⟨[gS b n]⟩

/-- A face is one of a valid gluing. -/
def faceOk (n : Nat) (x : List Int) (t f : Nat) : Bool :=
  let a := fc x t f
  a.free || (decide (0 ≤ a.u) && (decide (a.u < n) && (a.p.valid && (!(a.u == t && a.p.at f == f) && (let b := fc x a.u.toNat (a.p.at f).toNat; b.u == t && eqP b.p (inverseP a.p))))))
def checkB (n : Nat) (x : List Int) : Bool := decide (n ≤ 1000) && (List.range n).all fun t => (List.range 4).all fun f => faceOk n x t f
/-- The error of a gluing. -/
def chk (n : Nat) (x : List Int) : Int := if checkB n x = true then 0 else 7
end Go.Ab

namespace Go.Ab
open Go.Proofs

abbrev FF := Nat → Nat → Fc
def row (F : FF) (t : Nat) : List Int := (F t 0).ints ++ ((F t 1).ints ++ ((F t 2).ints ++ (F t 3).ints))
def rowC (F : FF) (t : Nat) : List Value := (F t 0).cells ++ ((F t 1).cells ++ ((F t 2).cells ++ (F t 3).cells))
def build : Nat → FF → List Int
  | 0, _ => []
  | n + 1, F => build n F ++ row F n

theorem row_length (F : FF) (t : Nat) : (row F t).length = 20 := rfl
theorem build_length (F : FF) : ∀ n, (build n F).length = 20 * n
  | 0 => rfl
  | n + 1 => by simp only [build, List.length_append, build_length F n, row_length]; omega
theorem ints_row (F : FF) (t : Nat) : ints (row F t) = rowC F t := rfl
theorem ints_append (x y : List Int) : ints (x ++ y) = ints x ++ ints y := by simp [ints]

theorem build_get (F : FF) {t i : Nat} (hi : i < 20) : ∀ n, t < n → (build n F)[20 * t + i]? = (row F t)[i]? := by
  intro n
  induction n with
  | zero => intro h; omega
  | succ n ih =>
    intro h
    simp only [build]
    by_cases ht : t < n
    · rw [List.getElem?_append_left (by rw [build_length]; omega), ih ht]
    · have : t = n := by omega
      subst this
      rw [List.getElem?_append_right (by rw [build_length]; omega), build_length]
      congr 1; omega

theorem cel_build {F : FF} {n t i : Nat} (ht : t < n) (hi : i < 20) : cel (build n F) (20 * t + i) = cel (row F t) i := by
  simp only [cel, List.getD_eq_getElem?_getD, build_get F hi n ht]

theorem fc_build {F : FF} {n t f : Nat} (ht : t < n) (hf : f < 4) : fc (build n F) t f = F t f := by
  have h : f = 0 ∨ f = 1 ∨ f = 2 ∨ f = 3 := by omega
  simp only [fc, fcAt, pmAt]
  rw [show 20 * t + 5 * f + 1 = 20 * t + (5 * f + 1) by omega, show 20 * t + (5 * f + 1) + 1 = 20 * t + (5 * f + 2) by omega, show 20 * t + (5 * f + 1) + 2 = 20 * t + (5 * f + 3) by omega, show 20 * t + (5 * f + 1) + 3 = 20 * t + (5 * f + 4) by omega,
    cel_build ht (by omega), cel_build ht (by omega), cel_build ht (by omega), cel_build ht (by omega), cel_build ht (by omega)]
  rcases h with rfl | rfl | rfl | rfl <;> rfl

theorem row_fc {x : List Int} {t : Nat} : row (fc x) t = (List.range 20).map fun i => cel x (20 * t + i) := rfl

theorem build_fc {x : List Int} {n : Nat} (hx : x.length = 20 * n) : build n (fc x) = x := by
  refine List.ext_getElem? fun i => ?_
  by_cases hi : i < 20 * n
  · have := build_get (fc x) (t := i / 20) (i := i % 20) (by omega) n (by omega)
    rw [show 20 * (i / 20) + i % 20 = i by omega] at this
    rw [this, row_fc, List.getElem?_map, List.getElem?_range (by omega)]
    rw [List.getElem?_eq_getElem (show i < x.length by omega)]
    simp only [Option.map_some, cel, show 20 * (i / 20) + i % 20 = i by omega, List.getD_eq_getElem?_getD, List.getElem?_eq_getElem (show i < x.length by omega), Option.getD_some]
  · rw [List.getElem?_eq_none (by rw [build_length]; omega), List.getElem?_eq_none (by omega)]

theorem build_congr {F G : FF} : ∀ {n : Nat}, (∀ t f, t < n → f < 4 → F t f = G t f) → build n F = build n G
  | 0, _ => rfl
  | n + 1, h => by
    simp only [build]
    rw [build_congr (n := n) fun t f ht hf => h t f (by omega) hf]
    simp only [row]
    rw [h n 0 (by omega) (by omega), h n 1 (by omega) (by omega), h n 2 (by omega) (by omega), h n 3 (by omega) (by omega)]

/-- One face is another one. -/
def upd (F : FF) (t f : Nat) (c : Fc) : FF := fun t' f' => if t' = t ∧ f' = f then c else F t' f'

theorem build_append (F G : FF) (n : Nat) : ∀ m, build n F ++ build m G = build (n + m) fun t f => if t < n then F t f else G (t - n) f
  | 0 => by
    simp only [build, List.append_nil, Nat.add_zero]
    exact build_congr fun t f ht _ => by rw [if_pos ht]
  | m + 1 => by
    rw [show n + (m + 1) = n + m + 1 by omega]
    simp only [build]
    rw [← build_append F G n m, List.append_assoc]
    congr 2
    simp only [row, if_neg (show ¬ n + m < n by omega), show n + m - n = m by omega]
end Go.Ab
