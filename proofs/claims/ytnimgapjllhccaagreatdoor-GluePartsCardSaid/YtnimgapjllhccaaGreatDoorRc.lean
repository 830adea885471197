/- The function Check of the specification answers as a plain function, for all gluings. Conditions: none beyond the given model and program. -/
import Derived.Test.YtnimgapjllhccaaGreatDoorSp
import Derived.Test.YtnimgapjllhccaaGreatDoorVd

namespace Go.Ab
open Go.Proofs

/-- The heap of a function over one gluing: the cells, a box of the argument. -/
def hG (x : List Int) (n : Nat) : Heap := [some ⟨ints x, false⟩, some ⟨[gS 0 n], true⟩]
theorem hG_closed (x : List Int) (n : Nat) : closedH 2 (hG x n) :=
  closedH_cons (subL_plain _ _ (ints_plain x)) (closedH_cons (belowL_sub _ rfl) closedH_nil)
theorem hG_rd {x : List Int} {n o : Nat} (ho : o + 5 ≤ x.length) : readCells (hG x n) ⟨0, o, none⟩ 5 = some (fcAt x o).cells := rd_face (w := false) rfl ho

namespace RC
def eC (n t f : Nat) : List (Nat × Value) := [(1, .pointer (some ⟨1, 0, none⟩)), (2, .int .i64 0), (3, .int .i64 n), (4, .int .i64 t), (5, .int .i64 f)]
def eR (n t : Nat) : List (Nat × Value) := [(1, .pointer (some ⟨1, 0, none⟩)), (2, .int .i64 7), (3, .int .i64 n)]
def eT (n t : Nat) : List (Nat × Value) := [(1, .pointer (some ⟨1, 0, none⟩)), (2, .int .i64 0), (3, .int .i64 n), (4, .int .i64 t)]
def d1 (a : Fc) : List ((Nat × Nat) × (Option Bool × Td)) := [((10, 4), ixD), ((10, 5), ixD), ((10, 6), ldF a)]
def sc (d : List ((Nat × Nat) × (Option Bool × Td))) (k : List (Nat × Bool)) : Ts := { dir := dd d, know := kk k, loop := noloop }
abbrev O1 (x : List Int) (n t f : Nat) (a : Fc) (X : Prop) : Prop :=
  ilt (f : Int) 4 = true ∧ (0 ≤ (t : Int) ∧ (t : Int) < (n : Int)) ∧ (0 ≤ (f : Int) ∧ (f : Int) < ((4 : Nat) : Int)) ∧ readCells (hG x n) ⟨0, 0 + t * 20 + f * 5, none⟩ 5 = some a.cells ∧ X

def B (x : List Int) (n t f : Nat) (ax : AX) (l : List (Nat × Value)) : Prop := Comes none ([], true) Tryz.prog 83 1 (lb Tryz.f10 2) (eC n t f) (hG x n) ax l (hG x n)

theorem ok2 : codeOk 83 (lb Tryz.f10 2) = true := by kernel_rfl

theorem bEnd {x : List Int} {n t f : Nat} (h1 : ilt (f : Int) 4 = false) : B x n t f (.exit 2) (eT n t) :=
  comes_run (S := sc [] [(18, false)]) (k := 60) (ts := [1, 2, 3, 4]) (junk := []) (A := ilt (f : Int) 4 = false ∧ Dn (.exit 2) (eT n t) (hG x n)) TY_ok mixed ok2 (show 1 ≤ (hG x n).length from Nat.le_of_ble_eq_true rfl) (hG_closed x n) rfl ⟨h1, dn _ _ _⟩ (by kernel_rfl)
/-- A free face. -/
theorem bFree {x : List Int} {n t f : Nat} {a : Fc}  {X : Prop} (h : O1 x n t f a X) (h1 : (a.u == -1) = true) (h2 : eqP a.p .zero = true) (hw : IntKind.i64.wrap ((f : Int) + 1) = ((f + 1 : Nat) : Int)) : B x n t f .normal (eC n t (f + 1)) := by
  have : B x n t f .normal [(1, .pointer (some ⟨1, 0, none⟩)), (2, .int .i64 0), (3, .int .i64 n), (4, .int .i64 t), (5, .int .i64 (IntKind.i64.wrap ((f : Int) + 1)))] := comes_run (r := none) (bs := ([], true)) (S := sc (d1 a ++ [((11, 4), knowD true)]) [(18, true), (36, true)]) (k := 60) (ts := [1, 2, 3, 4, 5]) (junk := [some ⟨a.cells, true⟩]) (h1 := hG x n)
    (l0 := [(1, .pointer (some ⟨1, 0, none⟩)), (2, .int .i64 0), (3, .int .i64 n), (4, .int .i64 t), (5, .int .i64 (IntKind.i64.wrap ((f : Int) + 1)))])
    (A := O1 x n t f a (((a.u == -1) = true) ∧ (eqP a.p .zero = true) ∧ Dn .normal ([(1, .pointer (some ⟨1, 0, none⟩)), (2, .int .i64 0), (3, .int .i64 n), (4, .int .i64 t), (5, .int .i64 (IntKind.i64.wrap ((f : Int) + 1)))]) (hG x n ++ [some ⟨a.cells, true⟩])))
    TY_ok mixed ok2 (Nat.le_of_ble_eq_true rfl) (hG_closed x n) rfl ⟨h.1, h.2.1, h.2.2.1, h.2.2.2.1, h1, h2, dn _ _ _⟩ (by kernel_rfl)
  rw [hw] at this
  exact this
/-- No face, and not free. -/
theorem bNeg0 {x : List Int} {n t f : Nat} {a : Fc}  {X : Prop} (h : O1 x n t f a X) (h1 : (a.u == -1) = true) (h2 : eqP a.p .zero = false) (h3 : ilt a.u 0 = true) : B x n t f .ret (eR n t) :=
  comes_run (r := none) (bs := ([], true)) (S := sc (d1 a ++ [((11, 4), knowD true), ((12, 4), knowD true)]) [(18, true), (36, false)]) (k := 60) (ts := [1, 2, 3]) (junk := [some ⟨a.cells, true⟩]) (h1 := hG x n)
    (l0 := eR n t)
    (A := O1 x n t f a (((a.u == -1) = true) ∧ (eqP a.p .zero = false) ∧ (ilt a.u 0 = true) ∧ Dn .ret (eR n t) (hG x n ++ [some ⟨a.cells, true⟩])))
    TY_ok mixed ok2 (Nat.le_of_ble_eq_true rfl) (hG_closed x n) rfl ⟨h.1, h.2.1, h.2.2.1, h.2.2.2.1, h1, h2, h3, dn _ _ _⟩ (by kernel_rfl)
/-- A negative number. -/
theorem bNeg {x : List Int} {n t f : Nat} {a : Fc}  {X : Prop} (h : O1 x n t f a X) (h1 : (a.u == -1) = false) (h3 : ilt a.u 0 = true) : B x n t f .ret (eR n t) :=
  comes_run (r := none) (bs := ([], true)) (S := sc (d1 a ++ [((11, 4), knowD false), ((12, 4), knowD true)]) [(18, true)]) (k := 60) (ts := [1, 2, 3]) (junk := [some ⟨a.cells, true⟩]) (h1 := hG x n)
    (l0 := eR n t)
    (A := O1 x n t f a (((a.u == -1) = false) ∧ (ilt a.u 0 = true) ∧ Dn .ret (eR n t) (hG x n ++ [some ⟨a.cells, true⟩])))
    TY_ok mixed ok2 (Nat.le_of_ble_eq_true rfl) (hG_closed x n) rfl ⟨h.1, h.2.1, h.2.2.1, h.2.2.2.1, h1, h3, dn _ _ _⟩ (by kernel_rfl)
/-- A number too great. -/
theorem bBig {x : List Int} {n t f : Nat} {a : Fc}  {X : Prop} (h : O1 x n t f a X) (h1 : (a.u == -1) = false) (h3 : ilt a.u 0 = false) (h4 : ile (n : Int) a.u = true) : B x n t f .ret (eR n t) :=
  comes_run (r := none) (bs := ([], true)) (S := sc (d1 a ++ [((11, 4), knowD false), ((12, 4), knowD false), ((12, 10), knowD true)]) [(18, true)]) (k := 60) (ts := [1, 2, 3]) (junk := [some ⟨a.cells, true⟩]) (h1 := hG x n)
    (l0 := eR n t)
    (A := O1 x n t f a (((a.u == -1) = false) ∧ (ilt a.u 0 = false) ∧ (ile (n : Int) a.u = true) ∧ Dn .ret (eR n t) (hG x n ++ [some ⟨a.cells, true⟩])))
    TY_ok mixed ok2 (Nat.le_of_ble_eq_true rfl) (hG_closed x n) rfl ⟨h.1, h.2.1, h.2.2.1, h.2.2.2.1, h1, h3, h4, dn _ _ _⟩ (by kernel_rfl)
/-- No permutation. -/
theorem bInv {x : List Int} {n t f : Nat} {a : Fc}  {X : Prop} (h : O1 x n t f a X) (h1 : (a.u == -1) = false) (h3 : ilt a.u 0 = false) (h4 : ile (n : Int) a.u = false) (h5 : Plain Tryz.prog 38 [pmv a.p] (.bool false)) : B x n t f .ret (eR n t) :=
  comes_run (r := none) (bs := ([], true)) (S := sc (d1 a ++ [((11, 4), knowD false), ((12, 4), knowD false), ((12, 10), knowD false), ((12, 12), plD (.bool false))]) [(18, true)]) (k := 60) (ts := [1, 2, 3]) (junk := [some ⟨a.cells, true⟩]) (h1 := hG x n)
    (l0 := eR n t)
    (A := O1 x n t f a (((a.u == -1) = false) ∧ (ilt a.u 0 = false) ∧ (ile (n : Int) a.u = false) ∧ (Plain Tryz.prog 38 [pmv a.p] (.bool false)) ∧ Dn .ret (eR n t) (hG x n ++ [some ⟨a.cells, true⟩])))
    TY_ok mixed ok2 (Nat.le_of_ble_eq_true rfl) (hG_closed x n) rfl ⟨h.1, h.2.1, h.2.2.1, h.2.2.2.1, h1, h3, h4, h5, dn _ _ _⟩ (by kernel_rfl)
/-- A face that is glued to itself. -/
theorem bFix {x : List Int} {n t f : Nat} {a : Fc} {q : Int} {X : Prop} (h : O1 x n t f a X) (h1 : (a.u == -1) = false) (h3 : ilt a.u 0 = false) (h4 : ile (n : Int) a.u = false) (h5 : Plain Tryz.prog 38 [pmv a.p] (.bool true)) (h6 : (a.u == (t : Int)) = true) (h7 : 0 ≤ (f : Int) ∧ (f : Int) < ((4 : Nat) : Int)) (h8 : readCells (hG x n ++ [some ⟨a.cells, true⟩]) ⟨2, 1 + f * 1, none⟩ 1 = some [.int .i64 q]) (h9 : (q == (f : Int)) = true) : B x n t f .ret (eR n t) :=
  comes_run (r := none) (bs := ([], true)) (S := sc (d1 a ++ [((11, 4), knowD false), ((12, 4), knowD false), ((12, 10), knowD false), ((12, 12), plD (.bool true)), ((12, 21), knowD true), ((12, 23), ixD), ((12, 24), ldC [.int .i64 q])]) [(18, true), (65, true)]) (k := 60) (ts := [1, 2, 3]) (junk := [some ⟨a.cells, true⟩]) (h1 := hG x n)
    (l0 := eR n t)
    (A := O1 x n t f a (((a.u == -1) = false) ∧ (ilt a.u 0 = false) ∧ (ile (n : Int) a.u = false) ∧ (Plain Tryz.prog 38 [pmv a.p] (.bool true)) ∧ ((a.u == (t : Int)) = true) ∧ (0 ≤ (f : Int) ∧ (f : Int) < ((4 : Nat) : Int)) ∧ (readCells (hG x n ++ [some ⟨a.cells, true⟩]) ⟨2, 1 + f * 1, none⟩ 1 = some [.int .i64 q]) ∧ ((q == (f : Int)) = true) ∧ Dn .ret (eR n t) (hG x n ++ [some ⟨a.cells, true⟩])))
    TY_ok mixed ok2 (Nat.le_of_ble_eq_true rfl) (hG_closed x n) rfl ⟨h.1, h.2.1, h.2.2.1, h.2.2.2.1, h1, h3, h4, h5, h6, h7, h8, h9, dn _ _ _⟩ (by kernel_rfl)
/-- A face and the face where it is glued. -/
theorem bSelfGood {x : List Int} {n t f : Nat} {a : Fc} {q : Int} {b : Fc} {X : Prop} (h : O1 x n t f a X) (h1 : (a.u == -1) = false) (h3 : ilt a.u 0 = false) (h4 : ile (n : Int) a.u = false) (h5 : Plain Tryz.prog 38 [pmv a.p] (.bool true)) (h6 : (a.u == (t : Int)) = true) (h7 : 0 ≤ (f : Int) ∧ (f : Int) < ((4 : Nat) : Int)) (h8 : readCells (hG x n ++ [some ⟨a.cells, true⟩]) ⟨2, 1 + f * 1, none⟩ 1 = some [.int .i64 q]) (h9 : (q == (f : Int)) = false) (k1 : 0 ≤ (f : Int) ∧ (f : Int) < ((4 : Nat) : Int)) (k2 : readCells (hG x n ++ [some ⟨a.cells, true⟩]) ⟨2, 1 + f * 1, none⟩ 1 = some [.int .i64 q]) (k3 : 0 ≤ a.u ∧ a.u < (n : Int)) (k4 : 0 ≤ q ∧ q < ((4 : Nat) : Int)) (k5 : readCells (hG x n ++ [some ⟨a.cells, true⟩]) ⟨0, 0 + a.u.toNat * 20 + q.toNat * 5, none⟩ 5 = some b.cells) (k6 : Plain Tryz.prog 28 [pmv a.p] (pmv (inverseP a.p))) (k7 : (!(b.u == (t : Int) && eqP b.p (inverseP a.p))) = false) (hw : IntKind.i64.wrap ((f : Int) + 1) = ((f + 1 : Nat) : Int)) : B x n t f .normal (eC n t (f + 1)) := by
  have : B x n t f .normal [(1, .pointer (some ⟨1, 0, none⟩)), (2, .int .i64 0), (3, .int .i64 n), (4, .int .i64 t), (5, .int .i64 (IntKind.i64.wrap ((f : Int) + 1)))] := comes_run (r := none) (bs := ([], true)) (S := sc (d1 a ++ [((11, 4), knowD false), ((12, 4), knowD false), ((12, 10), knowD false), ((12, 12), plD (.bool true)), ((12, 21), knowD true), ((12, 23), ixD), ((12, 24), ldC [.int .i64 q]), ((14, 6), ixD), ((14, 7), ldC [.int .i64 q]), ((14, 8), ixD), ((14, 9), ixD), ((14, 10), ldF b), ((14, 14), plD (pmv (inverseP a.p)))]) [(18, true), (65, false), (82, false)]) (k := 60) (ts := [1, 2, 3, 4, 5]) (junk := [some ⟨a.cells, true⟩]) (h1 := hG x n)
    (l0 := [(1, .pointer (some ⟨1, 0, none⟩)), (2, .int .i64 0), (3, .int .i64 n), (4, .int .i64 t), (5, .int .i64 (IntKind.i64.wrap ((f : Int) + 1)))])
    (A := O1 x n t f a (((a.u == -1) = false) ∧ (ilt a.u 0 = false) ∧ (ile (n : Int) a.u = false) ∧ (Plain Tryz.prog 38 [pmv a.p] (.bool true)) ∧ ((a.u == (t : Int)) = true) ∧ (0 ≤ (f : Int) ∧ (f : Int) < ((4 : Nat) : Int)) ∧ (readCells (hG x n ++ [some ⟨a.cells, true⟩]) ⟨2, 1 + f * 1, none⟩ 1 = some [.int .i64 q]) ∧ ((q == (f : Int)) = false) ∧ (0 ≤ (f : Int) ∧ (f : Int) < ((4 : Nat) : Int)) ∧ (readCells (hG x n ++ [some ⟨a.cells, true⟩]) ⟨2, 1 + f * 1, none⟩ 1 = some [.int .i64 q]) ∧ (0 ≤ a.u ∧ a.u < (n : Int)) ∧ (0 ≤ q ∧ q < ((4 : Nat) : Int)) ∧ (readCells (hG x n ++ [some ⟨a.cells, true⟩]) ⟨0, 0 + a.u.toNat * 20 + q.toNat * 5, none⟩ 5 = some b.cells) ∧ (Plain Tryz.prog 28 [pmv a.p] (pmv (inverseP a.p))) ∧ ((!(b.u == (t : Int) && eqP b.p (inverseP a.p))) = false) ∧ Dn .normal ([(1, .pointer (some ⟨1, 0, none⟩)), (2, .int .i64 0), (3, .int .i64 n), (4, .int .i64 t), (5, .int .i64 (IntKind.i64.wrap ((f : Int) + 1)))]) (hG x n ++ [some ⟨a.cells, true⟩])))
    TY_ok mixed ok2 (Nat.le_of_ble_eq_true rfl) (hG_closed x n) rfl ⟨h.1, h.2.1, h.2.2.1, h.2.2.2.1, h1, h3, h4, h5, h6, h7, h8, h9, k1, k2, k3, k4, k5, k6, k7, dn _ _ _⟩ (by kernel_rfl)
  rw [hw] at this
  exact this
/-- A face and the face where it is glued. -/
theorem bSelfBad {x : List Int} {n t f : Nat} {a : Fc} {q : Int} {b : Fc} {X : Prop} (h : O1 x n t f a X) (h1 : (a.u == -1) = false) (h3 : ilt a.u 0 = false) (h4 : ile (n : Int) a.u = false) (h5 : Plain Tryz.prog 38 [pmv a.p] (.bool true)) (h6 : (a.u == (t : Int)) = true) (h7 : 0 ≤ (f : Int) ∧ (f : Int) < ((4 : Nat) : Int)) (h8 : readCells (hG x n ++ [some ⟨a.cells, true⟩]) ⟨2, 1 + f * 1, none⟩ 1 = some [.int .i64 q]) (h9 : (q == (f : Int)) = false) (k1 : 0 ≤ (f : Int) ∧ (f : Int) < ((4 : Nat) : Int)) (k2 : readCells (hG x n ++ [some ⟨a.cells, true⟩]) ⟨2, 1 + f * 1, none⟩ 1 = some [.int .i64 q]) (k3 : 0 ≤ a.u ∧ a.u < (n : Int)) (k4 : 0 ≤ q ∧ q < ((4 : Nat) : Int)) (k5 : readCells (hG x n ++ [some ⟨a.cells, true⟩]) ⟨0, 0 + a.u.toNat * 20 + q.toNat * 5, none⟩ 5 = some b.cells) (k6 : Plain Tryz.prog 28 [pmv a.p] (pmv (inverseP a.p))) (k7 : (!(b.u == (t : Int) && eqP b.p (inverseP a.p))) = true) : B x n t f .ret (eR n t) :=
  comes_run (r := none) (bs := ([], true)) (S := sc (d1 a ++ [((11, 4), knowD false), ((12, 4), knowD false), ((12, 10), knowD false), ((12, 12), plD (.bool true)), ((12, 21), knowD true), ((12, 23), ixD), ((12, 24), ldC [.int .i64 q]), ((14, 6), ixD), ((14, 7), ldC [.int .i64 q]), ((14, 8), ixD), ((14, 9), ixD), ((14, 10), ldF b), ((14, 14), plD (pmv (inverseP a.p)))]) [(18, true), (65, false), (82, true)]) (k := 60) (ts := [1, 2, 3]) (junk := [some ⟨a.cells, true⟩]) (h1 := hG x n)
    (l0 := eR n t)
    (A := O1 x n t f a (((a.u == -1) = false) ∧ (ilt a.u 0 = false) ∧ (ile (n : Int) a.u = false) ∧ (Plain Tryz.prog 38 [pmv a.p] (.bool true)) ∧ ((a.u == (t : Int)) = true) ∧ (0 ≤ (f : Int) ∧ (f : Int) < ((4 : Nat) : Int)) ∧ (readCells (hG x n ++ [some ⟨a.cells, true⟩]) ⟨2, 1 + f * 1, none⟩ 1 = some [.int .i64 q]) ∧ ((q == (f : Int)) = false) ∧ (0 ≤ (f : Int) ∧ (f : Int) < ((4 : Nat) : Int)) ∧ (readCells (hG x n ++ [some ⟨a.cells, true⟩]) ⟨2, 1 + f * 1, none⟩ 1 = some [.int .i64 q]) ∧ (0 ≤ a.u ∧ a.u < (n : Int)) ∧ (0 ≤ q ∧ q < ((4 : Nat) : Int)) ∧ (readCells (hG x n ++ [some ⟨a.cells, true⟩]) ⟨0, 0 + a.u.toNat * 20 + q.toNat * 5, none⟩ 5 = some b.cells) ∧ (Plain Tryz.prog 28 [pmv a.p] (pmv (inverseP a.p))) ∧ ((!(b.u == (t : Int) && eqP b.p (inverseP a.p))) = true) ∧ Dn .ret (eR n t) (hG x n ++ [some ⟨a.cells, true⟩])))
    TY_ok mixed ok2 (Nat.le_of_ble_eq_true rfl) (hG_closed x n) rfl ⟨h.1, h.2.1, h.2.2.1, h.2.2.2.1, h1, h3, h4, h5, h6, h7, h8, h9, k1, k2, k3, k4, k5, k6, k7, dn _ _ _⟩ (by kernel_rfl)
/-- A face and the face where it is glued. -/
theorem bOthGood {x : List Int} {n t f : Nat} {a : Fc} {q : Int} {b : Fc} {X : Prop} (h : O1 x n t f a X) (h1 : (a.u == -1) = false) (h3 : ilt a.u 0 = false) (h4 : ile (n : Int) a.u = false) (h5 : Plain Tryz.prog 38 [pmv a.p] (.bool true)) (h6 : (a.u == (t : Int)) = false) (k1 : 0 ≤ (f : Int) ∧ (f : Int) < ((4 : Nat) : Int)) (k2 : readCells (hG x n ++ [some ⟨a.cells, true⟩]) ⟨2, 1 + f * 1, none⟩ 1 = some [.int .i64 q]) (k3 : 0 ≤ a.u ∧ a.u < (n : Int)) (k4 : 0 ≤ q ∧ q < ((4 : Nat) : Int)) (k5 : readCells (hG x n ++ [some ⟨a.cells, true⟩]) ⟨0, 0 + a.u.toNat * 20 + q.toNat * 5, none⟩ 5 = some b.cells) (k6 : Plain Tryz.prog 28 [pmv a.p] (pmv (inverseP a.p))) (k7 : (!(b.u == (t : Int) && eqP b.p (inverseP a.p))) = false) (hw : IntKind.i64.wrap ((f : Int) + 1) = ((f + 1 : Nat) : Int)) : B x n t f .normal (eC n t (f + 1)) := by
  have : B x n t f .normal [(1, .pointer (some ⟨1, 0, none⟩)), (2, .int .i64 0), (3, .int .i64 n), (4, .int .i64 t), (5, .int .i64 (IntKind.i64.wrap ((f : Int) + 1)))] := comes_run (r := none) (bs := ([], true)) (S := sc (d1 a ++ [((11, 4), knowD false), ((12, 4), knowD false), ((12, 10), knowD false), ((12, 12), plD (.bool true)), ((12, 21), knowD false), ((14, 6), ixD), ((14, 7), ldC [.int .i64 q]), ((14, 8), ixD), ((14, 9), ixD), ((14, 10), ldF b), ((14, 14), plD (pmv (inverseP a.p)))]) [(18, true), (82, false)]) (k := 60) (ts := [1, 2, 3, 4, 5]) (junk := [some ⟨a.cells, true⟩]) (h1 := hG x n)
    (l0 := [(1, .pointer (some ⟨1, 0, none⟩)), (2, .int .i64 0), (3, .int .i64 n), (4, .int .i64 t), (5, .int .i64 (IntKind.i64.wrap ((f : Int) + 1)))])
    (A := O1 x n t f a (((a.u == -1) = false) ∧ (ilt a.u 0 = false) ∧ (ile (n : Int) a.u = false) ∧ (Plain Tryz.prog 38 [pmv a.p] (.bool true)) ∧ ((a.u == (t : Int)) = false) ∧ (0 ≤ (f : Int) ∧ (f : Int) < ((4 : Nat) : Int)) ∧ (readCells (hG x n ++ [some ⟨a.cells, true⟩]) ⟨2, 1 + f * 1, none⟩ 1 = some [.int .i64 q]) ∧ (0 ≤ a.u ∧ a.u < (n : Int)) ∧ (0 ≤ q ∧ q < ((4 : Nat) : Int)) ∧ (readCells (hG x n ++ [some ⟨a.cells, true⟩]) ⟨0, 0 + a.u.toNat * 20 + q.toNat * 5, none⟩ 5 = some b.cells) ∧ (Plain Tryz.prog 28 [pmv a.p] (pmv (inverseP a.p))) ∧ ((!(b.u == (t : Int) && eqP b.p (inverseP a.p))) = false) ∧ Dn .normal ([(1, .pointer (some ⟨1, 0, none⟩)), (2, .int .i64 0), (3, .int .i64 n), (4, .int .i64 t), (5, .int .i64 (IntKind.i64.wrap ((f : Int) + 1)))]) (hG x n ++ [some ⟨a.cells, true⟩])))
    TY_ok mixed ok2 (Nat.le_of_ble_eq_true rfl) (hG_closed x n) rfl ⟨h.1, h.2.1, h.2.2.1, h.2.2.2.1, h1, h3, h4, h5, h6, k1, k2, k3, k4, k5, k6, k7, dn _ _ _⟩ (by kernel_rfl)
  rw [hw] at this
  exact this
/-- A face and the face where it is glued. -/
theorem bOthBad {x : List Int} {n t f : Nat} {a : Fc} {q : Int} {b : Fc} {X : Prop} (h : O1 x n t f a X) (h1 : (a.u == -1) = false) (h3 : ilt a.u 0 = false) (h4 : ile (n : Int) a.u = false) (h5 : Plain Tryz.prog 38 [pmv a.p] (.bool true)) (h6 : (a.u == (t : Int)) = false) (k1 : 0 ≤ (f : Int) ∧ (f : Int) < ((4 : Nat) : Int)) (k2 : readCells (hG x n ++ [some ⟨a.cells, true⟩]) ⟨2, 1 + f * 1, none⟩ 1 = some [.int .i64 q]) (k3 : 0 ≤ a.u ∧ a.u < (n : Int)) (k4 : 0 ≤ q ∧ q < ((4 : Nat) : Int)) (k5 : readCells (hG x n ++ [some ⟨a.cells, true⟩]) ⟨0, 0 + a.u.toNat * 20 + q.toNat * 5, none⟩ 5 = some b.cells) (k6 : Plain Tryz.prog 28 [pmv a.p] (pmv (inverseP a.p))) (k7 : (!(b.u == (t : Int) && eqP b.p (inverseP a.p))) = true) : B x n t f .ret (eR n t) :=
  comes_run (r := none) (bs := ([], true)) (S := sc (d1 a ++ [((11, 4), knowD false), ((12, 4), knowD false), ((12, 10), knowD false), ((12, 12), plD (.bool true)), ((12, 21), knowD false), ((14, 6), ixD), ((14, 7), ldC [.int .i64 q]), ((14, 8), ixD), ((14, 9), ixD), ((14, 10), ldF b), ((14, 14), plD (pmv (inverseP a.p)))]) [(18, true), (82, true)]) (k := 60) (ts := [1, 2, 3]) (junk := [some ⟨a.cells, true⟩]) (h1 := hG x n)
    (l0 := eR n t)
    (A := O1 x n t f a (((a.u == -1) = false) ∧ (ilt a.u 0 = false) ∧ (ile (n : Int) a.u = false) ∧ (Plain Tryz.prog 38 [pmv a.p] (.bool true)) ∧ ((a.u == (t : Int)) = false) ∧ (0 ≤ (f : Int) ∧ (f : Int) < ((4 : Nat) : Int)) ∧ (readCells (hG x n ++ [some ⟨a.cells, true⟩]) ⟨2, 1 + f * 1, none⟩ 1 = some [.int .i64 q]) ∧ (0 ≤ a.u ∧ a.u < (n : Int)) ∧ (0 ≤ q ∧ q < ((4 : Nat) : Int)) ∧ (readCells (hG x n ++ [some ⟨a.cells, true⟩]) ⟨0, 0 + a.u.toNat * 20 + q.toNat * 5, none⟩ 5 = some b.cells) ∧ (Plain Tryz.prog 28 [pmv a.p] (pmv (inverseP a.p))) ∧ ((!(b.u == (t : Int) && eqP b.p (inverseP a.p))) = true) ∧ Dn .ret (eR n t) (hG x n ++ [some ⟨a.cells, true⟩])))
    TY_ok mixed ok2 (Nat.le_of_ble_eq_true rfl) (hG_closed x n) rfl ⟨h.1, h.2.1, h.2.2.1, h.2.2.2.1, h1, h3, h4, h5, h6, k1, k2, k3, k4, k5, k6, k7, dn _ _ _⟩ (by kernel_rfl)
end RC
end Go.Ab

namespace Go.Ab
open Go.Proofs

theorem wrap_succ {k : Nat} (h : k < 1000000000) : IntKind.i64.wrap ((k : Int) + 1) = ((k + 1 : Nat) : Int) := by
  rw [wrap_of (by omega) (by omega)]; omega

theorem valid_at {p : Pm} (hp : p.valid = true) {f : Nat} (hf : f < 4) : 0 ≤ p.at f ∧ p.at f < 4 := by
  have h : l24.all (fun p => (List.range 4).all fun f => decide (0 ≤ p.at (f : Nat)) && decide (p.at (f : Nat) < 4)) = true := by kernel_rfl
  have h2 := List.all_eq_true.1 (List.all_eq_true.1 h p (mem24 hp)) f (List.mem_range.2 hf)
  simpa using h2

theorem rd_at {x : List Int} {n f : Nat} {a : Fc} (hf : f < 4) : readCells (hG x n ++ [some ⟨a.cells, true⟩]) ⟨2, 1 + f * 1, none⟩ 1 = some [.int .i64 (a.p.at f)] := by
  have : f = 0 ∨ f = 1 ∨ f = 2 ∨ f = 3 := by omega
  rcases this with rfl | rfl | rfl | rfl <;> rfl

namespace RC
theorem O1_at {x : List Int} {n t f : Nat} (hx : x.length = 20 * n) (ht : t < n) (hf : f < 4) : O1 x n t f (fc x t f) True := by
  refine ⟨by rw [ilt_eq]; simp; omega, ⟨by omega, by omega⟩, ⟨by omega, by omega⟩, ?_, trivial⟩
  rw [show 0 + t * 20 + f * 5 = 20 * t + 5 * f by omega]
  exact hG_rd (by omega)

theorem bStep {x : List Int} {n t f : Nat} (hn : n ≤ 1000) (hx : x.length = 20 * n) (ht : t < n) (hf : f < 4) :
    (faceOk n x t f = true → B x n t f .normal (eC n t (f + 1))) ∧ (faceOk n x t f = false → B x n t f .ret (eR n t)) := by
  have hO := O1_at hx ht hf
  have hw := wrap_succ (k := f) (by omega)
  unfold faceOk
  generalize ha : fc x t f = a at hO
  simp only
  cases h1 : (a.u == -1) with
  | true =>
    have hu : a.u = -1 := by simpa using h1
    cases h2 : eqP a.p .zero with
    | true =>
      have hfree : a.free = true := by simp [Fc.free, h1, h2]
      rw [hfree]
      exact ⟨fun _ => bFree hO h1 h2 hw, fun h => by simp at h⟩
    | false =>
      have hfree : a.free = false := by simp [Fc.free, h2]
      rw [hfree]
      refine ⟨fun h => ?_, fun _ => bNeg0 hO h1 h2 (by rw [hu]; rfl)⟩
      rw [hu] at h; simp at h
  | false =>
    have hfree : a.free = false := by simp [Fc.free, h1]
    rw [hfree]
    simp only [Bool.false_or]
    cases h3 : ilt a.u 0 with
    | true =>
      have h3' : a.u < 0 := by rw [ilt_eq] at h3; simpa using h3
      refine ⟨fun h => ?_, fun _ => bNeg hO h1 h3⟩
      have : decide (0 ≤ a.u) = false := by simp; omega
      rw [this] at h; simp at h
    | false =>
      have h3' : 0 ≤ a.u := by rw [ilt_eq] at h3; simpa using h3
      rw [show decide (0 ≤ a.u) = true by simpa using h3']
      simp only [Bool.true_and]
      cases h4 : ile (n : Int) a.u with
      | true =>
        have h4' : (n : Int) ≤ a.u := by rw [ile_eq] at h4; simpa using h4
        refine ⟨fun h => ?_, fun _ => bBig hO h1 h3 h4⟩
        have : decide (a.u < (n : Int)) = false := by simp; omega
        rw [this] at h; simp at h
      | false =>
        have h4' : a.u < (n : Int) := by rw [ile_eq] at h4; simpa using h4
        rw [show decide (a.u < (n : Int)) = true by simpa using h4']
        simp only [Bool.true_and]
        cases h5 : a.p.valid with
        | false => exact ⟨fun h => by simp at h, fun _ => bInv hO h1 h3 h4 (v6 h5)⟩
        | true =>
          simp only [Bool.true_and]
          have hq := valid_at h5 hf
          have k5 : readCells (hG x n ++ [some ⟨a.cells, true⟩]) ⟨0, 0 + a.u.toNat * 20 + (a.p.at f).toNat * 5, none⟩ 5 = some (fc x a.u.toNat (a.p.at f).toNat).cells := by
            rw [show 0 + a.u.toNat * 20 + (a.p.at f).toNat * 5 = 20 * a.u.toNat + 5 * (a.p.at f).toNat by omega]
            exact rd_face (w := false) rfl (by omega)
          have k1 : 0 ≤ (f : Int) ∧ (f : Int) < ((4 : Nat) : Int) := ⟨by omega, by omega⟩
          have k4 : 0 ≤ a.p.at f ∧ a.p.at f < ((4 : Nat) : Int) := ⟨hq.1, by have := hq.2; omega⟩
          generalize hb : fc x a.u.toNat (a.p.at f).toNat = b at k5
          cases h6 : (a.u == (t : Int)) with
          | true =>
            cases h9 : (a.p.at f == (f : Int)) with
            | true => exact ⟨fun h => by simp at h, fun _ => bFix hO h1 h3 h4 (v6 h5) h6 k1 (rd_at hf) h9⟩
            | false =>
              simp only [Bool.true_and, Bool.not_false]
              cases h7 : (b.u == (t : Int) && eqP b.p (inverseP a.p)) with
              | true => exact ⟨fun _ => bSelfGood hO h1 h3 h4 (v6 h5) h6 k1 (rd_at hf) h9 k1 (rd_at hf) ⟨h3', h4'⟩ k4 k5 (c10_2 h5) (by rw [h7]; rfl) hw, fun h => by simp at h⟩
              | false => exact ⟨fun h => by simp at h, fun _ => bSelfBad hO h1 h3 h4 (v6 h5) h6 k1 (rd_at hf) h9 k1 (rd_at hf) ⟨h3', h4'⟩ k4 k5 (c10_2 h5) (by rw [h7]; rfl)⟩
          | false =>
            simp only [Bool.false_and, Bool.not_false, Bool.true_and]
            cases h7 : (b.u == (t : Int) && eqP b.p (inverseP a.p)) with
            | true => exact ⟨fun _ => bOthGood hO h1 h3 h4 (v6 h5) h6 k1 (rd_at hf) ⟨h3', h4'⟩ k4 k5 (c10_2 h5) (by rw [h7]; rfl) hw, fun h => by simp at h⟩
            | false => exact ⟨fun h => by simp at h, fun _ => bOthBad hO h1 h3 h4 (v6 h5) h6 k1 (rd_at hf) ⟨h3', h4'⟩ k4 k5 (c10_2 h5) (by rw [h7]; rfl)⟩

def rowOk (n : Nat) (x : List Int) (t : Nat) : Bool := (List.range 4).all fun f => faceOk n x t f

theorem all_range_not {k : Nat} {p : Nat → Bool} (h : (List.range k).all p = false) : ∃ j, j < k ∧ p j = false := by
  simp only [List.all_eq_false, List.mem_range] at h
  obtain ⟨j, h1, h2⟩ := h
  exact ⟨j, h1, by simpa using h2⟩

/-- The faces of one tetrahedron. -/
theorem row_ok {x : List Int} {n t : Nat} (hn : n ≤ 1000) (hx : x.length = 20 * n) (ht : t < n) :
    (rowOk n x t = true → (obs Tryz.prog TY none ([], true) 83).loop 1 (fb Tryz.f10 2) (eC n t 0) (hG x n) .normal (eT n t) (hG x n)) ∧
    (rowOk n x t = false → (obs Tryz.prog TY none ([], true) 83).loop 1 (fb Tryz.f10 2) (eC n t 0) (hG x n) .ret (eR n t) (hG x n)) := by
  have hfb : fb Tryz.f10 2 = .block 2 (.loop (lb Tryz.f10 2)) := by kernel_rfl
  refine ⟨fun h => ?_, fun h => ?_⟩
  · have hall : ∀ f, f < 4 → faceOk n x t f = true := fun f hf => List.all_eq_true.1 h f (List.mem_range.2 hf)
    refine comes_loop hfb rfl (fun f => eC n t f) (fun _ => hG x n) (fun f => f ≤ 4) (fun f => 4 - f) 0 (by omega) rfl rfl ?_
    intro f hf
    by_cases h4 : f < 4
    · exact .inl ⟨f + 1, by omega, by omega, (bStep hn hx ht h4).1 (hall f h4)⟩
    · exact .inr (.inl ⟨rfl, bEnd (by rw [ilt_eq]; simp; omega)⟩)
  · obtain ⟨j, hj, hbad⟩ := all_range_not h
    refine comes_loop hfb rfl (fun f => eC n t f) (fun _ => hG x n) (fun f => f ≤ j) (fun f => 4 - f) 0 (by omega) rfl rfl ?_
    intro f hf
    cases hok : faceOk n x t f with
    | true =>
      have : f ≠ j := fun e => by rw [e, hbad] at hok; cases hok
      exact .inl ⟨f + 1, by omega, by omega, (bStep hn hx ht (by omega)).1 hok⟩
    | false => exact .inr (.inr ⟨rfl, (bStep hn hx ht (by omega)).2 hok⟩)
end RC
end Go.Ab

namespace Go.Ab
open Go.Proofs
namespace RC
def lpRow (n t : Nat) (x : List Int) (ax : AX) (l : List (Nat × Value)) : LoopD := ([1, 2, 3, 4, 5], fun _ _ => (ax, l, hG x n))
def eE (n : Nat) : List (Nat × Value) := [(1, .pointer (some ⟨1, 0, none⟩)), (2, .int .i64 0), (3, .int .i64 n)]
def eW (n t : Nat) : List (Nat × Value) := [(1, .pointer (some ⟨1, 0, none⟩)), (2, .int .i64 0), (3, .int .i64 n), (4, .int .i64 (IntKind.i64.wrap ((t : Int) + 1)))]
def lpAll (n : Nat) (x : List Int) (ax : AX) (l : List (Nat × Value)) : LoopD := ([1, 2, 3, 4], fun _ _ => (ax, l, hG x n))

def BT (x : List Int) (n t : Nat) (ax : AX) (l : List (Nat × Value)) : Prop := Comes none ([], true) Tryz.prog 83 1 (lb Tryz.f10 0) (eT n t) (hG x n) ax l (hG x n)
theorem ok0 : codeOk 83 (lb Tryz.f10 0) = true := by kernel_rfl
abbrev LP (x : List Int) (n t : Nat) (ax : AX) (l : List (Nat × Value)) : Prop := (obs Tryz.prog TY none ([], true) 83).loop 1 (fb Tryz.f10 2) (eC n t 0) (hG x n) ax l (hG x n)

theorem tGood {x : List Int} {n t : Nat} (h1 : ilt (t : Int) n = true) (h2 : LP x n t .normal (eT n t)) (hw : IntKind.i64.wrap ((t : Int) + 1) = ((t + 1 : Nat) : Int)) : BT x n t .normal (eT n (t + 1)) := by
  have : BT x n t .normal (eW n t) := comes_run (S := { dir := dd [], know := kk [(14, true)], loop := loops [(2, lpRow n t x .normal (eT n t))] }) (k := 60) (ts := [1, 2, 3, 4]) (junk := [])
    (A := (ilt (t : Int) n = true) ∧ LP x n t .normal (eT n t) ∧ Dn .normal (eW n t) (hG x n)) TY_ok mixed ok0 (show 1 ≤ (hG x n).length from Nat.le_of_ble_eq_true rfl) (hG_closed x n) rfl ⟨h1, h2, dn _ _ _⟩ (by kernel_rfl)
  unfold eW at this
  rw [hw] at this
  exact this
theorem tBad {x : List Int} {n t : Nat} (h1 : ilt (t : Int) n = true) (h2 : LP x n t .ret (eR n t)) : BT x n t .ret (eR n t) :=
  comes_run (S := { dir := dd [], know := kk [(14, true)], loop := loops [(2, lpRow n t x .ret (eR n t))] }) (k := 60) (ts := [1, 2, 3]) (junk := [])
    (A := (ilt (t : Int) n = true) ∧ LP x n t .ret (eR n t) ∧ Dn .ret (eR n t) (hG x n)) TY_ok mixed ok0 (show 1 ≤ (hG x n).length from Nat.le_of_ble_eq_true rfl) (hG_closed x n) rfl ⟨h1, h2, dn _ _ _⟩ (by kernel_rfl)
theorem tEnd {x : List Int} {n t : Nat} (h1 : ilt (t : Int) n = false) : BT x n t (.exit 0) (eE n) :=
  comes_run (S := { dir := dd [], know := kk [(14, false)], loop := noloop }) (k := 60) (ts := [1, 2, 3]) (junk := [])
    (A := (ilt (t : Int) n = false) ∧ Dn (.exit 0) (eE n) (hG x n)) TY_ok mixed ok0 (show 1 ≤ (hG x n).length from Nat.le_of_ble_eq_true rfl) (hG_closed x n) rfl ⟨h1, dn _ _ _⟩ (by kernel_rfl)

theorem all_ok {x : List Int} {n : Nat} (hn : n ≤ 1000) (hx : x.length = 20 * n) :
    ((List.range n).all (rowOk n x) = true → (obs Tryz.prog TY none ([], true) 83).loop 1 (fb Tryz.f10 0) (eT n 0) (hG x n) .normal (eE n) (hG x n)) ∧
    ((List.range n).all (rowOk n x) = false → (obs Tryz.prog TY none ([], true) 83).loop 1 (fb Tryz.f10 0) (eT n 0) (hG x n) .ret (eR n 0) (hG x n)) := by
  have hfb : fb Tryz.f10 0 = .block 0 (.loop (lb Tryz.f10 0)) := by kernel_rfl
  have lt : ∀ t : Nat, t < n → ilt (t : Int) n = true := fun t ht => by rw [ilt_eq]; simp; omega
  refine ⟨fun h => ?_, fun h => ?_⟩
  · have hall : ∀ t, t < n → rowOk n x t = true := fun t ht => List.all_eq_true.1 h t (List.mem_range.2 ht)
    refine comes_loop hfb rfl (fun t => eT n t) (fun _ => hG x n) (fun t => t ≤ n) (fun t => n - t) 0 (by omega) rfl rfl ?_
    intro t ht
    by_cases h4 : t < n
    · exact .inl ⟨t + 1, by omega, by omega, tGood (lt t h4) ((row_ok hn hx h4).1 (hall t h4)) (wrap_succ (by omega))⟩
    · exact .inr (.inl ⟨rfl, tEnd (by rw [ilt_eq]; simp; omega)⟩)
  · obtain ⟨j, hj, hbad⟩ := all_range_not h
    refine comes_loop hfb rfl (fun t => eT n t) (fun _ => hG x n) (fun t => t ≤ j) (fun t => n - t) 0 (by omega) rfl rfl ?_
    intro t ht
    cases hok : rowOk n x t with
    | true =>
      have : t ≠ j := fun e => by rw [e, hbad] at hok; cases hok
      exact .inl ⟨t + 1, by omega, by omega, tGood (lt t (by omega)) ((row_ok hn hx (by omega)).1 hok) (wrap_succ (by omega))⟩
    | false => exact .inr (.inr ⟨rfl, tBad (lt t (by omega)) ((row_ok hn hx (by omega)).2 hok)⟩)
end RC

/-- The contract. -/
theorem rcheck_sum {x : List Int} {n : Nat} (hx : x.length = 20 * n) : Sum Tryz.prog 10 [gV 0 n] [some ⟨ints x, false⟩] fun o _ => o = .ret (.int .i64 (chk n x)) := by
  by_cases hn : n ≤ 1000
  · have hlt : ilt 1000 (n : Int) = false := by rw [ilt_eq]; simp; omega
    have hk : chk n x = if (List.range n).all (RC.rowOk n x) = true then 0 else 7 := by
      simp only [chk, checkB, show decide (n ≤ 1000) = true by simpa using hn, Bool.true_and]; rfl
    rw [hk]
    cases hc : (List.range n).all (RC.rowOk n x) with
    | true =>
      exact tFun_sum (S := { dir := dd [], know := kk [(11, false)], loop := loops [(0, RC.lpAll n x .normal (RC.eE n))] }) (k := 60) TY_ok mixed fn10_ok
        (A := ilt 1000 (n : Int) = false ∧ (obs Tryz.prog TY none ([], true) 83).loop 1 (fb Tryz.f10 0) (RC.eT n 0) (hG x n) .normal (RC.eE n) (hG x n) ∧ AOut.ret (.int .i64 0) = .ret (.int .i64 0)) ⟨hlt, (RC.all_ok hn hx).1 hc, rfl⟩ (by kernel_rfl)
    | false =>
      exact tFun_sum (S := { dir := dd [], know := kk [(11, false)], loop := loops [(0, RC.lpAll n x .ret (RC.eR n 0))] }) (k := 60) TY_ok mixed fn10_ok
        (A := ilt 1000 (n : Int) = false ∧ (obs Tryz.prog TY none ([], true) 83).loop 1 (fb Tryz.f10 0) (RC.eT n 0) (hG x n) .ret (RC.eR n 0) (hG x n) ∧ AOut.ret (.int .i64 7) = .ret (.int .i64 7)) ⟨hlt, (RC.all_ok hn hx).2 hc, rfl⟩ (by kernel_rfl)
  · have hk : chk n x = 7 := by simp [chk, checkB, hn]
    rw [hk]
    exact tFun_sum (S := { dir := dd [], know := kk [(11, true)], loop := noloop }) (k := 60) TY_ok mixed fn10_ok
      (A := ilt 1000 (n : Int) = true ∧ AOut.ret (.int .i64 7) = .ret (.int .i64 7)) ⟨by rw [ilt_eq]; simp; omega, rfl⟩ (by kernel_rfl)
end Go.Ab
