/- A tetrahedron of glue.Renumber. Conditions: none beyond the given model and program. -/
import Derived.Test.YtnimgapjllhccaaGreatDoorXf
namespace Go.Ab
open Go.Proofs

namespace GN
def P0 (x o q : List Int) (n : Nat) (pl : List Int) (g : Nat → Bool) : Heap := [some ⟨ints x, false⟩, some ⟨ints o, false⟩, some ⟨ints q, false⟩, some ⟨[gS 0 n], true⟩, some ⟨[.slice none 0 0], true⟩, some ⟨ints pl, true⟩, some ⟨bls n g, true⟩, some ⟨[.slice none 0 0], true⟩]
def P1 (x o q : List Int) (n : Nat) (pl : List Int) (g : Nat → Bool) (t : Nat) (y : List Int) : Heap := [some ⟨ints x, false⟩, some ⟨ints o, false⟩, some ⟨ints q, false⟩, some ⟨[gS 0 n], true⟩, some ⟨[.slice none 0 0], true⟩, some ⟨ints pl, true⟩, some ⟨bls n g, true⟩, some ⟨[gS 8 t], true⟩, some ⟨ints y, true⟩]
theorem P0_closed (x o q : List Int) (n : Nat) (pl : List Int) (g : Nat → Bool) (a b c d : Fc) : closedH 9 (P0 x o q n pl g ++ [rB a b c d]) :=
  closedH_cons (subL_plain _ _ (ints_plain x)) (closedH_cons (subL_plain _ _ (ints_plain o)) (closedH_cons (subL_plain _ _ (ints_plain q)) (closedH_cons (belowL_sub _ rfl) (closedH_cons (subL_plain _ _ rfl) (closedH_cons (subL_plain _ _ (ints_plain pl)) (closedH_cons (subL_plain _ _ (bls_plain n g)) (closedH_cons (subL_plain _ _ rfl) (closedH_cons (subL_plain _ _ rfl) closedH_nil))))))))
theorem P1_closed (x o q : List Int) (n : Nat) (pl : List Int) (g : Nat → Bool) (t : Nat) (y : List Int) (a b c d : Fc) : closedH 10 (P1 x o q n pl g t y ++ [rB a b c d]) :=
  closedH_cons (subL_plain _ _ (ints_plain x)) (closedH_cons (subL_plain _ _ (ints_plain o)) (closedH_cons (subL_plain _ _ (ints_plain q)) (closedH_cons (belowL_sub _ rfl) (closedH_cons (subL_plain _ _ rfl) (closedH_cons (subL_plain _ _ (ints_plain pl)) (closedH_cons (subL_plain _ _ (bls_plain n g)) (closedH_cons (belowL_sub _ rfl) (closedH_cons (subL_plain _ _ (ints_plain y)) (closedH_cons (subL_plain _ _ rfl) closedH_nil)))))))))
def plS (n : Nat) : Value := .slice (some ⟨5, 0, none⟩) n 1
def eT (n t : Nat) : List (Nat × Value) := [(2, pS 2 n), (3, .pointer (some ⟨3, 0, none⟩)), (6, .pointer (some ⟨4, 0, none⟩)), (10, plS n), (14, .pointer (some ⟨7, 0, none⟩)), (78, oS 1 n), (79, .int .i64 n), (80, .int .i64 t)]
def eJ (n t b : Nat) (v : Int) : List (Nat × Value) := [(2, pS 2 n), (3, .pointer (some ⟨3, 0, none⟩)), (6, .pointer (some ⟨4, 0, none⟩)), (10, plS n), (14, .pointer (some ⟨7, 0, none⟩)), (78, oS 1 n), (79, .int .i64 n), (80, .int .i64 t), (15, .int .i64 t), (16, .int .i64 v), (17, .pointer (some ⟨b, 0, none⟩))]
def eI (n t b : Nat) (v : Int) (f : Nat) : List (Nat × Value) := [(2, pS 2 n), (3, .pointer (some ⟨3, 0, none⟩)), (6, .pointer (some ⟨4, 0, none⟩)), (10, plS n), (14, .pointer (some ⟨7, 0, none⟩)), (78, oS 1 n), (79, .int .i64 n), (80, .int .i64 t), (15, .int .i64 t), (16, .int .i64 v), (17, .pointer (some ⟨b, 0, none⟩)), (85, .int .i64 f)]
theorem okI : codeOk 139 (lb Tryz.f18 4) = true := by kernel_rfl
theorem ok2 : codeOk 139 (lb Tryz.f18 2) = true := by kernel_rfl
theorem ok0 : codeOk 139 (lb Tryz.f18 0) = true := by kernel_rfl
def tI : List Nat := [2, 3, 6, 10, 14, 78, 79, 80, 15, 16, 17, 85]
def tJ : List Nat := [2, 3, 6, 10, 14, 78, 79, 80, 15, 16, 17]
def dA (e : Int) (a : Fc) : List ((Nat × Nat) × (Option Bool × Td)) := [((24, 7), ixD), ((24, 9), ldC [.int .i64 e]), ((24, 10), ixD), ((24, 11), ixD), ((24, 12), ldF a)]
abbrev OA (h : Heap) (n t f : Nat) (v e : Int) (a : Fc) (X : Prop) : Prop := InN t n ∧ Re h t f e ∧ InI v n ∧ InI e 4 ∧ Ra h v e a ∧ X
def dB (w : Int) (r p c1 c2 : Pm) : List ((Nat × Nat) × (Option Bool × Td)) := [((27, 3), ixD), ((27, 4), ldC [.int .i64 w]), ((28, 4), ixD), ((28, 5), ldC (pmL r)), ((28, 6), plD (pmv (inverseP r))), ((28, 11), ixD), ((28, 12), ldC (pmL p)), ((28, 13), plD (pmv c1)), ((28, 14), plD (pmv c2))]
abbrev OB (h : Heap) (n t : Nat) (a : Fc) (w : Int) (r p c1 c2 : Pm) (X : Prop) : Prop := InI a.u n ∧ Rw h 5 a.u w ∧ InI w n ∧ Rq h w r ∧ Plain Tryz.prog 42 [pmv r] (pmv (inverseP r)) ∧ InN t n ∧ Rt4 h t p ∧ Plain Tryz.prog 46 [pmv a.p, pmv p] (pmv c1) ∧ Plain Tryz.prog 46 [pmv (inverseP r), pmv c1] (pmv c2) ∧ X

abbrev C0 (t : Nat) (v : Int) (f : Nat) (n : Nat) (h : Heap) (ax : AX) (l : List (Nat × Value)) (h' : Heap) : Prop := Comes none ([], true) Tryz.prog 139 3 (lb Tryz.f18 4) (eI n t 8 v f) h ax l h'
theorem f00 {x o q pl : List Int} {n t : Nat} {g : Nat → Bool} {a b c d z : Fc} {v e : Int} {X : Prop} (h : OA (P0 x o q n pl g ++ [rB a b c d]) n t 0 v e z X) (h1 : ile 0 z.u = false) : C0 t v 0 n (P0 x o q n pl g ++ [rB a b c d]) .normal (eI n t 8 v 1) (P0 x o q n pl g ++ [rB z b c d]) :=
  comes_run (S := RN.sc (dA e z) [(107, false)]) (k := 60) (ts := tI) (junk := [zB z]) (h1 := (P0 x o q n pl g ++ [rB z b c d])) (l0 := eI n t 8 v 1)
    (A := OA (P0 x o q n pl g ++ [rB a b c d]) n t 0 v e z ((ile 0 z.u = false) ∧ Dn .normal (eI n t 8 v 1) ((P0 x o q n pl g ++ [rB z b c d]) ++ [zB z]))) TY_ok mixed okI (Nat.le_of_ble_eq_true rfl) (P0_closed x o q n pl g _ _ _ _) rfl ⟨h.1, h.2.1, h.2.2.1, h.2.2.2.1, h.2.2.2.2.1, h1, dn _ _ _⟩ (by kernel_rfl)
theorem g00 {x o q pl : List Int} {n t : Nat} {g : Nat → Bool} {a b c d z : Fc} {v e w : Int} {r p c1 c2 : Pm} {X Y : Prop} (h : OA (P0 x o q n pl g ++ [rB a b c d]) n t 0 v e z X) (h1 : ile 0 z.u = true) (k : OB (P0 x o q n pl g ++ [rB z b c d, zB z]) n t z w r p c1 c2 Y) : C0 t v 0 n (P0 x o q n pl g ++ [rB a b c d]) .normal (eI n t 8 v 1) (P0 x o q n pl g ++ [rB (Fc.mk w c2) b c d]) :=
  comes_run (S := RN.sc (dA e z ++ dB w r p c1 c2) [(107, true)]) (k := 60) (ts := tI) (junk := [zB z]) (h1 := (P0 x o q n pl g ++ [rB (Fc.mk w c2) b c d])) (l0 := eI n t 8 v 1)
    (A := OA (P0 x o q n pl g ++ [rB a b c d]) n t 0 v e z ((ile 0 z.u = true) ∧ OB (P0 x o q n pl g ++ [rB z b c d, zB z]) n t z w r p c1 c2 (Dn .normal (eI n t 8 v 1) ((P0 x o q n pl g ++ [rB (Fc.mk w c2) b c d]) ++ [zB z])))) TY_ok mixed okI (Nat.le_of_ble_eq_true rfl) (P0_closed x o q n pl g _ _ _ _) rfl
    ⟨h.1, h.2.1, h.2.2.1, h.2.2.2.1, h.2.2.2.2.1, h1, k.1, k.2.1, k.2.2.1, k.2.2.2.1, k.2.2.2.2.1, k.2.2.2.2.2.1, k.2.2.2.2.2.2.1, k.2.2.2.2.2.2.2.1, k.2.2.2.2.2.2.2.2.1, dn _ _ _⟩ (by kernel_rfl)
theorem f01 {x o q pl : List Int} {n t : Nat} {g : Nat → Bool} {a b c d z : Fc} {v e : Int} {X : Prop} (h : OA (P0 x o q n pl g ++ [rB a b c d]) n t 1 v e z X) (h1 : ile 0 z.u = false) : C0 t v 1 n (P0 x o q n pl g ++ [rB a b c d]) .normal (eI n t 8 v 2) (P0 x o q n pl g ++ [rB a z c d]) :=
  comes_run (S := RN.sc (dA e z) [(107, false)]) (k := 60) (ts := tI) (junk := [zB z]) (h1 := (P0 x o q n pl g ++ [rB a z c d])) (l0 := eI n t 8 v 2)
    (A := OA (P0 x o q n pl g ++ [rB a b c d]) n t 1 v e z ((ile 0 z.u = false) ∧ Dn .normal (eI n t 8 v 2) ((P0 x o q n pl g ++ [rB a z c d]) ++ [zB z]))) TY_ok mixed okI (Nat.le_of_ble_eq_true rfl) (P0_closed x o q n pl g _ _ _ _) rfl ⟨h.1, h.2.1, h.2.2.1, h.2.2.2.1, h.2.2.2.2.1, h1, dn _ _ _⟩ (by kernel_rfl)
theorem g01 {x o q pl : List Int} {n t : Nat} {g : Nat → Bool} {a b c d z : Fc} {v e w : Int} {r p c1 c2 : Pm} {X Y : Prop} (h : OA (P0 x o q n pl g ++ [rB a b c d]) n t 1 v e z X) (h1 : ile 0 z.u = true) (k : OB (P0 x o q n pl g ++ [rB a z c d, zB z]) n t z w r p c1 c2 Y) : C0 t v 1 n (P0 x o q n pl g ++ [rB a b c d]) .normal (eI n t 8 v 2) (P0 x o q n pl g ++ [rB a (Fc.mk w c2) c d]) :=
  comes_run (S := RN.sc (dA e z ++ dB w r p c1 c2) [(107, true)]) (k := 60) (ts := tI) (junk := [zB z]) (h1 := (P0 x o q n pl g ++ [rB a (Fc.mk w c2) c d])) (l0 := eI n t 8 v 2)
    (A := OA (P0 x o q n pl g ++ [rB a b c d]) n t 1 v e z ((ile 0 z.u = true) ∧ OB (P0 x o q n pl g ++ [rB a z c d, zB z]) n t z w r p c1 c2 (Dn .normal (eI n t 8 v 2) ((P0 x o q n pl g ++ [rB a (Fc.mk w c2) c d]) ++ [zB z])))) TY_ok mixed okI (Nat.le_of_ble_eq_true rfl) (P0_closed x o q n pl g _ _ _ _) rfl
    ⟨h.1, h.2.1, h.2.2.1, h.2.2.2.1, h.2.2.2.2.1, h1, k.1, k.2.1, k.2.2.1, k.2.2.2.1, k.2.2.2.2.1, k.2.2.2.2.2.1, k.2.2.2.2.2.2.1, k.2.2.2.2.2.2.2.1, k.2.2.2.2.2.2.2.2.1, dn _ _ _⟩ (by kernel_rfl)
theorem f02 {x o q pl : List Int} {n t : Nat} {g : Nat → Bool} {a b c d z : Fc} {v e : Int} {X : Prop} (h : OA (P0 x o q n pl g ++ [rB a b c d]) n t 2 v e z X) (h1 : ile 0 z.u = false) : C0 t v 2 n (P0 x o q n pl g ++ [rB a b c d]) .normal (eI n t 8 v 3) (P0 x o q n pl g ++ [rB a b z d]) :=
  comes_run (S := RN.sc (dA e z) [(107, false)]) (k := 60) (ts := tI) (junk := [zB z]) (h1 := (P0 x o q n pl g ++ [rB a b z d])) (l0 := eI n t 8 v 3)
    (A := OA (P0 x o q n pl g ++ [rB a b c d]) n t 2 v e z ((ile 0 z.u = false) ∧ Dn .normal (eI n t 8 v 3) ((P0 x o q n pl g ++ [rB a b z d]) ++ [zB z]))) TY_ok mixed okI (Nat.le_of_ble_eq_true rfl) (P0_closed x o q n pl g _ _ _ _) rfl ⟨h.1, h.2.1, h.2.2.1, h.2.2.2.1, h.2.2.2.2.1, h1, dn _ _ _⟩ (by kernel_rfl)
theorem g02 {x o q pl : List Int} {n t : Nat} {g : Nat → Bool} {a b c d z : Fc} {v e w : Int} {r p c1 c2 : Pm} {X Y : Prop} (h : OA (P0 x o q n pl g ++ [rB a b c d]) n t 2 v e z X) (h1 : ile 0 z.u = true) (k : OB (P0 x o q n pl g ++ [rB a b z d, zB z]) n t z w r p c1 c2 Y) : C0 t v 2 n (P0 x o q n pl g ++ [rB a b c d]) .normal (eI n t 8 v 3) (P0 x o q n pl g ++ [rB a b (Fc.mk w c2) d]) :=
  comes_run (S := RN.sc (dA e z ++ dB w r p c1 c2) [(107, true)]) (k := 60) (ts := tI) (junk := [zB z]) (h1 := (P0 x o q n pl g ++ [rB a b (Fc.mk w c2) d])) (l0 := eI n t 8 v 3)
    (A := OA (P0 x o q n pl g ++ [rB a b c d]) n t 2 v e z ((ile 0 z.u = true) ∧ OB (P0 x o q n pl g ++ [rB a b z d, zB z]) n t z w r p c1 c2 (Dn .normal (eI n t 8 v 3) ((P0 x o q n pl g ++ [rB a b (Fc.mk w c2) d]) ++ [zB z])))) TY_ok mixed okI (Nat.le_of_ble_eq_true rfl) (P0_closed x o q n pl g _ _ _ _) rfl
    ⟨h.1, h.2.1, h.2.2.1, h.2.2.2.1, h.2.2.2.2.1, h1, k.1, k.2.1, k.2.2.1, k.2.2.2.1, k.2.2.2.2.1, k.2.2.2.2.2.1, k.2.2.2.2.2.2.1, k.2.2.2.2.2.2.2.1, k.2.2.2.2.2.2.2.2.1, dn _ _ _⟩ (by kernel_rfl)
theorem f03 {x o q pl : List Int} {n t : Nat} {g : Nat → Bool} {a b c d z : Fc} {v e : Int} {X : Prop} (h : OA (P0 x o q n pl g ++ [rB a b c d]) n t 3 v e z X) (h1 : ile 0 z.u = false) : C0 t v 3 n (P0 x o q n pl g ++ [rB a b c d]) .normal (eI n t 8 v 4) (P0 x o q n pl g ++ [rB a b c z]) :=
  comes_run (S := RN.sc (dA e z) [(107, false)]) (k := 60) (ts := tI) (junk := [zB z]) (h1 := (P0 x o q n pl g ++ [rB a b c z])) (l0 := eI n t 8 v 4)
    (A := OA (P0 x o q n pl g ++ [rB a b c d]) n t 3 v e z ((ile 0 z.u = false) ∧ Dn .normal (eI n t 8 v 4) ((P0 x o q n pl g ++ [rB a b c z]) ++ [zB z]))) TY_ok mixed okI (Nat.le_of_ble_eq_true rfl) (P0_closed x o q n pl g _ _ _ _) rfl ⟨h.1, h.2.1, h.2.2.1, h.2.2.2.1, h.2.2.2.2.1, h1, dn _ _ _⟩ (by kernel_rfl)
theorem g03 {x o q pl : List Int} {n t : Nat} {g : Nat → Bool} {a b c d z : Fc} {v e w : Int} {r p c1 c2 : Pm} {X Y : Prop} (h : OA (P0 x o q n pl g ++ [rB a b c d]) n t 3 v e z X) (h1 : ile 0 z.u = true) (k : OB (P0 x o q n pl g ++ [rB a b c z, zB z]) n t z w r p c1 c2 Y) : C0 t v 3 n (P0 x o q n pl g ++ [rB a b c d]) .normal (eI n t 8 v 4) (P0 x o q n pl g ++ [rB a b c (Fc.mk w c2)]) :=
  comes_run (S := RN.sc (dA e z ++ dB w r p c1 c2) [(107, true)]) (k := 60) (ts := tI) (junk := [zB z]) (h1 := (P0 x o q n pl g ++ [rB a b c (Fc.mk w c2)])) (l0 := eI n t 8 v 4)
    (A := OA (P0 x o q n pl g ++ [rB a b c d]) n t 3 v e z ((ile 0 z.u = true) ∧ OB (P0 x o q n pl g ++ [rB a b c z, zB z]) n t z w r p c1 c2 (Dn .normal (eI n t 8 v 4) ((P0 x o q n pl g ++ [rB a b c (Fc.mk w c2)]) ++ [zB z])))) TY_ok mixed okI (Nat.le_of_ble_eq_true rfl) (P0_closed x o q n pl g _ _ _ _) rfl
    ⟨h.1, h.2.1, h.2.2.1, h.2.2.2.1, h.2.2.2.2.1, h1, k.1, k.2.1, k.2.2.1, k.2.2.2.1, k.2.2.2.2.1, k.2.2.2.2.2.1, k.2.2.2.2.2.2.1, k.2.2.2.2.2.2.2.1, k.2.2.2.2.2.2.2.2.1, dn _ _ _⟩ (by kernel_rfl)
theorem e0 {x o q pl : List Int} {n t : Nat} {g : Nat → Bool} {v : Int} {a b c d : Fc} : C0 t v 4 n (P0 x o q n pl g ++ [rB a b c d]) (.exit 4) (eJ n t 8 v) (P0 x o q n pl g ++ [rB a b c d]) :=
  comes_run (S := RN.sc [] []) (k := 60) (ts := tJ) (junk := []) (h1 := (P0 x o q n pl g ++ [rB a b c d])) (l0 := eJ n t 8 v) (A := Dn (.exit 4) (eJ n t 8 v) (P0 x o q n pl g ++ [rB a b c d])) TY_ok mixed okI (Nat.le_of_ble_eq_true rfl) (P0_closed x o q n pl g _ _ _ _) rfl (dn _ _ _) (by kernel_rfl)

abbrev C1 (t : Nat) (v : Int) (f : Nat) (n : Nat) (h : Heap) (ax : AX) (l : List (Nat × Value)) (h' : Heap) : Prop := Comes none ([], true) Tryz.prog 139 3 (lb Tryz.f18 4) (eI n t 9 v f) h ax l h'
theorem f10 {x o q pl : List Int} {n t : Nat} {g : Nat → Bool} {y : List Int} {a b c d z : Fc} {v e : Int} {X : Prop} (h : OA (P1 x o q n pl g t y ++ [rB a b c d]) n t 0 v e z X) (h1 : ile 0 z.u = false) : C1 t v 0 n (P1 x o q n pl g t y ++ [rB a b c d]) .normal (eI n t 9 v 1) (P1 x o q n pl g t y ++ [rB z b c d]) :=
  comes_run (S := RN.sc (dA e z) [(107, false)]) (k := 60) (ts := tI) (junk := [zB z]) (h1 := (P1 x o q n pl g t y ++ [rB z b c d])) (l0 := eI n t 9 v 1)
    (A := OA (P1 x o q n pl g t y ++ [rB a b c d]) n t 0 v e z ((ile 0 z.u = false) ∧ Dn .normal (eI n t 9 v 1) ((P1 x o q n pl g t y ++ [rB z b c d]) ++ [zB z]))) TY_ok mixed okI (Nat.le_of_ble_eq_true rfl) (P1_closed x o q n pl g t y _ _ _ _) rfl ⟨h.1, h.2.1, h.2.2.1, h.2.2.2.1, h.2.2.2.2.1, h1, dn _ _ _⟩ (by kernel_rfl)
theorem g10 {x o q pl : List Int} {n t : Nat} {g : Nat → Bool} {y : List Int} {a b c d z : Fc} {v e w : Int} {r p c1 c2 : Pm} {X Y : Prop} (h : OA (P1 x o q n pl g t y ++ [rB a b c d]) n t 0 v e z X) (h1 : ile 0 z.u = true) (k : OB (P1 x o q n pl g t y ++ [rB z b c d, zB z]) n t z w r p c1 c2 Y) : C1 t v 0 n (P1 x o q n pl g t y ++ [rB a b c d]) .normal (eI n t 9 v 1) (P1 x o q n pl g t y ++ [rB (Fc.mk w c2) b c d]) :=
  comes_run (S := RN.sc (dA e z ++ dB w r p c1 c2) [(107, true)]) (k := 60) (ts := tI) (junk := [zB z]) (h1 := (P1 x o q n pl g t y ++ [rB (Fc.mk w c2) b c d])) (l0 := eI n t 9 v 1)
    (A := OA (P1 x o q n pl g t y ++ [rB a b c d]) n t 0 v e z ((ile 0 z.u = true) ∧ OB (P1 x o q n pl g t y ++ [rB z b c d, zB z]) n t z w r p c1 c2 (Dn .normal (eI n t 9 v 1) ((P1 x o q n pl g t y ++ [rB (Fc.mk w c2) b c d]) ++ [zB z])))) TY_ok mixed okI (Nat.le_of_ble_eq_true rfl) (P1_closed x o q n pl g t y _ _ _ _) rfl
    ⟨h.1, h.2.1, h.2.2.1, h.2.2.2.1, h.2.2.2.2.1, h1, k.1, k.2.1, k.2.2.1, k.2.2.2.1, k.2.2.2.2.1, k.2.2.2.2.2.1, k.2.2.2.2.2.2.1, k.2.2.2.2.2.2.2.1, k.2.2.2.2.2.2.2.2.1, dn _ _ _⟩ (by kernel_rfl)
theorem f11 {x o q pl : List Int} {n t : Nat} {g : Nat → Bool} {y : List Int} {a b c d z : Fc} {v e : Int} {X : Prop} (h : OA (P1 x o q n pl g t y ++ [rB a b c d]) n t 1 v e z X) (h1 : ile 0 z.u = false) : C1 t v 1 n (P1 x o q n pl g t y ++ [rB a b c d]) .normal (eI n t 9 v 2) (P1 x o q n pl g t y ++ [rB a z c d]) :=
  comes_run (S := RN.sc (dA e z) [(107, false)]) (k := 60) (ts := tI) (junk := [zB z]) (h1 := (P1 x o q n pl g t y ++ [rB a z c d])) (l0 := eI n t 9 v 2)
    (A := OA (P1 x o q n pl g t y ++ [rB a b c d]) n t 1 v e z ((ile 0 z.u = false) ∧ Dn .normal (eI n t 9 v 2) ((P1 x o q n pl g t y ++ [rB a z c d]) ++ [zB z]))) TY_ok mixed okI (Nat.le_of_ble_eq_true rfl) (P1_closed x o q n pl g t y _ _ _ _) rfl ⟨h.1, h.2.1, h.2.2.1, h.2.2.2.1, h.2.2.2.2.1, h1, dn _ _ _⟩ (by kernel_rfl)
theorem g11 {x o q pl : List Int} {n t : Nat} {g : Nat → Bool} {y : List Int} {a b c d z : Fc} {v e w : Int} {r p c1 c2 : Pm} {X Y : Prop} (h : OA (P1 x o q n pl g t y ++ [rB a b c d]) n t 1 v e z X) (h1 : ile 0 z.u = true) (k : OB (P1 x o q n pl g t y ++ [rB a z c d, zB z]) n t z w r p c1 c2 Y) : C1 t v 1 n (P1 x o q n pl g t y ++ [rB a b c d]) .normal (eI n t 9 v 2) (P1 x o q n pl g t y ++ [rB a (Fc.mk w c2) c d]) :=
  comes_run (S := RN.sc (dA e z ++ dB w r p c1 c2) [(107, true)]) (k := 60) (ts := tI) (junk := [zB z]) (h1 := (P1 x o q n pl g t y ++ [rB a (Fc.mk w c2) c d])) (l0 := eI n t 9 v 2)
    (A := OA (P1 x o q n pl g t y ++ [rB a b c d]) n t 1 v e z ((ile 0 z.u = true) ∧ OB (P1 x o q n pl g t y ++ [rB a z c d, zB z]) n t z w r p c1 c2 (Dn .normal (eI n t 9 v 2) ((P1 x o q n pl g t y ++ [rB a (Fc.mk w c2) c d]) ++ [zB z])))) TY_ok mixed okI (Nat.le_of_ble_eq_true rfl) (P1_closed x o q n pl g t y _ _ _ _) rfl
    ⟨h.1, h.2.1, h.2.2.1, h.2.2.2.1, h.2.2.2.2.1, h1, k.1, k.2.1, k.2.2.1, k.2.2.2.1, k.2.2.2.2.1, k.2.2.2.2.2.1, k.2.2.2.2.2.2.1, k.2.2.2.2.2.2.2.1, k.2.2.2.2.2.2.2.2.1, dn _ _ _⟩ (by kernel_rfl)
theorem f12 {x o q pl : List Int} {n t : Nat} {g : Nat → Bool} {y : List Int} {a b c d z : Fc} {v e : Int} {X : Prop} (h : OA (P1 x o q n pl g t y ++ [rB a b c d]) n t 2 v e z X) (h1 : ile 0 z.u = false) : C1 t v 2 n (P1 x o q n pl g t y ++ [rB a b c d]) .normal (eI n t 9 v 3) (P1 x o q n pl g t y ++ [rB a b z d]) :=
  comes_run (S := RN.sc (dA e z) [(107, false)]) (k := 60) (ts := tI) (junk := [zB z]) (h1 := (P1 x o q n pl g t y ++ [rB a b z d])) (l0 := eI n t 9 v 3)
    (A := OA (P1 x o q n pl g t y ++ [rB a b c d]) n t 2 v e z ((ile 0 z.u = false) ∧ Dn .normal (eI n t 9 v 3) ((P1 x o q n pl g t y ++ [rB a b z d]) ++ [zB z]))) TY_ok mixed okI (Nat.le_of_ble_eq_true rfl) (P1_closed x o q n pl g t y _ _ _ _) rfl ⟨h.1, h.2.1, h.2.2.1, h.2.2.2.1, h.2.2.2.2.1, h1, dn _ _ _⟩ (by kernel_rfl)
theorem g12 {x o q pl : List Int} {n t : Nat} {g : Nat → Bool} {y : List Int} {a b c d z : Fc} {v e w : Int} {r p c1 c2 : Pm} {X Y : Prop} (h : OA (P1 x o q n pl g t y ++ [rB a b c d]) n t 2 v e z X) (h1 : ile 0 z.u = true) (k : OB (P1 x o q n pl g t y ++ [rB a b z d, zB z]) n t z w r p c1 c2 Y) : C1 t v 2 n (P1 x o q n pl g t y ++ [rB a b c d]) .normal (eI n t 9 v 3) (P1 x o q n pl g t y ++ [rB a b (Fc.mk w c2) d]) :=
  comes_run (S := RN.sc (dA e z ++ dB w r p c1 c2) [(107, true)]) (k := 60) (ts := tI) (junk := [zB z]) (h1 := (P1 x o q n pl g t y ++ [rB a b (Fc.mk w c2) d])) (l0 := eI n t 9 v 3)
    (A := OA (P1 x o q n pl g t y ++ [rB a b c d]) n t 2 v e z ((ile 0 z.u = true) ∧ OB (P1 x o q n pl g t y ++ [rB a b z d, zB z]) n t z w r p c1 c2 (Dn .normal (eI n t 9 v 3) ((P1 x o q n pl g t y ++ [rB a b (Fc.mk w c2) d]) ++ [zB z])))) TY_ok mixed okI (Nat.le_of_ble_eq_true rfl) (P1_closed x o q n pl g t y _ _ _ _) rfl
    ⟨h.1, h.2.1, h.2.2.1, h.2.2.2.1, h.2.2.2.2.1, h1, k.1, k.2.1, k.2.2.1, k.2.2.2.1, k.2.2.2.2.1, k.2.2.2.2.2.1, k.2.2.2.2.2.2.1, k.2.2.2.2.2.2.2.1, k.2.2.2.2.2.2.2.2.1, dn _ _ _⟩ (by kernel_rfl)
theorem f13 {x o q pl : List Int} {n t : Nat} {g : Nat → Bool} {y : List Int} {a b c d z : Fc} {v e : Int} {X : Prop} (h : OA (P1 x o q n pl g t y ++ [rB a b c d]) n t 3 v e z X) (h1 : ile 0 z.u = false) : C1 t v 3 n (P1 x o q n pl g t y ++ [rB a b c d]) .normal (eI n t 9 v 4) (P1 x o q n pl g t y ++ [rB a b c z]) :=
  comes_run (S := RN.sc (dA e z) [(107, false)]) (k := 60) (ts := tI) (junk := [zB z]) (h1 := (P1 x o q n pl g t y ++ [rB a b c z])) (l0 := eI n t 9 v 4)
    (A := OA (P1 x o q n pl g t y ++ [rB a b c d]) n t 3 v e z ((ile 0 z.u = false) ∧ Dn .normal (eI n t 9 v 4) ((P1 x o q n pl g t y ++ [rB a b c z]) ++ [zB z]))) TY_ok mixed okI (Nat.le_of_ble_eq_true rfl) (P1_closed x o q n pl g t y _ _ _ _) rfl ⟨h.1, h.2.1, h.2.2.1, h.2.2.2.1, h.2.2.2.2.1, h1, dn _ _ _⟩ (by kernel_rfl)
theorem g13 {x o q pl : List Int} {n t : Nat} {g : Nat → Bool} {y : List Int} {a b c d z : Fc} {v e w : Int} {r p c1 c2 : Pm} {X Y : Prop} (h : OA (P1 x o q n pl g t y ++ [rB a b c d]) n t 3 v e z X) (h1 : ile 0 z.u = true) (k : OB (P1 x o q n pl g t y ++ [rB a b c z, zB z]) n t z w r p c1 c2 Y) : C1 t v 3 n (P1 x o q n pl g t y ++ [rB a b c d]) .normal (eI n t 9 v 4) (P1 x o q n pl g t y ++ [rB a b c (Fc.mk w c2)]) :=
  comes_run (S := RN.sc (dA e z ++ dB w r p c1 c2) [(107, true)]) (k := 60) (ts := tI) (junk := [zB z]) (h1 := (P1 x o q n pl g t y ++ [rB a b c (Fc.mk w c2)])) (l0 := eI n t 9 v 4)
    (A := OA (P1 x o q n pl g t y ++ [rB a b c d]) n t 3 v e z ((ile 0 z.u = true) ∧ OB (P1 x o q n pl g t y ++ [rB a b c z, zB z]) n t z w r p c1 c2 (Dn .normal (eI n t 9 v 4) ((P1 x o q n pl g t y ++ [rB a b c (Fc.mk w c2)]) ++ [zB z])))) TY_ok mixed okI (Nat.le_of_ble_eq_true rfl) (P1_closed x o q n pl g t y _ _ _ _) rfl
    ⟨h.1, h.2.1, h.2.2.1, h.2.2.2.1, h.2.2.2.2.1, h1, k.1, k.2.1, k.2.2.1, k.2.2.2.1, k.2.2.2.2.1, k.2.2.2.2.2.1, k.2.2.2.2.2.2.1, k.2.2.2.2.2.2.2.1, k.2.2.2.2.2.2.2.2.1, dn _ _ _⟩ (by kernel_rfl)
theorem e1 {x o q pl : List Int} {n t : Nat} {g : Nat → Bool} {y : List Int} {v : Int} {a b c d : Fc} : C1 t v 4 n (P1 x o q n pl g t y ++ [rB a b c d]) (.exit 4) (eJ n t 9 v) (P1 x o q n pl g t y ++ [rB a b c d]) :=
  comes_run (S := RN.sc [] []) (k := 60) (ts := tJ) (junk := []) (h1 := (P1 x o q n pl g t y ++ [rB a b c d])) (l0 := eJ n t 9 v) (A := Dn (.exit 4) (eJ n t 9 v) (P1 x o q n pl g t y ++ [rB a b c d])) TY_ok mixed okI (Nat.le_of_ble_eq_true rfl) (P1_closed x o q n pl g t y _ _ _ _) rfl (dn _ _ _) (by kernel_rfl)
end GN
end Go.Ab

namespace Go.Ab
open Go.Proofs

namespace GN
theorem oa_of {h : Heap} {x o q pl : List Int} {n t f b : Nat} (H : RH h x o q pl b) (hx : x.length = 20 * n) (ho : o.length = n) (hq : q.length = 4 * n) (K : OrdOk n o q) (ht : t < n) (hf : f < 4) :
    OA h n t f (cel o t) ((pmAt q (4 * t)).at (f : Nat)) (src x o q t f) True := by
  have a := Go.Ab.oa_of H hx ho hq K ht hf
  exact ⟨a.1, a.2.2.2.1, a.2.2.2.2.1, a.2.2.2.2.2.1, a.2.2.2.2.2.2.1, trivial⟩

theorem ob_of {h : Heap} {x o q pl : List Int} {n t f : Nat} (H : RH h x o q pl 5) (hq : q.length = 4 * n) (hpl : pl.length = n) (hin : ∀ v, v < n → 0 ≤ cel pl v ∧ cel pl v < n) (hc : chk n x = 0) (K : OrdOk n o q) (ht : t < n) (hf : f < 4) (h1 : ilt (src x o q t f).u 0 = false) :
    OB h n t (src x o q t f) (cel pl (src x o q t f).u.toNat) (pmAt q (4 * (cel pl (src x o q t f).u.toNat).toNat)) (pmAt q (4 * t)) (composeP (src x o q t f).p (pmAt q (4 * t))) (glu q pl t (src x o q t f)).p True := by
  have h1' : 0 ≤ (src x o q t f).u := by rw [ilt_eq] at h1; simpa using h1
  have hs : (src x o q t f).u < n ∧ (src x o q t f).p.valid = true := by
    rcases src_ok hc K ht hf with h | h
    · omega
    · exact h.2
  have hw := hin (src x o q t f).u.toNat (by omega)
  have hr := K.q (cel pl (src x o q t f).u.toNat).toNat (by omega)
  have hp := K.q t ht
  obtain ⟨w5, b5⟩ := H.b5
  obtain ⟨w2, b2⟩ := H.b2
  exact ⟨⟨h1', hs.1⟩, rd_int b5 (by omega), hw, rd_pm b2 (by omega), inverse24 hr, ⟨by omega, by omega⟩, rt4_of H.b2 hq ht, compose23 _ hp, compose23 _ (compose_valid hs.2 hp), trivial⟩
theorem ile_ilt {u : Int} (h : ilt u 0 = true) : ile 0 u = false := by rw [ilt_eq] at h; rw [ile_eq]; simp at h ⊢; omega
theorem ilt_ile {u : Int} (h : ilt u 0 = false) : ile 0 u = true := by rw [ilt_eq] at h; rw [ile_eq]; simp at h ⊢; omega
theorem src_free {x o q : List Int} {n t f : Nat} (hc : chk n x = 0) (K : OrdOk n o q) (ht : t < n) (hf : f < 4) (h1 : ilt (src x o q t f).u 0 = true) : src x o q t f = ⟨-1, .zero⟩ := by
  have h1' : (src x o q t f).u < 0 := by rw [ilt_eq] at h1; simpa using h1
  rcases src_ok hc K ht hf with h | h
  · generalize src x o q t f = a at h
    obtain ⟨u, p⟩ := a
    rw [show u = -1 from h.1, show p = .zero from h.2]
  · omega

theorem rh0 {x o q pl : List Int} {n t : Nat} {g : Nat → Bool} (r : Heap) : RH (P0 x o q n pl g ++ r) x o q pl 5 := ⟨⟨_, rfl⟩, ⟨_, rfl⟩, ⟨_, rfl⟩, ⟨_, rfl⟩⟩
def Hs0 (x o q pl : List Int) (n t : Nat) (g : Nat → Bool) : Nat → Heap
  | 0 => P0 x o q n pl g ++ [rB FcZ FcZ FcZ FcZ]
  | 1 => P0 x o q n pl g ++ [rB (rnF x o q pl t 0) FcZ FcZ FcZ]
  | 2 => P0 x o q n pl g ++ [rB (rnF x o q pl t 0) (rnF x o q pl t 1) FcZ FcZ]
  | 3 => P0 x o q n pl g ++ [rB (rnF x o q pl t 0) (rnF x o q pl t 1) (rnF x o q pl t 2) FcZ]
  | _ => P0 x o q n pl g ++ [rB (rnF x o q pl t 0) (rnF x o q pl t 1) (rnF x o q pl t 2) (rnF x o q pl t 3)]
theorem st00 {x o q pl : List Int} {n t : Nat} (g : Nat → Bool) (hx : x.length = 20 * n) (ho : o.length = n) (hq : q.length = 4 * n) (hpl : pl.length = n) (hin : ∀ v, v < n → 0 ≤ cel pl v ∧ cel pl v < n) (hc : chk n x = 0) (K : OrdOk n o q) (ht : t < n) : C0 t (cel o t) 0 n (Hs0 x o q pl n t g 0) .normal (eI n t 8 (cel o t) 1) (Hs0 x o q pl n t g 1) := by
  have hA := oa_of (f := 0) (rh0 (n := n) (t := t) (g := g) [rB FcZ FcZ FcZ FcZ] : RH _ x o q pl 5) hx ho hq K ht (by omega)
  cases h1 : ilt (src x o q t 0).u 0 with
  | true =>
    have e : rnF x o q pl t 0 = src x o q t 0 := by simp only [rnF]; rw [if_pos h1, src_free hc K ht (by omega) h1]
    have := f00 (g := g) hA (ile_ilt h1)
    simp only [Hs0]
    rw [e]
    exact this
  | false =>
    have e : rnF x o q pl t 0 = glu q pl t (src x o q t 0) := by simp only [rnF]; rw [if_neg (by rw [h1]; simp)]
    have := g00 (g := g) hA (ilt_ile h1) (ob_of (f := 0) (rh0 (n := n) (t := t) (g := g) [rB (src x o q t 0) FcZ FcZ FcZ, zB (src x o q t 0)] : RH _ x o q pl 5) hq hpl hin hc K ht (by omega) h1)
    simp only [Hs0]
    rw [e]
    exact this
theorem st01 {x o q pl : List Int} {n t : Nat} (g : Nat → Bool) (hx : x.length = 20 * n) (ho : o.length = n) (hq : q.length = 4 * n) (hpl : pl.length = n) (hin : ∀ v, v < n → 0 ≤ cel pl v ∧ cel pl v < n) (hc : chk n x = 0) (K : OrdOk n o q) (ht : t < n) : C0 t (cel o t) 1 n (Hs0 x o q pl n t g 1) .normal (eI n t 8 (cel o t) 2) (Hs0 x o q pl n t g 2) := by
  have hA := oa_of (f := 1) (rh0 (n := n) (t := t) (g := g) [rB (rnF x o q pl t 0) FcZ FcZ FcZ] : RH _ x o q pl 5) hx ho hq K ht (by omega)
  cases h1 : ilt (src x o q t 1).u 0 with
  | true =>
    have e : rnF x o q pl t 1 = src x o q t 1 := by simp only [rnF]; rw [if_pos h1, src_free hc K ht (by omega) h1]
    have := f01 (g := g) hA (ile_ilt h1)
    simp only [Hs0]
    rw [e]
    exact this
  | false =>
    have e : rnF x o q pl t 1 = glu q pl t (src x o q t 1) := by simp only [rnF]; rw [if_neg (by rw [h1]; simp)]
    have := g01 (g := g) hA (ilt_ile h1) (ob_of (f := 1) (rh0 (n := n) (t := t) (g := g) [rB (rnF x o q pl t 0) (src x o q t 1) FcZ FcZ, zB (src x o q t 1)] : RH _ x o q pl 5) hq hpl hin hc K ht (by omega) h1)
    simp only [Hs0]
    rw [e]
    exact this
theorem st02 {x o q pl : List Int} {n t : Nat} (g : Nat → Bool) (hx : x.length = 20 * n) (ho : o.length = n) (hq : q.length = 4 * n) (hpl : pl.length = n) (hin : ∀ v, v < n → 0 ≤ cel pl v ∧ cel pl v < n) (hc : chk n x = 0) (K : OrdOk n o q) (ht : t < n) : C0 t (cel o t) 2 n (Hs0 x o q pl n t g 2) .normal (eI n t 8 (cel o t) 3) (Hs0 x o q pl n t g 3) := by
  have hA := oa_of (f := 2) (rh0 (n := n) (t := t) (g := g) [rB (rnF x o q pl t 0) (rnF x o q pl t 1) FcZ FcZ] : RH _ x o q pl 5) hx ho hq K ht (by omega)
  cases h1 : ilt (src x o q t 2).u 0 with
  | true =>
    have e : rnF x o q pl t 2 = src x o q t 2 := by simp only [rnF]; rw [if_pos h1, src_free hc K ht (by omega) h1]
    have := f02 (g := g) hA (ile_ilt h1)
    simp only [Hs0]
    rw [e]
    exact this
  | false =>
    have e : rnF x o q pl t 2 = glu q pl t (src x o q t 2) := by simp only [rnF]; rw [if_neg (by rw [h1]; simp)]
    have := g02 (g := g) hA (ilt_ile h1) (ob_of (f := 2) (rh0 (n := n) (t := t) (g := g) [rB (rnF x o q pl t 0) (rnF x o q pl t 1) (src x o q t 2) FcZ, zB (src x o q t 2)] : RH _ x o q pl 5) hq hpl hin hc K ht (by omega) h1)
    simp only [Hs0]
    rw [e]
    exact this
theorem st03 {x o q pl : List Int} {n t : Nat} (g : Nat → Bool) (hx : x.length = 20 * n) (ho : o.length = n) (hq : q.length = 4 * n) (hpl : pl.length = n) (hin : ∀ v, v < n → 0 ≤ cel pl v ∧ cel pl v < n) (hc : chk n x = 0) (K : OrdOk n o q) (ht : t < n) : C0 t (cel o t) 3 n (Hs0 x o q pl n t g 3) .normal (eI n t 8 (cel o t) 4) (Hs0 x o q pl n t g 4) := by
  have hA := oa_of (f := 3) (rh0 (n := n) (t := t) (g := g) [rB (rnF x o q pl t 0) (rnF x o q pl t 1) (rnF x o q pl t 2) FcZ] : RH _ x o q pl 5) hx ho hq K ht (by omega)
  cases h1 : ilt (src x o q t 3).u 0 with
  | true =>
    have e : rnF x o q pl t 3 = src x o q t 3 := by simp only [rnF]; rw [if_pos h1, src_free hc K ht (by omega) h1]
    have := f03 (g := g) hA (ile_ilt h1)
    simp only [Hs0]
    rw [e]
    exact this
  | false =>
    have e : rnF x o q pl t 3 = glu q pl t (src x o q t 3) := by simp only [rnF]; rw [if_neg (by rw [h1]; simp)]
    have := g03 (g := g) hA (ilt_ile h1) (ob_of (f := 3) (rh0 (n := n) (t := t) (g := g) [rB (rnF x o q pl t 0) (rnF x o q pl t 1) (rnF x o q pl t 2) (src x o q t 3), zB (src x o q t 3)] : RH _ x o q pl 5) hq hpl hin hc K ht (by omega) h1)
    simp only [Hs0]
    rw [e]
    exact this
theorem loopI0 {x o q pl : List Int} {n t : Nat} (g : Nat → Bool) (hx : x.length = 20 * n) (ho : o.length = n) (hq : q.length = 4 * n) (hpl : pl.length = n) (hin : ∀ v, v < n → 0 ≤ cel pl v ∧ cel pl v < n) (hc : chk n x = 0) (K : OrdOk n o q) (ht : t < n) :
    (obs Tryz.prog TY none ([], true) 139).loop 3 (fb Tryz.f18 4) (eI n t 8 (cel o t) 0) (P0 x o q n pl g ++ [rB FcZ FcZ FcZ FcZ]) .normal (eJ n t 8 (cel o t)) (P0 x o q n pl g ++ [rB (rnF x o q pl t 0) (rnF x o q pl t 1) (rnF x o q pl t 2) (rnF x o q pl t 3)]) := by
  have hfb : fb Tryz.f18 4 = .block 4 (.loop (lb Tryz.f18 4)) := by kernel_rfl
  refine comes_loop hfb rfl (fun f => eI n t 8 (cel o t) f) (Hs0 x o q pl n t g ) (fun f => f ≤ 4) (fun f => 4 - f) 0 (by omega) rfl rfl ?_
  intro f hf
  have : f = 0 ∨ f = 1 ∨ f = 2 ∨ f = 3 ∨ f = 4 := by omega
  rcases this with rfl | rfl | rfl | rfl | rfl
  · exact .inl ⟨1, by omega, by omega, st00 g hx ho hq hpl hin hc K ht⟩
  · exact .inl ⟨2, by omega, by omega, st01 g hx ho hq hpl hin hc K ht⟩
  · exact .inl ⟨3, by omega, by omega, st02 g hx ho hq hpl hin hc K ht⟩
  · exact .inl ⟨4, by omega, by omega, st03 g hx ho hq hpl hin hc K ht⟩
  · exact .inr (.inl ⟨rfl, e0⟩)

theorem rh1 {x o q pl : List Int} {n t : Nat} {g : Nat → Bool} {y : List Int} (r : Heap) : RH (P1 x o q n pl g t y ++ r) x o q pl 5 := ⟨⟨_, rfl⟩, ⟨_, rfl⟩, ⟨_, rfl⟩, ⟨_, rfl⟩⟩
def Hs1 (x o q pl : List Int) (n t : Nat) (g : Nat → Bool) (y : List Int) : Nat → Heap
  | 0 => P1 x o q n pl g t y ++ [rB FcZ FcZ FcZ FcZ]
  | 1 => P1 x o q n pl g t y ++ [rB (rnF x o q pl t 0) FcZ FcZ FcZ]
  | 2 => P1 x o q n pl g t y ++ [rB (rnF x o q pl t 0) (rnF x o q pl t 1) FcZ FcZ]
  | 3 => P1 x o q n pl g t y ++ [rB (rnF x o q pl t 0) (rnF x o q pl t 1) (rnF x o q pl t 2) FcZ]
  | _ => P1 x o q n pl g t y ++ [rB (rnF x o q pl t 0) (rnF x o q pl t 1) (rnF x o q pl t 2) (rnF x o q pl t 3)]
theorem st10 {x o q pl : List Int} {n t : Nat} (g : Nat → Bool) (y : List Int) (hx : x.length = 20 * n) (ho : o.length = n) (hq : q.length = 4 * n) (hpl : pl.length = n) (hin : ∀ v, v < n → 0 ≤ cel pl v ∧ cel pl v < n) (hc : chk n x = 0) (K : OrdOk n o q) (ht : t < n) : C1 t (cel o t) 0 n (Hs1 x o q pl n t g y 0) .normal (eI n t 9 (cel o t) 1) (Hs1 x o q pl n t g y 1) := by
  have hA := oa_of (f := 0) (rh1 (n := n) (t := t) (g := g) (y := y) [rB FcZ FcZ FcZ FcZ] : RH _ x o q pl 5) hx ho hq K ht (by omega)
  cases h1 : ilt (src x o q t 0).u 0 with
  | true =>
    have e : rnF x o q pl t 0 = src x o q t 0 := by simp only [rnF]; rw [if_pos h1, src_free hc K ht (by omega) h1]
    have := f10 (g := g) (y := y) hA (ile_ilt h1)
    simp only [Hs1]
    rw [e]
    exact this
  | false =>
    have e : rnF x o q pl t 0 = glu q pl t (src x o q t 0) := by simp only [rnF]; rw [if_neg (by rw [h1]; simp)]
    have := g10 (g := g) (y := y) hA (ilt_ile h1) (ob_of (f := 0) (rh1 (n := n) (t := t) (g := g) (y := y) [rB (src x o q t 0) FcZ FcZ FcZ, zB (src x o q t 0)] : RH _ x o q pl 5) hq hpl hin hc K ht (by omega) h1)
    simp only [Hs1]
    rw [e]
    exact this
theorem st11 {x o q pl : List Int} {n t : Nat} (g : Nat → Bool) (y : List Int) (hx : x.length = 20 * n) (ho : o.length = n) (hq : q.length = 4 * n) (hpl : pl.length = n) (hin : ∀ v, v < n → 0 ≤ cel pl v ∧ cel pl v < n) (hc : chk n x = 0) (K : OrdOk n o q) (ht : t < n) : C1 t (cel o t) 1 n (Hs1 x o q pl n t g y 1) .normal (eI n t 9 (cel o t) 2) (Hs1 x o q pl n t g y 2) := by
  have hA := oa_of (f := 1) (rh1 (n := n) (t := t) (g := g) (y := y) [rB (rnF x o q pl t 0) FcZ FcZ FcZ] : RH _ x o q pl 5) hx ho hq K ht (by omega)
  cases h1 : ilt (src x o q t 1).u 0 with
  | true =>
    have e : rnF x o q pl t 1 = src x o q t 1 := by simp only [rnF]; rw [if_pos h1, src_free hc K ht (by omega) h1]
    have := f11 (g := g) (y := y) hA (ile_ilt h1)
    simp only [Hs1]
    rw [e]
    exact this
  | false =>
    have e : rnF x o q pl t 1 = glu q pl t (src x o q t 1) := by simp only [rnF]; rw [if_neg (by rw [h1]; simp)]
    have := g11 (g := g) (y := y) hA (ilt_ile h1) (ob_of (f := 1) (rh1 (n := n) (t := t) (g := g) (y := y) [rB (rnF x o q pl t 0) (src x o q t 1) FcZ FcZ, zB (src x o q t 1)] : RH _ x o q pl 5) hq hpl hin hc K ht (by omega) h1)
    simp only [Hs1]
    rw [e]
    exact this
theorem st12 {x o q pl : List Int} {n t : Nat} (g : Nat → Bool) (y : List Int) (hx : x.length = 20 * n) (ho : o.length = n) (hq : q.length = 4 * n) (hpl : pl.length = n) (hin : ∀ v, v < n → 0 ≤ cel pl v ∧ cel pl v < n) (hc : chk n x = 0) (K : OrdOk n o q) (ht : t < n) : C1 t (cel o t) 2 n (Hs1 x o q pl n t g y 2) .normal (eI n t 9 (cel o t) 3) (Hs1 x o q pl n t g y 3) := by
  have hA := oa_of (f := 2) (rh1 (n := n) (t := t) (g := g) (y := y) [rB (rnF x o q pl t 0) (rnF x o q pl t 1) FcZ FcZ] : RH _ x o q pl 5) hx ho hq K ht (by omega)
  cases h1 : ilt (src x o q t 2).u 0 with
  | true =>
    have e : rnF x o q pl t 2 = src x o q t 2 := by simp only [rnF]; rw [if_pos h1, src_free hc K ht (by omega) h1]
    have := f12 (g := g) (y := y) hA (ile_ilt h1)
    simp only [Hs1]
    rw [e]
    exact this
  | false =>
    have e : rnF x o q pl t 2 = glu q pl t (src x o q t 2) := by simp only [rnF]; rw [if_neg (by rw [h1]; simp)]
    have := g12 (g := g) (y := y) hA (ilt_ile h1) (ob_of (f := 2) (rh1 (n := n) (t := t) (g := g) (y := y) [rB (rnF x o q pl t 0) (rnF x o q pl t 1) (src x o q t 2) FcZ, zB (src x o q t 2)] : RH _ x o q pl 5) hq hpl hin hc K ht (by omega) h1)
    simp only [Hs1]
    rw [e]
    exact this
theorem st13 {x o q pl : List Int} {n t : Nat} (g : Nat → Bool) (y : List Int) (hx : x.length = 20 * n) (ho : o.length = n) (hq : q.length = 4 * n) (hpl : pl.length = n) (hin : ∀ v, v < n → 0 ≤ cel pl v ∧ cel pl v < n) (hc : chk n x = 0) (K : OrdOk n o q) (ht : t < n) : C1 t (cel o t) 3 n (Hs1 x o q pl n t g y 3) .normal (eI n t 9 (cel o t) 4) (Hs1 x o q pl n t g y 4) := by
  have hA := oa_of (f := 3) (rh1 (n := n) (t := t) (g := g) (y := y) [rB (rnF x o q pl t 0) (rnF x o q pl t 1) (rnF x o q pl t 2) FcZ] : RH _ x o q pl 5) hx ho hq K ht (by omega)
  cases h1 : ilt (src x o q t 3).u 0 with
  | true =>
    have e : rnF x o q pl t 3 = src x o q t 3 := by simp only [rnF]; rw [if_pos h1, src_free hc K ht (by omega) h1]
    have := f13 (g := g) (y := y) hA (ile_ilt h1)
    simp only [Hs1]
    rw [e]
    exact this
  | false =>
    have e : rnF x o q pl t 3 = glu q pl t (src x o q t 3) := by simp only [rnF]; rw [if_neg (by rw [h1]; simp)]
    have := g13 (g := g) (y := y) hA (ilt_ile h1) (ob_of (f := 3) (rh1 (n := n) (t := t) (g := g) (y := y) [rB (rnF x o q pl t 0) (rnF x o q pl t 1) (rnF x o q pl t 2) (src x o q t 3), zB (src x o q t 3)] : RH _ x o q pl 5) hq hpl hin hc K ht (by omega) h1)
    simp only [Hs1]
    rw [e]
    exact this
theorem loopI1 {x o q pl : List Int} {n t : Nat} (g : Nat → Bool) (y : List Int) (hx : x.length = 20 * n) (ho : o.length = n) (hq : q.length = 4 * n) (hpl : pl.length = n) (hin : ∀ v, v < n → 0 ≤ cel pl v ∧ cel pl v < n) (hc : chk n x = 0) (K : OrdOk n o q) (ht : t < n) :
    (obs Tryz.prog TY none ([], true) 139).loop 3 (fb Tryz.f18 4) (eI n t 9 (cel o t) 0) (P1 x o q n pl g t y ++ [rB FcZ FcZ FcZ FcZ]) .normal (eJ n t 9 (cel o t)) (P1 x o q n pl g t y ++ [rB (rnF x o q pl t 0) (rnF x o q pl t 1) (rnF x o q pl t 2) (rnF x o q pl t 3)]) := by
  have hfb : fb Tryz.f18 4 = .block 4 (.loop (lb Tryz.f18 4)) := by kernel_rfl
  refine comes_loop hfb rfl (fun f => eI n t 9 (cel o t) f) (Hs1 x o q pl n t g y ) (fun f => f ≤ 4) (fun f => 4 - f) 0 (by omega) rfl rfl ?_
  intro f hf
  have : f = 0 ∨ f = 1 ∨ f = 2 ∨ f = 3 ∨ f = 4 := by omega
  rcases this with rfl | rfl | rfl | rfl | rfl
  · exact .inl ⟨1, by omega, by omega, st10 g y hx ho hq hpl hin hc K ht⟩
  · exact .inl ⟨2, by omega, by omega, st11 g y hx ho hq hpl hin hc K ht⟩
  · exact .inl ⟨3, by omega, by omega, st12 g y hx ho hq hpl hin hc K ht⟩
  · exact .inl ⟨4, by omega, by omega, st13 g y hx ho hq hpl hin hc K ht⟩
  · exact .inr (.inl ⟨rfl, e1⟩)
end GN
end Go.Ab
