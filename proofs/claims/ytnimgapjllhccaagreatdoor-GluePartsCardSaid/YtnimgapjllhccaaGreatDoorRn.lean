/- A tetrahedron of Renumber of the specification. Conditions: none beyond the given model and program. -/
import Derived.Test.YtnimgapjllhccaaGreatDoorIo
namespace Go.Ab
open Go.Proofs

theorem compose_valid {p q : Pm} (hp : p.valid = true) (hq : q.valid = true) : (composeP p q).valid = true := by
  have h : l24.all (fun p => l24.all fun q => (composeP p q).valid) = true := by kernel_rfl
  exact List.all_eq_true.1 (List.all_eq_true.1 h p (mem24 hp)) q (mem24 hq)
theorem inverse_valid {p : Pm} (hp : p.valid = true) : (inverseP p).valid = true := by
  have h : l24.all (fun p => (inverseP p).valid) = true := by kernel_rfl
  exact List.all_eq_true.1 h p (mem24 hp)

def InN (i : Nat) (n : Nat) : Prop := 0 ≤ (i : Int) ∧ (i : Int) < (n : Int)
def InI (v : Int) (n : Nat) : Prop := 0 ≤ v ∧ v < (n : Int)
def Rv (h : Heap) (t : Nat) (v : Int) : Prop := readCells h ⟨1, 0 + t * 1, none⟩ 1 = some [.int .i64 v]
def Re (h : Heap) (t f : Nat) (e : Int) : Prop := readCells h ⟨2, 0 + t * 4 + f * 1, none⟩ 1 = some [.int .i64 e]
def Ra (h : Heap) (v e : Int) (a : Fc) : Prop := readCells h ⟨0, 0 + v.toNat * 20 + e.toNat * 5, none⟩ 5 = some a.cells
def Rw (h : Heap) (b : Nat) (u w : Int) : Prop := readCells h ⟨b, 0 + u.toNat * 1, none⟩ 1 = some [.int .i64 w]
def Rq (h : Heap) (w : Int) (p : Pm) : Prop := readCells h ⟨2, 0 + w.toNat * 4, none⟩ 4 = some (pmL p)
def Rt4 (h : Heap) (t : Nat) (p : Pm) : Prop := readCells h ⟨2, 0 + t * 4, none⟩ 4 = some (pmL p)
def FcZ : Fc := ⟨0, .zero⟩
def rB (a b c d : Fc) : Option Blk := some ⟨c4 a b c d, true⟩
def zB (z : Fc) : Option Blk := some ⟨z.cells, true⟩

namespace RN
def P0 (x o q : List Int) (n : Nat) (pl : List Int) : Heap := [some ⟨ints x, false⟩, some ⟨ints o, false⟩, some ⟨ints q, false⟩, some ⟨[gS 0 n], true⟩, some ⟨[.slice none 0 0], true⟩, some ⟨ints pl, true⟩, some ⟨[.slice none 0 0], true⟩]
def P1 (x o q : List Int) (n : Nat) (pl : List Int) (t : Nat) (y : List Int) : Heap := [some ⟨ints x, false⟩, some ⟨ints o, false⟩, some ⟨ints q, false⟩, some ⟨[gS 0 n], true⟩, some ⟨[.slice none 0 0], true⟩, some ⟨ints pl, true⟩, some ⟨[gS 7 t], true⟩, some ⟨ints y, true⟩]
theorem P0_closed (x o q : List Int) (n : Nat) (pl : List Int) (a b c d : Fc) : closedH 8 (P0 x o q n pl ++ [rB a b c d]) :=
  closedH_cons (subL_plain _ _ (ints_plain x)) (closedH_cons (subL_plain _ _ (ints_plain o)) (closedH_cons (subL_plain _ _ (ints_plain q)) (closedH_cons (belowL_sub _ rfl) (closedH_cons (subL_plain _ _ rfl) (closedH_cons (subL_plain _ _ (ints_plain pl)) (closedH_cons (subL_plain _ _ rfl) (closedH_cons (subL_plain _ _ rfl) closedH_nil)))))))
theorem P1_closed (x o q : List Int) (n : Nat) (pl : List Int) (t : Nat) (y : List Int) (a b c d : Fc) : closedH 9 (P1 x o q n pl t y ++ [rB a b c d]) :=
  closedH_cons (subL_plain _ _ (ints_plain x)) (closedH_cons (subL_plain _ _ (ints_plain o)) (closedH_cons (subL_plain _ _ (ints_plain q)) (closedH_cons (belowL_sub _ rfl) (closedH_cons (subL_plain _ _ rfl) (closedH_cons (subL_plain _ _ (ints_plain pl)) (closedH_cons (belowL_sub _ rfl) (closedH_cons (subL_plain _ _ (ints_plain y)) (closedH_cons (subL_plain _ _ rfl) closedH_nil))))))))
def plS (n : Nat) : Value := .slice (some ⟨5, 0, none⟩) n 1
def eT (n t : Nat) : List (Nat × Value) := [(1, oS 1 n), (2, pS 2 n), (3, .pointer (some ⟨3, 0, none⟩)), (6, .pointer (some ⟨4, 0, none⟩)), (8, .int .i64 n), (9, plS n), (11, .pointer (some ⟨6, 0, none⟩)), (12, .int .i64 t)]
def eJ (n t b : Nat) : List (Nat × Value) := [(1, oS 1 n), (2, pS 2 n), (3, .pointer (some ⟨3, 0, none⟩)), (6, .pointer (some ⟨4, 0, none⟩)), (8, .int .i64 n), (9, plS n), (11, .pointer (some ⟨6, 0, none⟩)), (12, .int .i64 t), (13, .pointer (some ⟨b, 0, none⟩))]
def eI (n t b f : Nat) : List (Nat × Value) := [(1, oS 1 n), (2, pS 2 n), (3, .pointer (some ⟨3, 0, none⟩)), (6, .pointer (some ⟨4, 0, none⟩)), (8, .int .i64 n), (9, plS n), (11, .pointer (some ⟨6, 0, none⟩)), (12, .int .i64 t), (13, .pointer (some ⟨b, 0, none⟩)), (14, .int .i64 f)]
theorem okI : codeOk 103 (lb Tryz.f17 4) = true := by kernel_rfl
theorem ok2 : codeOk 103 (lb Tryz.f17 2) = true := by kernel_rfl
theorem ok0 : codeOk 103 (lb Tryz.f17 0) = true := by kernel_rfl
def sc (d : List ((Nat × Nat) × (Option Bool × Td))) (k : List (Nat × Bool)) : Ts := { dir := dd d, know := kk k, loop := noloop }
def dA (v e : Int) (a : Fc) : List ((Nat × Nat) × (Option Bool × Td)) := [((19, 4), ixD), ((19, 5), ldC [.int .i64 v]), ((19, 9), ixD), ((19, 11), ldC [.int .i64 e]), ((19, 12), ixD), ((19, 13), ixD), ((19, 14), ldF a)]
abbrev OA (h : Heap) (n t f : Nat) (v e : Int) (a : Fc) (X : Prop) : Prop := InN t n ∧ Rv h t v ∧ InN t n ∧ Re h t f e ∧ InI v n ∧ InI e 4 ∧ Ra h v e a ∧ X
def dB (w : Int) (r p c1 c2 : Pm) : List ((Nat × Nat) × (Option Bool × Td)) := [((22, 3), ixD), ((22, 4), ldC [.int .i64 w]), ((23, 4), ixD), ((23, 5), ldC (pmL r)), ((23, 6), plD (pmv (inverseP r))), ((23, 11), ixD), ((23, 12), ldC (pmL p)), ((23, 13), plD (pmv c1)), ((23, 14), plD (pmv c2))]
abbrev OB (h : Heap) (n t : Nat) (a : Fc) (w : Int) (r p c1 c2 : Pm) (X : Prop) : Prop := InI a.u n ∧ Rw h 5 a.u w ∧ InI w n ∧ Rq h w r ∧ Plain Tryz.prog 28 [pmv r] (pmv (inverseP r)) ∧ InN t n ∧ Rt4 h t p ∧ Plain Tryz.prog 27 [pmv a.p, pmv p] (pmv c1) ∧ Plain Tryz.prog 27 [pmv (inverseP r), pmv c1] (pmv c2) ∧ X

abbrev C0 (t : Nat) (f : Nat) (n : Nat) (h : Heap) (ax : AX) (l : List (Nat × Value)) (h' : Heap) : Prop := Comes none ([], true) Tryz.prog 103 3 (lb Tryz.f17 4) (eI n t 7 f) h ax l h'
theorem f00 {x o q pl : List Int} {n t : Nat} {a b c d z : Fc} {v e : Int} {X : Prop} (h : OA (P0 x o q n pl ++ [rB a b c d]) n t 0 v e z X) (h1 : ilt z.u 0 = true) : C0 t 0 n (P0 x o q n pl ++ [rB a b c d]) .normal (eI n t 7 1) (P0 x o q n pl ++ [rB (Fc.mk (-1) a.p) b c d]) :=
  comes_run (S := sc (dA v e z) [(70, true)]) (k := 60) (ts := [1, 2, 3, 6, 8, 9, 11, 12, 13, 14]) (junk := [zB z]) (h1 := (P0 x o q n pl ++ [rB (Fc.mk (-1) a.p) b c d])) (l0 := eI n t 7 1)
    (A := OA (P0 x o q n pl ++ [rB a b c d]) n t 0 v e z ((ilt z.u 0 = true) ∧ Dn .normal (eI n t 7 1) ((P0 x o q n pl ++ [rB (Fc.mk (-1) a.p) b c d]) ++ [zB z]))) TY_ok mixed okI (Nat.le_of_ble_eq_true rfl) (P0_closed x o q n pl _ _ _ _) rfl ⟨h.1, h.2.1, h.2.2.1, h.2.2.2.1, h.2.2.2.2.1, h.2.2.2.2.2.1, h.2.2.2.2.2.2.1, h1, dn _ _ _⟩ (by kernel_rfl)
theorem g00 {x o q pl : List Int} {n t : Nat} {a b c d z : Fc} {v e w : Int} {r p c1 c2 : Pm} {X Y : Prop} (h : OA (P0 x o q n pl ++ [rB a b c d]) n t 0 v e z X) (h1 : ilt z.u 0 = false) (k : OB (P0 x o q n pl ++ [rB a b c d, zB z]) n t z w r p c1 c2 Y) : C0 t 0 n (P0 x o q n pl ++ [rB a b c d]) .normal (eI n t 7 1) (P0 x o q n pl ++ [rB (Fc.mk w c2) b c d]) :=
  comes_run (S := sc (dA v e z ++ dB w r p c1 c2) [(70, false)]) (k := 60) (ts := [1, 2, 3, 6, 8, 9, 11, 12, 13, 14]) (junk := [zB z]) (h1 := (P0 x o q n pl ++ [rB (Fc.mk w c2) b c d])) (l0 := eI n t 7 1)
    (A := OA (P0 x o q n pl ++ [rB a b c d]) n t 0 v e z ((ilt z.u 0 = false) ∧ OB (P0 x o q n pl ++ [rB a b c d, zB z]) n t z w r p c1 c2 (Dn .normal (eI n t 7 1) ((P0 x o q n pl ++ [rB (Fc.mk w c2) b c d]) ++ [zB z])))) TY_ok mixed okI (Nat.le_of_ble_eq_true rfl) (P0_closed x o q n pl _ _ _ _) rfl
    ⟨h.1, h.2.1, h.2.2.1, h.2.2.2.1, h.2.2.2.2.1, h.2.2.2.2.2.1, h.2.2.2.2.2.2.1, h1, k.1, k.2.1, k.2.2.1, k.2.2.2.1, k.2.2.2.2.1, k.2.2.2.2.2.1, k.2.2.2.2.2.2.1, k.2.2.2.2.2.2.2.1, k.2.2.2.2.2.2.2.2.1, dn _ _ _⟩ (by kernel_rfl)
theorem f01 {x o q pl : List Int} {n t : Nat} {a b c d z : Fc} {v e : Int} {X : Prop} (h : OA (P0 x o q n pl ++ [rB a b c d]) n t 1 v e z X) (h1 : ilt z.u 0 = true) : C0 t 1 n (P0 x o q n pl ++ [rB a b c d]) .normal (eI n t 7 2) (P0 x o q n pl ++ [rB a (Fc.mk (-1) b.p) c d]) :=
  comes_run (S := sc (dA v e z) [(70, true)]) (k := 60) (ts := [1, 2, 3, 6, 8, 9, 11, 12, 13, 14]) (junk := [zB z]) (h1 := (P0 x o q n pl ++ [rB a (Fc.mk (-1) b.p) c d])) (l0 := eI n t 7 2)
    (A := OA (P0 x o q n pl ++ [rB a b c d]) n t 1 v e z ((ilt z.u 0 = true) ∧ Dn .normal (eI n t 7 2) ((P0 x o q n pl ++ [rB a (Fc.mk (-1) b.p) c d]) ++ [zB z]))) TY_ok mixed okI (Nat.le_of_ble_eq_true rfl) (P0_closed x o q n pl _ _ _ _) rfl ⟨h.1, h.2.1, h.2.2.1, h.2.2.2.1, h.2.2.2.2.1, h.2.2.2.2.2.1, h.2.2.2.2.2.2.1, h1, dn _ _ _⟩ (by kernel_rfl)
theorem g01 {x o q pl : List Int} {n t : Nat} {a b c d z : Fc} {v e w : Int} {r p c1 c2 : Pm} {X Y : Prop} (h : OA (P0 x o q n pl ++ [rB a b c d]) n t 1 v e z X) (h1 : ilt z.u 0 = false) (k : OB (P0 x o q n pl ++ [rB a b c d, zB z]) n t z w r p c1 c2 Y) : C0 t 1 n (P0 x o q n pl ++ [rB a b c d]) .normal (eI n t 7 2) (P0 x o q n pl ++ [rB a (Fc.mk w c2) c d]) :=
  comes_run (S := sc (dA v e z ++ dB w r p c1 c2) [(70, false)]) (k := 60) (ts := [1, 2, 3, 6, 8, 9, 11, 12, 13, 14]) (junk := [zB z]) (h1 := (P0 x o q n pl ++ [rB a (Fc.mk w c2) c d])) (l0 := eI n t 7 2)
    (A := OA (P0 x o q n pl ++ [rB a b c d]) n t 1 v e z ((ilt z.u 0 = false) ∧ OB (P0 x o q n pl ++ [rB a b c d, zB z]) n t z w r p c1 c2 (Dn .normal (eI n t 7 2) ((P0 x o q n pl ++ [rB a (Fc.mk w c2) c d]) ++ [zB z])))) TY_ok mixed okI (Nat.le_of_ble_eq_true rfl) (P0_closed x o q n pl _ _ _ _) rfl
    ⟨h.1, h.2.1, h.2.2.1, h.2.2.2.1, h.2.2.2.2.1, h.2.2.2.2.2.1, h.2.2.2.2.2.2.1, h1, k.1, k.2.1, k.2.2.1, k.2.2.2.1, k.2.2.2.2.1, k.2.2.2.2.2.1, k.2.2.2.2.2.2.1, k.2.2.2.2.2.2.2.1, k.2.2.2.2.2.2.2.2.1, dn _ _ _⟩ (by kernel_rfl)
theorem f02 {x o q pl : List Int} {n t : Nat} {a b c d z : Fc} {v e : Int} {X : Prop} (h : OA (P0 x o q n pl ++ [rB a b c d]) n t 2 v e z X) (h1 : ilt z.u 0 = true) : C0 t 2 n (P0 x o q n pl ++ [rB a b c d]) .normal (eI n t 7 3) (P0 x o q n pl ++ [rB a b (Fc.mk (-1) c.p) d]) :=
  comes_run (S := sc (dA v e z) [(70, true)]) (k := 60) (ts := [1, 2, 3, 6, 8, 9, 11, 12, 13, 14]) (junk := [zB z]) (h1 := (P0 x o q n pl ++ [rB a b (Fc.mk (-1) c.p) d])) (l0 := eI n t 7 3)
    (A := OA (P0 x o q n pl ++ [rB a b c d]) n t 2 v e z ((ilt z.u 0 = true) ∧ Dn .normal (eI n t 7 3) ((P0 x o q n pl ++ [rB a b (Fc.mk (-1) c.p) d]) ++ [zB z]))) TY_ok mixed okI (Nat.le_of_ble_eq_true rfl) (P0_closed x o q n pl _ _ _ _) rfl ⟨h.1, h.2.1, h.2.2.1, h.2.2.2.1, h.2.2.2.2.1, h.2.2.2.2.2.1, h.2.2.2.2.2.2.1, h1, dn _ _ _⟩ (by kernel_rfl)
theorem g02 {x o q pl : List Int} {n t : Nat} {a b c d z : Fc} {v e w : Int} {r p c1 c2 : Pm} {X Y : Prop} (h : OA (P0 x o q n pl ++ [rB a b c d]) n t 2 v e z X) (h1 : ilt z.u 0 = false) (k : OB (P0 x o q n pl ++ [rB a b c d, zB z]) n t z w r p c1 c2 Y) : C0 t 2 n (P0 x o q n pl ++ [rB a b c d]) .normal (eI n t 7 3) (P0 x o q n pl ++ [rB a b (Fc.mk w c2) d]) :=
  comes_run (S := sc (dA v e z ++ dB w r p c1 c2) [(70, false)]) (k := 60) (ts := [1, 2, 3, 6, 8, 9, 11, 12, 13, 14]) (junk := [zB z]) (h1 := (P0 x o q n pl ++ [rB a b (Fc.mk w c2) d])) (l0 := eI n t 7 3)
    (A := OA (P0 x o q n pl ++ [rB a b c d]) n t 2 v e z ((ilt z.u 0 = false) ∧ OB (P0 x o q n pl ++ [rB a b c d, zB z]) n t z w r p c1 c2 (Dn .normal (eI n t 7 3) ((P0 x o q n pl ++ [rB a b (Fc.mk w c2) d]) ++ [zB z])))) TY_ok mixed okI (Nat.le_of_ble_eq_true rfl) (P0_closed x o q n pl _ _ _ _) rfl
    ⟨h.1, h.2.1, h.2.2.1, h.2.2.2.1, h.2.2.2.2.1, h.2.2.2.2.2.1, h.2.2.2.2.2.2.1, h1, k.1, k.2.1, k.2.2.1, k.2.2.2.1, k.2.2.2.2.1, k.2.2.2.2.2.1, k.2.2.2.2.2.2.1, k.2.2.2.2.2.2.2.1, k.2.2.2.2.2.2.2.2.1, dn _ _ _⟩ (by kernel_rfl)
theorem f03 {x o q pl : List Int} {n t : Nat} {a b c d z : Fc} {v e : Int} {X : Prop} (h : OA (P0 x o q n pl ++ [rB a b c d]) n t 3 v e z X) (h1 : ilt z.u 0 = true) : C0 t 3 n (P0 x o q n pl ++ [rB a b c d]) .normal (eI n t 7 4) (P0 x o q n pl ++ [rB a b c (Fc.mk (-1) d.p)]) :=
  comes_run (S := sc (dA v e z) [(70, true)]) (k := 60) (ts := [1, 2, 3, 6, 8, 9, 11, 12, 13, 14]) (junk := [zB z]) (h1 := (P0 x o q n pl ++ [rB a b c (Fc.mk (-1) d.p)])) (l0 := eI n t 7 4)
    (A := OA (P0 x o q n pl ++ [rB a b c d]) n t 3 v e z ((ilt z.u 0 = true) ∧ Dn .normal (eI n t 7 4) ((P0 x o q n pl ++ [rB a b c (Fc.mk (-1) d.p)]) ++ [zB z]))) TY_ok mixed okI (Nat.le_of_ble_eq_true rfl) (P0_closed x o q n pl _ _ _ _) rfl ⟨h.1, h.2.1, h.2.2.1, h.2.2.2.1, h.2.2.2.2.1, h.2.2.2.2.2.1, h.2.2.2.2.2.2.1, h1, dn _ _ _⟩ (by kernel_rfl)
theorem g03 {x o q pl : List Int} {n t : Nat} {a b c d z : Fc} {v e w : Int} {r p c1 c2 : Pm} {X Y : Prop} (h : OA (P0 x o q n pl ++ [rB a b c d]) n t 3 v e z X) (h1 : ilt z.u 0 = false) (k : OB (P0 x o q n pl ++ [rB a b c d, zB z]) n t z w r p c1 c2 Y) : C0 t 3 n (P0 x o q n pl ++ [rB a b c d]) .normal (eI n t 7 4) (P0 x o q n pl ++ [rB a b c (Fc.mk w c2)]) :=
  comes_run (S := sc (dA v e z ++ dB w r p c1 c2) [(70, false)]) (k := 60) (ts := [1, 2, 3, 6, 8, 9, 11, 12, 13, 14]) (junk := [zB z]) (h1 := (P0 x o q n pl ++ [rB a b c (Fc.mk w c2)])) (l0 := eI n t 7 4)
    (A := OA (P0 x o q n pl ++ [rB a b c d]) n t 3 v e z ((ilt z.u 0 = false) ∧ OB (P0 x o q n pl ++ [rB a b c d, zB z]) n t z w r p c1 c2 (Dn .normal (eI n t 7 4) ((P0 x o q n pl ++ [rB a b c (Fc.mk w c2)]) ++ [zB z])))) TY_ok mixed okI (Nat.le_of_ble_eq_true rfl) (P0_closed x o q n pl _ _ _ _) rfl
    ⟨h.1, h.2.1, h.2.2.1, h.2.2.2.1, h.2.2.2.2.1, h.2.2.2.2.2.1, h.2.2.2.2.2.2.1, h1, k.1, k.2.1, k.2.2.1, k.2.2.2.1, k.2.2.2.2.1, k.2.2.2.2.2.1, k.2.2.2.2.2.2.1, k.2.2.2.2.2.2.2.1, k.2.2.2.2.2.2.2.2.1, dn _ _ _⟩ (by kernel_rfl)
theorem e0 {x o q pl : List Int} {n t : Nat} {a b c d : Fc} : C0 t 4 n (P0 x o q n pl ++ [rB a b c d]) (.exit 4) (eJ n t 7) (P0 x o q n pl ++ [rB a b c d]) :=
  comes_run (S := sc [] []) (k := 60) (ts := [1, 2, 3, 6, 8, 9, 11, 12, 13]) (junk := []) (h1 := (P0 x o q n pl ++ [rB a b c d])) (l0 := eJ n t 7) (A := Dn (.exit 4) (eJ n t 7) (P0 x o q n pl ++ [rB a b c d])) TY_ok mixed okI (Nat.le_of_ble_eq_true rfl) (P0_closed x o q n pl _ _ _ _) rfl (dn _ _ _) (by kernel_rfl)

abbrev C1 (t : Nat) (f : Nat) (n : Nat) (h : Heap) (ax : AX) (l : List (Nat × Value)) (h' : Heap) : Prop := Comes none ([], true) Tryz.prog 103 3 (lb Tryz.f17 4) (eI n t 8 f) h ax l h'
theorem f10 {x o q pl : List Int} {n t : Nat} {y : List Int} {a b c d z : Fc} {v e : Int} {X : Prop} (h : OA (P1 x o q n pl t y ++ [rB a b c d]) n t 0 v e z X) (h1 : ilt z.u 0 = true) : C1 t 0 n (P1 x o q n pl t y ++ [rB a b c d]) .normal (eI n t 8 1) (P1 x o q n pl t y ++ [rB (Fc.mk (-1) a.p) b c d]) :=
  comes_run (S := sc (dA v e z) [(70, true)]) (k := 60) (ts := [1, 2, 3, 6, 8, 9, 11, 12, 13, 14]) (junk := [zB z]) (h1 := (P1 x o q n pl t y ++ [rB (Fc.mk (-1) a.p) b c d])) (l0 := eI n t 8 1)
    (A := OA (P1 x o q n pl t y ++ [rB a b c d]) n t 0 v e z ((ilt z.u 0 = true) ∧ Dn .normal (eI n t 8 1) ((P1 x o q n pl t y ++ [rB (Fc.mk (-1) a.p) b c d]) ++ [zB z]))) TY_ok mixed okI (Nat.le_of_ble_eq_true rfl) (P1_closed x o q n pl t y _ _ _ _) rfl ⟨h.1, h.2.1, h.2.2.1, h.2.2.2.1, h.2.2.2.2.1, h.2.2.2.2.2.1, h.2.2.2.2.2.2.1, h1, dn _ _ _⟩ (by kernel_rfl)
theorem g10 {x o q pl : List Int} {n t : Nat} {y : List Int} {a b c d z : Fc} {v e w : Int} {r p c1 c2 : Pm} {X Y : Prop} (h : OA (P1 x o q n pl t y ++ [rB a b c d]) n t 0 v e z X) (h1 : ilt z.u 0 = false) (k : OB (P1 x o q n pl t y ++ [rB a b c d, zB z]) n t z w r p c1 c2 Y) : C1 t 0 n (P1 x o q n pl t y ++ [rB a b c d]) .normal (eI n t 8 1) (P1 x o q n pl t y ++ [rB (Fc.mk w c2) b c d]) :=
  comes_run (S := sc (dA v e z ++ dB w r p c1 c2) [(70, false)]) (k := 60) (ts := [1, 2, 3, 6, 8, 9, 11, 12, 13, 14]) (junk := [zB z]) (h1 := (P1 x o q n pl t y ++ [rB (Fc.mk w c2) b c d])) (l0 := eI n t 8 1)
    (A := OA (P1 x o q n pl t y ++ [rB a b c d]) n t 0 v e z ((ilt z.u 0 = false) ∧ OB (P1 x o q n pl t y ++ [rB a b c d, zB z]) n t z w r p c1 c2 (Dn .normal (eI n t 8 1) ((P1 x o q n pl t y ++ [rB (Fc.mk w c2) b c d]) ++ [zB z])))) TY_ok mixed okI (Nat.le_of_ble_eq_true rfl) (P1_closed x o q n pl t y _ _ _ _) rfl
    ⟨h.1, h.2.1, h.2.2.1, h.2.2.2.1, h.2.2.2.2.1, h.2.2.2.2.2.1, h.2.2.2.2.2.2.1, h1, k.1, k.2.1, k.2.2.1, k.2.2.2.1, k.2.2.2.2.1, k.2.2.2.2.2.1, k.2.2.2.2.2.2.1, k.2.2.2.2.2.2.2.1, k.2.2.2.2.2.2.2.2.1, dn _ _ _⟩ (by kernel_rfl)
theorem f11 {x o q pl : List Int} {n t : Nat} {y : List Int} {a b c d z : Fc} {v e : Int} {X : Prop} (h : OA (P1 x o q n pl t y ++ [rB a b c d]) n t 1 v e z X) (h1 : ilt z.u 0 = true) : C1 t 1 n (P1 x o q n pl t y ++ [rB a b c d]) .normal (eI n t 8 2) (P1 x o q n pl t y ++ [rB a (Fc.mk (-1) b.p) c d]) :=
  comes_run (S := sc (dA v e z) [(70, true)]) (k := 60) (ts := [1, 2, 3, 6, 8, 9, 11, 12, 13, 14]) (junk := [zB z]) (h1 := (P1 x o q n pl t y ++ [rB a (Fc.mk (-1) b.p) c d])) (l0 := eI n t 8 2)
    (A := OA (P1 x o q n pl t y ++ [rB a b c d]) n t 1 v e z ((ilt z.u 0 = true) ∧ Dn .normal (eI n t 8 2) ((P1 x o q n pl t y ++ [rB a (Fc.mk (-1) b.p) c d]) ++ [zB z]))) TY_ok mixed okI (Nat.le_of_ble_eq_true rfl) (P1_closed x o q n pl t y _ _ _ _) rfl ⟨h.1, h.2.1, h.2.2.1, h.2.2.2.1, h.2.2.2.2.1, h.2.2.2.2.2.1, h.2.2.2.2.2.2.1, h1, dn _ _ _⟩ (by kernel_rfl)
theorem g11 {x o q pl : List Int} {n t : Nat} {y : List Int} {a b c d z : Fc} {v e w : Int} {r p c1 c2 : Pm} {X Y : Prop} (h : OA (P1 x o q n pl t y ++ [rB a b c d]) n t 1 v e z X) (h1 : ilt z.u 0 = false) (k : OB (P1 x o q n pl t y ++ [rB a b c d, zB z]) n t z w r p c1 c2 Y) : C1 t 1 n (P1 x o q n pl t y ++ [rB a b c d]) .normal (eI n t 8 2) (P1 x o q n pl t y ++ [rB a (Fc.mk w c2) c d]) :=
  comes_run (S := sc (dA v e z ++ dB w r p c1 c2) [(70, false)]) (k := 60) (ts := [1, 2, 3, 6, 8, 9, 11, 12, 13, 14]) (junk := [zB z]) (h1 := (P1 x o q n pl t y ++ [rB a (Fc.mk w c2) c d])) (l0 := eI n t 8 2)
    (A := OA (P1 x o q n pl t y ++ [rB a b c d]) n t 1 v e z ((ilt z.u 0 = false) ∧ OB (P1 x o q n pl t y ++ [rB a b c d, zB z]) n t z w r p c1 c2 (Dn .normal (eI n t 8 2) ((P1 x o q n pl t y ++ [rB a (Fc.mk w c2) c d]) ++ [zB z])))) TY_ok mixed okI (Nat.le_of_ble_eq_true rfl) (P1_closed x o q n pl t y _ _ _ _) rfl
    ⟨h.1, h.2.1, h.2.2.1, h.2.2.2.1, h.2.2.2.2.1, h.2.2.2.2.2.1, h.2.2.2.2.2.2.1, h1, k.1, k.2.1, k.2.2.1, k.2.2.2.1, k.2.2.2.2.1, k.2.2.2.2.2.1, k.2.2.2.2.2.2.1, k.2.2.2.2.2.2.2.1, k.2.2.2.2.2.2.2.2.1, dn _ _ _⟩ (by kernel_rfl)
theorem f12 {x o q pl : List Int} {n t : Nat} {y : List Int} {a b c d z : Fc} {v e : Int} {X : Prop} (h : OA (P1 x o q n pl t y ++ [rB a b c d]) n t 2 v e z X) (h1 : ilt z.u 0 = true) : C1 t 2 n (P1 x o q n pl t y ++ [rB a b c d]) .normal (eI n t 8 3) (P1 x o q n pl t y ++ [rB a b (Fc.mk (-1) c.p) d]) :=
  comes_run (S := sc (dA v e z) [(70, true)]) (k := 60) (ts := [1, 2, 3, 6, 8, 9, 11, 12, 13, 14]) (junk := [zB z]) (h1 := (P1 x o q n pl t y ++ [rB a b (Fc.mk (-1) c.p) d])) (l0 := eI n t 8 3)
    (A := OA (P1 x o q n pl t y ++ [rB a b c d]) n t 2 v e z ((ilt z.u 0 = true) ∧ Dn .normal (eI n t 8 3) ((P1 x o q n pl t y ++ [rB a b (Fc.mk (-1) c.p) d]) ++ [zB z]))) TY_ok mixed okI (Nat.le_of_ble_eq_true rfl) (P1_closed x o q n pl t y _ _ _ _) rfl ⟨h.1, h.2.1, h.2.2.1, h.2.2.2.1, h.2.2.2.2.1, h.2.2.2.2.2.1, h.2.2.2.2.2.2.1, h1, dn _ _ _⟩ (by kernel_rfl)
theorem g12 {x o q pl : List Int} {n t : Nat} {y : List Int} {a b c d z : Fc} {v e w : Int} {r p c1 c2 : Pm} {X Y : Prop} (h : OA (P1 x o q n pl t y ++ [rB a b c d]) n t 2 v e z X) (h1 : ilt z.u 0 = false) (k : OB (P1 x o q n pl t y ++ [rB a b c d, zB z]) n t z w r p c1 c2 Y) : C1 t 2 n (P1 x o q n pl t y ++ [rB a b c d]) .normal (eI n t 8 3) (P1 x o q n pl t y ++ [rB a b (Fc.mk w c2) d]) :=
  comes_run (S := sc (dA v e z ++ dB w r p c1 c2) [(70, false)]) (k := 60) (ts := [1, 2, 3, 6, 8, 9, 11, 12, 13, 14]) (junk := [zB z]) (h1 := (P1 x o q n pl t y ++ [rB a b (Fc.mk w c2) d])) (l0 := eI n t 8 3)
    (A := OA (P1 x o q n pl t y ++ [rB a b c d]) n t 2 v e z ((ilt z.u 0 = false) ∧ OB (P1 x o q n pl t y ++ [rB a b c d, zB z]) n t z w r p c1 c2 (Dn .normal (eI n t 8 3) ((P1 x o q n pl t y ++ [rB a b (Fc.mk w c2) d]) ++ [zB z])))) TY_ok mixed okI (Nat.le_of_ble_eq_true rfl) (P1_closed x o q n pl t y _ _ _ _) rfl
    ⟨h.1, h.2.1, h.2.2.1, h.2.2.2.1, h.2.2.2.2.1, h.2.2.2.2.2.1, h.2.2.2.2.2.2.1, h1, k.1, k.2.1, k.2.2.1, k.2.2.2.1, k.2.2.2.2.1, k.2.2.2.2.2.1, k.2.2.2.2.2.2.1, k.2.2.2.2.2.2.2.1, k.2.2.2.2.2.2.2.2.1, dn _ _ _⟩ (by kernel_rfl)
theorem f13 {x o q pl : List Int} {n t : Nat} {y : List Int} {a b c d z : Fc} {v e : Int} {X : Prop} (h : OA (P1 x o q n pl t y ++ [rB a b c d]) n t 3 v e z X) (h1 : ilt z.u 0 = true) : C1 t 3 n (P1 x o q n pl t y ++ [rB a b c d]) .normal (eI n t 8 4) (P1 x o q n pl t y ++ [rB a b c (Fc.mk (-1) d.p)]) :=
  comes_run (S := sc (dA v e z) [(70, true)]) (k := 60) (ts := [1, 2, 3, 6, 8, 9, 11, 12, 13, 14]) (junk := [zB z]) (h1 := (P1 x o q n pl t y ++ [rB a b c (Fc.mk (-1) d.p)])) (l0 := eI n t 8 4)
    (A := OA (P1 x o q n pl t y ++ [rB a b c d]) n t 3 v e z ((ilt z.u 0 = true) ∧ Dn .normal (eI n t 8 4) ((P1 x o q n pl t y ++ [rB a b c (Fc.mk (-1) d.p)]) ++ [zB z]))) TY_ok mixed okI (Nat.le_of_ble_eq_true rfl) (P1_closed x o q n pl t y _ _ _ _) rfl ⟨h.1, h.2.1, h.2.2.1, h.2.2.2.1, h.2.2.2.2.1, h.2.2.2.2.2.1, h.2.2.2.2.2.2.1, h1, dn _ _ _⟩ (by kernel_rfl)
theorem g13 {x o q pl : List Int} {n t : Nat} {y : List Int} {a b c d z : Fc} {v e w : Int} {r p c1 c2 : Pm} {X Y : Prop} (h : OA (P1 x o q n pl t y ++ [rB a b c d]) n t 3 v e z X) (h1 : ilt z.u 0 = false) (k : OB (P1 x o q n pl t y ++ [rB a b c d, zB z]) n t z w r p c1 c2 Y) : C1 t 3 n (P1 x o q n pl t y ++ [rB a b c d]) .normal (eI n t 8 4) (P1 x o q n pl t y ++ [rB a b c (Fc.mk w c2)]) :=
  comes_run (S := sc (dA v e z ++ dB w r p c1 c2) [(70, false)]) (k := 60) (ts := [1, 2, 3, 6, 8, 9, 11, 12, 13, 14]) (junk := [zB z]) (h1 := (P1 x o q n pl t y ++ [rB a b c (Fc.mk w c2)])) (l0 := eI n t 8 4)
    (A := OA (P1 x o q n pl t y ++ [rB a b c d]) n t 3 v e z ((ilt z.u 0 = false) ∧ OB (P1 x o q n pl t y ++ [rB a b c d, zB z]) n t z w r p c1 c2 (Dn .normal (eI n t 8 4) ((P1 x o q n pl t y ++ [rB a b c (Fc.mk w c2)]) ++ [zB z])))) TY_ok mixed okI (Nat.le_of_ble_eq_true rfl) (P1_closed x o q n pl t y _ _ _ _) rfl
    ⟨h.1, h.2.1, h.2.2.1, h.2.2.2.1, h.2.2.2.2.1, h.2.2.2.2.2.1, h.2.2.2.2.2.2.1, h1, k.1, k.2.1, k.2.2.1, k.2.2.2.1, k.2.2.2.2.1, k.2.2.2.2.2.1, k.2.2.2.2.2.2.1, k.2.2.2.2.2.2.2.1, k.2.2.2.2.2.2.2.2.1, dn _ _ _⟩ (by kernel_rfl)
theorem e1 {x o q pl : List Int} {n t : Nat} {y : List Int} {a b c d : Fc} : C1 t 4 n (P1 x o q n pl t y ++ [rB a b c d]) (.exit 4) (eJ n t 8) (P1 x o q n pl t y ++ [rB a b c d]) :=
  comes_run (S := sc [] []) (k := 60) (ts := [1, 2, 3, 6, 8, 9, 11, 12, 13]) (junk := []) (h1 := (P1 x o q n pl t y ++ [rB a b c d])) (l0 := eJ n t 8) (A := Dn (.exit 4) (eJ n t 8) (P1 x o q n pl t y ++ [rB a b c d])) TY_ok mixed okI (Nat.le_of_ble_eq_true rfl) (P1_closed x o q n pl t y _ _ _ _) rfl (dn _ _ _) (by kernel_rfl)
end RN
end Go.Ab

namespace Go.Ab
open Go.Proofs

/-- What is known of an order that is one. -/
structure OrdOk (n : Nat) (o q : List Int) : Prop where
  o : ∀ t, t < n → 0 ≤ cel o t ∧ cel o t < n
  q : ∀ t, t < n → (pmAt q (4 * t)).valid = true
theorem ordOk_of {n : Nat} {o q : List Int} (h : ordOk n o q = true) : OrdOk n o q := by
  have hall : ∀ i, i < n → okAt n o q i = true := fun i hi => List.all_eq_true.1 h i (List.mem_range.2 hi)
  refine ⟨fun t ht => ?_, fun t ht => ?_⟩
  · have := hall t ht
    simp only [okAt, Bool.and_eq_true, decide_eq_true_eq] at this
    exact ⟨this.1, this.2.1⟩
  · have := hall t ht
    simp only [okAt, Bool.and_eq_true, decide_eq_true_eq] at this
    exact this.2.2.2

/-- The face that comes to (t, f). -/
def src (x o q : List Int) (t f : Nat) : Fc := fc x (cel o t).toNat ((pmAt q (4 * t)).at (f : Nat)).toNat
def glu (q pl : List Int) (t : Nat) (a : Fc) : Fc := ⟨cel pl a.u.toNat, composeP (inverseP (pmAt q (4 * (cel pl a.u.toNat).toNat))) (composeP a.p (pmAt q (4 * t)))⟩
/-- A face of the renumbered gluing. -/
def rnF (x o q pl : List Int) : FF := fun t f => if ilt (src x o q t f).u 0 = true then ⟨-1, .zero⟩ else glu q pl t (src x o q t f)

theorem pm_at {q : List Int} {t f : Nat} (hf : f < 4) : (pmAt q (4 * t)).at (f : Nat) = cel q (4 * t + f) := by
  have : f = 0 ∨ f = 1 ∨ f = 2 ∨ f = 3 := by omega
  rcases this with rfl | rfl | rfl | rfl <;> rfl

structure RH (h : Heap) (x o q pl : List Int) (b : Nat) : Prop where
  b0 : ∃ w, hblk h 0 = some ⟨ints x, w⟩
  b1 : ∃ w, hblk h 1 = some ⟨ints o, w⟩
  b2 : ∃ w, hblk h 2 = some ⟨ints q, w⟩
  b5 : ∃ w, hblk h b = some ⟨ints pl, w⟩

theorem rt4_of {h : Heap} {q : List Int} {n t : Nat} (hb : ∃ w, hblk h 2 = some ⟨ints q, w⟩) (hq : q.length = 4 * n) (ht : t < n) : Rt4 h t (pmAt q (4 * t)) := by
  obtain ⟨w, hb⟩ := hb; exact rd_pm hb (by omega)

theorem oa_of {h : Heap} {x o q pl : List Int} {n t f b : Nat} (H : RH h x o q pl b) (hx : x.length = 20 * n) (ho : o.length = n) (hq : q.length = 4 * n) (K : OrdOk n o q) (ht : t < n) (hf : f < 4) :
    RN.OA h n t f (cel o t) ((pmAt q (4 * t)).at (f : Nat)) (src x o q t f) True := by
  have h1 := K.o t ht
  have h2 := valid_at (K.q t ht) hf
  obtain ⟨w0, b0⟩ := H.b0
  obtain ⟨w1, b1⟩ := H.b1
  obtain ⟨w2, b2⟩ := H.b2
  refine ⟨⟨by omega, by omega⟩, rd_int b1 (by omega), ⟨by omega, by omega⟩, ?_, h1, ⟨h2.1, by have := h2.2; omega⟩, ?_, trivial⟩
  · unfold Re
    rw [show 0 + t * 4 + f * 1 = 4 * t + f by omega, rd_cell b2 (by omega), pm_at hf]
  · unfold Ra
    rw [show 0 + (cel o t).toNat * 20 + ((pmAt q (4 * t)).at (f : Nat)).toNat * 5 = 20 * (cel o t).toNat + 5 * ((pmAt q (4 * t)).at (f : Nat)).toNat by omega]
    exact rd_face b0 (by omega)

theorem src_ok {x o q : List Int} {n t f : Nat} (hc : chk n x = 0) (K : OrdOk n o q) (ht : t < n) (hf : f < 4) : ((src x o q t f).u = -1 ∧ (src x o q t f).p = .zero) ∨ (0 ≤ (src x o q t f).u ∧ (src x o q t f).u < n ∧ (src x o q t f).p.valid = true) := by
  have h1 := K.o t ht
  have h2 := valid_at (K.q t ht) hf
  exact face_of_chk hc (by omega) (by omega)

theorem ob_of {h : Heap} {x o q pl : List Int} {n t f : Nat} (H : RH h x o q pl 5) (hq : q.length = 4 * n) (hpl : pl.length = n) (hin : ∀ v, v < n → 0 ≤ cel pl v ∧ cel pl v < n) (hc : chk n x = 0) (K : OrdOk n o q) (ht : t < n) (hf : f < 4) (h1 : ilt (src x o q t f).u 0 = false) :
    RN.OB h n t (src x o q t f) (cel pl (src x o q t f).u.toNat) (pmAt q (4 * (cel pl (src x o q t f).u.toNat).toNat)) (pmAt q (4 * t)) (composeP (src x o q t f).p (pmAt q (4 * t))) (glu q pl t (src x o q t f)).p True := by
  have h1' : 0 ≤ (src x o q t f).u := by rw [ilt_eq] at h1; simpa using h1
  have hs : (src x o q t f).u < n ∧ (src x o q t f).p.valid = true := by
    rcases src_ok hc K ht hf with h | h
    · omega
    · exact h.2
  have hw := hin (src x o q t f).u.toNat (by omega)
  have hr := K.q (cel pl (src x o q t f).u.toNat).toNat (by omega)
  have hp := K.q t ht
  have c1 := compose8 (src x o q t f).p (pmAt q (4 * t))
  rw [show cmpV (src x o q t f).p (pmAt q (4 * t)) = composeP (src x o q t f).p (pmAt q (4 * t)) by simp [cmpV, hs.2, hp]] at c1
  have c2 := compose8 (inverseP (pmAt q (4 * (cel pl (src x o q t f).u.toNat).toNat))) (composeP (src x o q t f).p (pmAt q (4 * t)))
  rw [show cmpV (inverseP (pmAt q (4 * (cel pl (src x o q t f).u.toNat).toNat))) (composeP (src x o q t f).p (pmAt q (4 * t))) = composeP (inverseP (pmAt q (4 * (cel pl (src x o q t f).u.toNat).toNat))) (composeP (src x o q t f).p (pmAt q (4 * t))) by simp [cmpV, inverse_valid hr, compose_valid hs.2 hp]] at c2
  obtain ⟨w5, b5⟩ := H.b5
  obtain ⟨w2, b2⟩ := H.b2
  exact ⟨⟨h1', hs.1⟩, rd_int b5 (by omega), hw, rd_pm b2 (by omega), c10_2 hr, ⟨by omega, by omega⟩, rt4_of H.b2 hq ht, c1, c2, trivial⟩

namespace RN

theorem rh0 {x o q pl : List Int} {n t : Nat} (r : Heap) : RH (P0 x o q n pl ++ r) x o q pl 5 := ⟨⟨_, rfl⟩, ⟨_, rfl⟩, ⟨_, rfl⟩, ⟨_, rfl⟩⟩
def Hs0 (x o q pl : List Int) (n t : Nat) : Nat → Heap
  | 0 => P0 x o q n pl ++ [rB FcZ FcZ FcZ FcZ]
  | 1 => P0 x o q n pl ++ [rB (rnF x o q pl t 0) FcZ FcZ FcZ]
  | 2 => P0 x o q n pl ++ [rB (rnF x o q pl t 0) (rnF x o q pl t 1) FcZ FcZ]
  | 3 => P0 x o q n pl ++ [rB (rnF x o q pl t 0) (rnF x o q pl t 1) (rnF x o q pl t 2) FcZ]
  | _ => P0 x o q n pl ++ [rB (rnF x o q pl t 0) (rnF x o q pl t 1) (rnF x o q pl t 2) (rnF x o q pl t 3)]
theorem st00 {x o q pl : List Int} {n t : Nat} (hx : x.length = 20 * n) (ho : o.length = n) (hq : q.length = 4 * n) (hpl : pl.length = n) (hin : ∀ v, v < n → 0 ≤ cel pl v ∧ cel pl v < n) (hc : chk n x = 0) (K : OrdOk n o q) (ht : t < n) : C0 t 0 n (Hs0 x o q pl n t 0) .normal (eI n t 7 1) (Hs0 x o q pl n t 1) := by
  have hA := oa_of (f := 0) (rh0 (n := n) (t := t) [rB FcZ FcZ FcZ FcZ] : RH _ x o q pl 5) hx ho hq K ht (by omega)
  cases h1 : ilt (src x o q t 0).u 0 with
  | true =>
    have e : rnF x o q pl t 0 = ⟨-1, .zero⟩ := by simp only [rnF]; rw [if_pos h1]
    have := f00 hA h1
    simp only [Hs0]
    rw [e]
    exact this
  | false =>
    have e : rnF x o q pl t 0 = glu q pl t (src x o q t 0) := by simp only [rnF]; rw [if_neg (by rw [h1]; simp)]
    have := g00 hA h1 (ob_of (f := 0) (rh0 (n := n) (t := t) [rB FcZ FcZ FcZ FcZ, zB (src x o q t 0)] : RH _ x o q pl 5) hq hpl hin hc K ht (by omega) h1)
    simp only [Hs0]
    rw [e]
    exact this
theorem st01 {x o q pl : List Int} {n t : Nat} (hx : x.length = 20 * n) (ho : o.length = n) (hq : q.length = 4 * n) (hpl : pl.length = n) (hin : ∀ v, v < n → 0 ≤ cel pl v ∧ cel pl v < n) (hc : chk n x = 0) (K : OrdOk n o q) (ht : t < n) : C0 t 1 n (Hs0 x o q pl n t 1) .normal (eI n t 7 2) (Hs0 x o q pl n t 2) := by
  have hA := oa_of (f := 1) (rh0 (n := n) (t := t) [rB (rnF x o q pl t 0) FcZ FcZ FcZ] : RH _ x o q pl 5) hx ho hq K ht (by omega)
  cases h1 : ilt (src x o q t 1).u 0 with
  | true =>
    have e : rnF x o q pl t 1 = ⟨-1, .zero⟩ := by simp only [rnF]; rw [if_pos h1]
    have := f01 hA h1
    simp only [Hs0]
    rw [e]
    exact this
  | false =>
    have e : rnF x o q pl t 1 = glu q pl t (src x o q t 1) := by simp only [rnF]; rw [if_neg (by rw [h1]; simp)]
    have := g01 hA h1 (ob_of (f := 1) (rh0 (n := n) (t := t) [rB (rnF x o q pl t 0) FcZ FcZ FcZ, zB (src x o q t 1)] : RH _ x o q pl 5) hq hpl hin hc K ht (by omega) h1)
    simp only [Hs0]
    rw [e]
    exact this
theorem st02 {x o q pl : List Int} {n t : Nat} (hx : x.length = 20 * n) (ho : o.length = n) (hq : q.length = 4 * n) (hpl : pl.length = n) (hin : ∀ v, v < n → 0 ≤ cel pl v ∧ cel pl v < n) (hc : chk n x = 0) (K : OrdOk n o q) (ht : t < n) : C0 t 2 n (Hs0 x o q pl n t 2) .normal (eI n t 7 3) (Hs0 x o q pl n t 3) := by
  have hA := oa_of (f := 2) (rh0 (n := n) (t := t) [rB (rnF x o q pl t 0) (rnF x o q pl t 1) FcZ FcZ] : RH _ x o q pl 5) hx ho hq K ht (by omega)
  cases h1 : ilt (src x o q t 2).u 0 with
  | true =>
    have e : rnF x o q pl t 2 = ⟨-1, .zero⟩ := by simp only [rnF]; rw [if_pos h1]
    have := f02 hA h1
    simp only [Hs0]
    rw [e]
    exact this
  | false =>
    have e : rnF x o q pl t 2 = glu q pl t (src x o q t 2) := by simp only [rnF]; rw [if_neg (by rw [h1]; simp)]
    have := g02 hA h1 (ob_of (f := 2) (rh0 (n := n) (t := t) [rB (rnF x o q pl t 0) (rnF x o q pl t 1) FcZ FcZ, zB (src x o q t 2)] : RH _ x o q pl 5) hq hpl hin hc K ht (by omega) h1)
    simp only [Hs0]
    rw [e]
    exact this
theorem st03 {x o q pl : List Int} {n t : Nat} (hx : x.length = 20 * n) (ho : o.length = n) (hq : q.length = 4 * n) (hpl : pl.length = n) (hin : ∀ v, v < n → 0 ≤ cel pl v ∧ cel pl v < n) (hc : chk n x = 0) (K : OrdOk n o q) (ht : t < n) : C0 t 3 n (Hs0 x o q pl n t 3) .normal (eI n t 7 4) (Hs0 x o q pl n t 4) := by
  have hA := oa_of (f := 3) (rh0 (n := n) (t := t) [rB (rnF x o q pl t 0) (rnF x o q pl t 1) (rnF x o q pl t 2) FcZ] : RH _ x o q pl 5) hx ho hq K ht (by omega)
  cases h1 : ilt (src x o q t 3).u 0 with
  | true =>
    have e : rnF x o q pl t 3 = ⟨-1, .zero⟩ := by simp only [rnF]; rw [if_pos h1]
    have := f03 hA h1
    simp only [Hs0]
    rw [e]
    exact this
  | false =>
    have e : rnF x o q pl t 3 = glu q pl t (src x o q t 3) := by simp only [rnF]; rw [if_neg (by rw [h1]; simp)]
    have := g03 hA h1 (ob_of (f := 3) (rh0 (n := n) (t := t) [rB (rnF x o q pl t 0) (rnF x o q pl t 1) (rnF x o q pl t 2) FcZ, zB (src x o q t 3)] : RH _ x o q pl 5) hq hpl hin hc K ht (by omega) h1)
    simp only [Hs0]
    rw [e]
    exact this
theorem loopI0 {x o q pl : List Int} {n t : Nat} (hx : x.length = 20 * n) (ho : o.length = n) (hq : q.length = 4 * n) (hpl : pl.length = n) (hin : ∀ v, v < n → 0 ≤ cel pl v ∧ cel pl v < n) (hc : chk n x = 0) (K : OrdOk n o q) (ht : t < n) :
    (obs Tryz.prog TY none ([], true) 103).loop 3 (fb Tryz.f17 4) (eI n t 7 0) (P0 x o q n pl ++ [rB FcZ FcZ FcZ FcZ]) .normal (eJ n t 7) (P0 x o q n pl ++ [rB (rnF x o q pl t 0) (rnF x o q pl t 1) (rnF x o q pl t 2) (rnF x o q pl t 3)]) := by
  have hfb : fb Tryz.f17 4 = .block 4 (.loop (lb Tryz.f17 4)) := by kernel_rfl
  refine comes_loop hfb rfl (fun f => eI n t 7 f) (Hs0 x o q pl n t ) (fun f => f ≤ 4) (fun f => 4 - f) 0 (by omega) rfl rfl ?_
  intro f hf
  have : f = 0 ∨ f = 1 ∨ f = 2 ∨ f = 3 ∨ f = 4 := by omega
  rcases this with rfl | rfl | rfl | rfl | rfl
  · exact .inl ⟨1, by omega, by omega, st00 hx ho hq hpl hin hc K ht⟩
  · exact .inl ⟨2, by omega, by omega, st01 hx ho hq hpl hin hc K ht⟩
  · exact .inl ⟨3, by omega, by omega, st02 hx ho hq hpl hin hc K ht⟩
  · exact .inl ⟨4, by omega, by omega, st03 hx ho hq hpl hin hc K ht⟩
  · exact .inr (.inl ⟨rfl, e0⟩)

theorem rh1 {x o q pl : List Int} {n t : Nat} {y : List Int} (r : Heap) : RH (P1 x o q n pl t y ++ r) x o q pl 5 := ⟨⟨_, rfl⟩, ⟨_, rfl⟩, ⟨_, rfl⟩, ⟨_, rfl⟩⟩
def Hs1 (x o q pl : List Int) (n t : Nat) (y : List Int) : Nat → Heap
  | 0 => P1 x o q n pl t y ++ [rB FcZ FcZ FcZ FcZ]
  | 1 => P1 x o q n pl t y ++ [rB (rnF x o q pl t 0) FcZ FcZ FcZ]
  | 2 => P1 x o q n pl t y ++ [rB (rnF x o q pl t 0) (rnF x o q pl t 1) FcZ FcZ]
  | 3 => P1 x o q n pl t y ++ [rB (rnF x o q pl t 0) (rnF x o q pl t 1) (rnF x o q pl t 2) FcZ]
  | _ => P1 x o q n pl t y ++ [rB (rnF x o q pl t 0) (rnF x o q pl t 1) (rnF x o q pl t 2) (rnF x o q pl t 3)]
theorem st10 {x o q pl : List Int} {n t : Nat} (y : List Int) (hx : x.length = 20 * n) (ho : o.length = n) (hq : q.length = 4 * n) (hpl : pl.length = n) (hin : ∀ v, v < n → 0 ≤ cel pl v ∧ cel pl v < n) (hc : chk n x = 0) (K : OrdOk n o q) (ht : t < n) : C1 t 0 n (Hs1 x o q pl n t y 0) .normal (eI n t 8 1) (Hs1 x o q pl n t y 1) := by
  have hA := oa_of (f := 0) (rh1 (n := n) (t := t) (y := y) [rB FcZ FcZ FcZ FcZ] : RH _ x o q pl 5) hx ho hq K ht (by omega)
  cases h1 : ilt (src x o q t 0).u 0 with
  | true =>
    have e : rnF x o q pl t 0 = ⟨-1, .zero⟩ := by simp only [rnF]; rw [if_pos h1]
    have := f10 (y := y) hA h1
    simp only [Hs1]
    rw [e]
    exact this
  | false =>
    have e : rnF x o q pl t 0 = glu q pl t (src x o q t 0) := by simp only [rnF]; rw [if_neg (by rw [h1]; simp)]
    have := g10 (y := y) hA h1 (ob_of (f := 0) (rh1 (n := n) (t := t) (y := y) [rB FcZ FcZ FcZ FcZ, zB (src x o q t 0)] : RH _ x o q pl 5) hq hpl hin hc K ht (by omega) h1)
    simp only [Hs1]
    rw [e]
    exact this
theorem st11 {x o q pl : List Int} {n t : Nat} (y : List Int) (hx : x.length = 20 * n) (ho : o.length = n) (hq : q.length = 4 * n) (hpl : pl.length = n) (hin : ∀ v, v < n → 0 ≤ cel pl v ∧ cel pl v < n) (hc : chk n x = 0) (K : OrdOk n o q) (ht : t < n) : C1 t 1 n (Hs1 x o q pl n t y 1) .normal (eI n t 8 2) (Hs1 x o q pl n t y 2) := by
  have hA := oa_of (f := 1) (rh1 (n := n) (t := t) (y := y) [rB (rnF x o q pl t 0) FcZ FcZ FcZ] : RH _ x o q pl 5) hx ho hq K ht (by omega)
  cases h1 : ilt (src x o q t 1).u 0 with
  | true =>
    have e : rnF x o q pl t 1 = ⟨-1, .zero⟩ := by simp only [rnF]; rw [if_pos h1]
    have := f11 (y := y) hA h1
    simp only [Hs1]
    rw [e]
    exact this
  | false =>
    have e : rnF x o q pl t 1 = glu q pl t (src x o q t 1) := by simp only [rnF]; rw [if_neg (by rw [h1]; simp)]
    have := g11 (y := y) hA h1 (ob_of (f := 1) (rh1 (n := n) (t := t) (y := y) [rB (rnF x o q pl t 0) FcZ FcZ FcZ, zB (src x o q t 1)] : RH _ x o q pl 5) hq hpl hin hc K ht (by omega) h1)
    simp only [Hs1]
    rw [e]
    exact this
theorem st12 {x o q pl : List Int} {n t : Nat} (y : List Int) (hx : x.length = 20 * n) (ho : o.length = n) (hq : q.length = 4 * n) (hpl : pl.length = n) (hin : ∀ v, v < n → 0 ≤ cel pl v ∧ cel pl v < n) (hc : chk n x = 0) (K : OrdOk n o q) (ht : t < n) : C1 t 2 n (Hs1 x o q pl n t y 2) .normal (eI n t 8 3) (Hs1 x o q pl n t y 3) := by
  have hA := oa_of (f := 2) (rh1 (n := n) (t := t) (y := y) [rB (rnF x o q pl t 0) (rnF x o q pl t 1) FcZ FcZ] : RH _ x o q pl 5) hx ho hq K ht (by omega)
  cases h1 : ilt (src x o q t 2).u 0 with
  | true =>
    have e : rnF x o q pl t 2 = ⟨-1, .zero⟩ := by simp only [rnF]; rw [if_pos h1]
    have := f12 (y := y) hA h1
    simp only [Hs1]
    rw [e]
    exact this
  | false =>
    have e : rnF x o q pl t 2 = glu q pl t (src x o q t 2) := by simp only [rnF]; rw [if_neg (by rw [h1]; simp)]
    have := g12 (y := y) hA h1 (ob_of (f := 2) (rh1 (n := n) (t := t) (y := y) [rB (rnF x o q pl t 0) (rnF x o q pl t 1) FcZ FcZ, zB (src x o q t 2)] : RH _ x o q pl 5) hq hpl hin hc K ht (by omega) h1)
    simp only [Hs1]
    rw [e]
    exact this
theorem st13 {x o q pl : List Int} {n t : Nat} (y : List Int) (hx : x.length = 20 * n) (ho : o.length = n) (hq : q.length = 4 * n) (hpl : pl.length = n) (hin : ∀ v, v < n → 0 ≤ cel pl v ∧ cel pl v < n) (hc : chk n x = 0) (K : OrdOk n o q) (ht : t < n) : C1 t 3 n (Hs1 x o q pl n t y 3) .normal (eI n t 8 4) (Hs1 x o q pl n t y 4) := by
  have hA := oa_of (f := 3) (rh1 (n := n) (t := t) (y := y) [rB (rnF x o q pl t 0) (rnF x o q pl t 1) (rnF x o q pl t 2) FcZ] : RH _ x o q pl 5) hx ho hq K ht (by omega)
  cases h1 : ilt (src x o q t 3).u 0 with
  | true =>
    have e : rnF x o q pl t 3 = ⟨-1, .zero⟩ := by simp only [rnF]; rw [if_pos h1]
    have := f13 (y := y) hA h1
    simp only [Hs1]
    rw [e]
    exact this
  | false =>
    have e : rnF x o q pl t 3 = glu q pl t (src x o q t 3) := by simp only [rnF]; rw [if_neg (by rw [h1]; simp)]
    have := g13 (y := y) hA h1 (ob_of (f := 3) (rh1 (n := n) (t := t) (y := y) [rB (rnF x o q pl t 0) (rnF x o q pl t 1) (rnF x o q pl t 2) FcZ, zB (src x o q t 3)] : RH _ x o q pl 5) hq hpl hin hc K ht (by omega) h1)
    simp only [Hs1]
    rw [e]
    exact this
theorem loopI1 {x o q pl : List Int} {n t : Nat} (y : List Int) (hx : x.length = 20 * n) (ho : o.length = n) (hq : q.length = 4 * n) (hpl : pl.length = n) (hin : ∀ v, v < n → 0 ≤ cel pl v ∧ cel pl v < n) (hc : chk n x = 0) (K : OrdOk n o q) (ht : t < n) :
    (obs Tryz.prog TY none ([], true) 103).loop 3 (fb Tryz.f17 4) (eI n t 8 0) (P1 x o q n pl t y ++ [rB FcZ FcZ FcZ FcZ]) .normal (eJ n t 8) (P1 x o q n pl t y ++ [rB (rnF x o q pl t 0) (rnF x o q pl t 1) (rnF x o q pl t 2) (rnF x o q pl t 3)]) := by
  have hfb : fb Tryz.f17 4 = .block 4 (.loop (lb Tryz.f17 4)) := by kernel_rfl
  refine comes_loop hfb rfl (fun f => eI n t 8 f) (Hs1 x o q pl n t y ) (fun f => f ≤ 4) (fun f => 4 - f) 0 (by omega) rfl rfl ?_
  intro f hf
  have : f = 0 ∨ f = 1 ∨ f = 2 ∨ f = 3 ∨ f = 4 := by omega
  rcases this with rfl | rfl | rfl | rfl | rfl
  · exact .inl ⟨1, by omega, by omega, st10 y hx ho hq hpl hin hc K ht⟩
  · exact .inl ⟨2, by omega, by omega, st11 y hx ho hq hpl hin hc K ht⟩
  · exact .inl ⟨3, by omega, by omega, st12 y hx ho hq hpl hin hc K ht⟩
  · exact .inl ⟨4, by omega, by omega, st13 y hx ho hq hpl hin hc K ht⟩
  · exact .inr (.inl ⟨rfl, e1⟩)
end RN
end Go.Ab
