/- The function Orient answers for all gluings. Conditions: none beyond the given model and program. -/
import Derived.Test.YtnimgapjllhccaaGreatDoorPt
namespace Go.Ab
open Go.Proofs

def sW (p : Pm) (c : Int) : Int := IntKind.i64.wrap (IntKind.i64.wrap (0 - signP p) * c)
theorem sW_eq {p : Pm} {c : Int} (hc : c = 1 ∨ c = -1) : sW p c = -(signP p) * c := by
  unfold sW
  rcases signP_one p with h | h <;> rcases hc with rfl | rfl <;> rw [h] <;> rfl

namespace OR
def sc (d : List ((Nat × Nat) × (Option Bool × Td))) (k : List (Nat × Bool)) : Ts := { dir := dd d, know := kk k, loop := noloop }
def eF (n : Nat) (T : Value) (t : Int) (s : Value) (i f : Nat) : List (Nat × Value) := [(1, pt 1), (6, oS 2 n), (23, it n), (24, it t), (8, s), (9, it i), (50, T), (51, it f)]
def tF : List Nat := [1, 6, 23, 24, 8, 9, 50, 51]
def eG (n : Nat) (t : Int) (s : Value) (i : Nat) : List (Nat × Value) := [(1, pt 1), (6, oS 2 n), (23, it n), (24, it t), (8, s), (9, it i)]
def tG : List Nat := [1, 6, 23, 24, 8, 9]
def eX : List (Nat × Value) := [(2, .slice none 0 0), (3, .bool false), (4, it 0)]
def tX : List Nat := [2, 3, 4]
theorem ok4 : codeOk 95 (lb Tryz.f14 4) = true := by kernel_rfl
theorem ok2 : codeOk 95 (lb Tryz.f14 2) = true := by kernel_rfl
theorem ok0 : codeOk 95 (lb Tryz.f14 0) = true := by kernel_rfl
abbrev CF (n : Nat) (T : Value) (t : Int) (m i f : Nat) (h : Heap) (ax : AX) (l : List (Nat × Value)) (h' : Heap) : Prop := Comes none ([], true) Tryz.prog 95 1 (lb Tryz.f14 4) (eF n T t (oS 3 m) i f) h ax l h'
def RdN (h : Heap) (b i : Nat) (v : Int) : Prop := readCells h ⟨b, 0 + i * 1, none⟩ 1 = some [.int .i64 v]
abbrev SgP (p : Pm) : Prop := Plain Tryz.prog 40 [pmv p] (.int .i64 (signP p))
/-- What is to be shown of a face that is glued. -/
abbrev OA (x : List Int) (n m i : Nat) (o q : List Int) (z : Fc) (v c e : Int) (X : Prop) : Prop := (ilt z.u 0 = false) ∧ SgP z.p ∧ InN i m ∧ RdN (oqH x n o q ++ [zB z]) 3 i v ∧ InI v n ∧ RdO (oqH x n o q ++ [zB z]) 2 v c ∧ InI z.u n ∧ RdO (oqH x n o q ++ [zB z]) 2 z.u e ∧ X
def dA (z : Fc) (v c e : Int) : List ((Nat × Nat) × (Option Bool × Td)) := [((18, 2), plD (.int .i64 (signP z.p))), ((18, 7), ixD), ((18, 8), ldC [.int .i64 v]), ((18, 9), ixD), ((18, 10), ldC [.int .i64 c]), ((19, 3), ixD), ((19, 4), ldC [.int .i64 e])]

theorem n0 {x : List Int} {n m i : Nat} {o q : List Int} {a b c d : Fc} {t : Int} (h : ilt a.u 0 = true) : CF n (tv a b c d) t m i 0 (oqH x n o q) .normal (eF n (tv a b c d) t (oS 3 m) i 1) (oqH x n o q) :=
  comes_run (S := sc [] [(56, true)]) (k := 60) (ts := tF) (junk := [zB a]) (h1 := oqH x n o q) (l0 := (eF n (tv a b c d) t (oS 3 m) i 1)) (A := (ilt a.u 0 = true) ∧ Dn .normal (eF n (tv a b c d) t (oS 3 m) i 1) (oqH x n o q ++ [zB a])) TY_ok mixed ok4 (Nat.le_of_ble_eq_true rfl) (oqH_closed x n o q) rfl ⟨h, dn _ _ _⟩ (by kernel_rfl)
theorem s0 {x : List Int} {n m i : Nat} {o q : List Int} {a b c d : Fc} {t : Int} {v w e : Int} {X : Prop} (h : OA x n m i o q a v w e X) (h1 : (e == 0) = false) (h2 : (e != sW a.p w) = false) : CF n (tv a b c d) t m i 0 (oqH x n o q) .normal (eF n (tv a b c d) t (oS 3 m) i 1) (oqH x n o q) :=
  comes_run (S := sc (dA a v w e ++ [((22, 3), ixD), ((22, 4), ldC [.int .i64 e])]) [(56, false), (74, false), (91, false)]) (k := 60) (ts := tF) (junk := [zB a]) (h1 := oqH x n o q) (l0 := (eF n (tv a b c d) t (oS 3 m) i 1))
    (A := OA x n m i o q a v w e (((e == 0) = false) ∧ InI a.u n ∧ RdO (oqH x n o q ++ [zB a]) 2 a.u e ∧ ((e != sW a.p w) = false) ∧ Dn .normal (eF n (tv a b c d) t (oS 3 m) i 1) (oqH x n o q ++ [zB a]))) TY_ok mixed ok4 (Nat.le_of_ble_eq_true rfl) (oqH_closed x n o q) rfl ⟨h.1, h.2.1, h.2.2.1, h.2.2.2.1, h.2.2.2.2.1, h.2.2.2.2.2.1, h.2.2.2.2.2.2.1, h.2.2.2.2.2.2.2.1, h1, h.2.2.2.2.2.2.1, h.2.2.2.2.2.2.2.1, h2, dn _ _ _⟩ (by kernel_rfl)
theorem x0 {x : List Int} {n m i : Nat} {o q : List Int} {a b c d : Fc} {t : Int} {v w e : Int} {X : Prop} (h : OA x n m i o q a v w e X) (h1 : (e == 0) = false) (h2 : (e != sW a.p w) = true) : CF n (tv a b c d) t m i 0 (oqH x n o q) .ret eX (oqH x n o q) :=
  comes_run (S := sc (dA a v w e ++ [((22, 3), ixD), ((22, 4), ldC [.int .i64 e])]) [(56, false), (74, false), (91, true)]) (k := 60) (ts := tX) (junk := [zB a]) (h1 := oqH x n o q) (l0 := eX)
    (A := OA x n m i o q a v w e (((e == 0) = false) ∧ InI a.u n ∧ RdO (oqH x n o q ++ [zB a]) 2 a.u e ∧ ((e != sW a.p w) = true) ∧ Dn .ret eX (oqH x n o q ++ [zB a]))) TY_ok mixed ok4 (Nat.le_of_ble_eq_true rfl) (oqH_closed x n o q) rfl ⟨h.1, h.2.1, h.2.2.1, h.2.2.2.1, h.2.2.2.2.1, h.2.2.2.2.2.1, h.2.2.2.2.2.2.1, h.2.2.2.2.2.2.2.1, h1, h.2.2.2.2.2.2.1, h.2.2.2.2.2.2.2.1, h2, dn _ _ _⟩ (by kernel_rfl)
theorem b0 {x : List Int} {n m i : Nat} {o q : List Int} {a b c d : Fc} {t : Int} {v w e : Int} {o2 q2 : List Int} {X : Prop} (h : OA x n m i o q a v w e X) (h1 : (e == 0) = true)
    (h4 : WrO (oqH x n o q ++ [zB a]) 2 a.u (sW a.p w) (oqH x n o2 q ++ [zB a])) (h5 : ApO 3 m 5 (oqH x n o2 q ++ [zB a, uB a.u]) (oS 6 (m + 1)) (R6 x n o2 q2 [zB a, uB a.u])) (h6 : RdO (R6 x n o2 q2 [zB a, uB a.u]) 2 a.u (sW a.p w)) (h7 : (sW a.p w != sW a.p w) = false) : CF n (tv a b c d) t m i 0 (oqH x n o q) .normal (eF n (tv a b c d) t (oS 3 (m + 1)) i 1) (oqH x n o2 q2) :=
  comes_pick (S := sc (dA a v w e ++ [((20, 4), ixD), ((20, 5), stD (oqH x n o2 q ++ [zB a])), ((21, 4), apD (oS 6 (m + 1)) (R6 x n o2 q2 [zB a, uB a.u])), ((22, 3), ixD), ((22, 4), ldC [.int .i64 (sW a.p w)])]) [(56, false), (74, true), (91, false)]) (k := 60) (ts := tF)
    (l0 := eF n (tv a b c d) t (oS 6 (m + 1)) i 1) (h0 := (R6 x n o2 q2 [zB a, uB a.u]))
    (A := OA x n m i o q a v w e (((e == 0) = true) ∧ InI a.u n ∧ WrO (oqH x n o q ++ [zB a]) 2 a.u (sW a.p w) (oqH x n o2 q ++ [zB a]) ∧ ApO 3 m 5 (oqH x n o2 q ++ [zB a, uB a.u]) (oS 6 (m + 1)) (R6 x n o2 q2 [zB a, uB a.u]) ∧ InI a.u n ∧ RdO (R6 x n o2 q2 [zB a, uB a.u]) 2 a.u (sW a.p w) ∧ ((sW a.p w != sW a.p w) = false) ∧ Dn .normal (eF n (tv a b c d) t (oS 6 (m + 1)) i 1) (R6 x n o2 q2 [zB a, uB a.u])))
    TY_ok mixed ok4 (fun e he => Ref.ord (ks := [0, 1, 2, 6]) (by kernel_rfl) (pick6 x n o2 q2 (by kernel_rfl)) (by kernel_rfl) (by kernel_rfl) he) ⟨h.1, h.2.1, h.2.2.1, h.2.2.2.1, h.2.2.2.2.1, h.2.2.2.2.2.1, h.2.2.2.2.2.2.1, h.2.2.2.2.2.2.2.1, h1, h.2.2.2.2.2.2.1, h4, h5, h.2.2.2.2.2.2.1, h6, h7, dn _ _ _⟩ (by kernel_rfl)

theorem n1 {x : List Int} {n m i : Nat} {o q : List Int} {a b c d : Fc} {t : Int} (h : ilt b.u 0 = true) : CF n (tv a b c d) t m i 1 (oqH x n o q) .normal (eF n (tv a b c d) t (oS 3 m) i 2) (oqH x n o q) :=
  comes_run (S := sc [] [(56, true)]) (k := 60) (ts := tF) (junk := [zB b]) (h1 := oqH x n o q) (l0 := (eF n (tv a b c d) t (oS 3 m) i 2)) (A := (ilt b.u 0 = true) ∧ Dn .normal (eF n (tv a b c d) t (oS 3 m) i 2) (oqH x n o q ++ [zB b])) TY_ok mixed ok4 (Nat.le_of_ble_eq_true rfl) (oqH_closed x n o q) rfl ⟨h, dn _ _ _⟩ (by kernel_rfl)
theorem s1 {x : List Int} {n m i : Nat} {o q : List Int} {a b c d : Fc} {t : Int} {v w e : Int} {X : Prop} (h : OA x n m i o q b v w e X) (h1 : (e == 0) = false) (h2 : (e != sW b.p w) = false) : CF n (tv a b c d) t m i 1 (oqH x n o q) .normal (eF n (tv a b c d) t (oS 3 m) i 2) (oqH x n o q) :=
  comes_run (S := sc (dA b v w e ++ [((22, 3), ixD), ((22, 4), ldC [.int .i64 e])]) [(56, false), (74, false), (91, false)]) (k := 60) (ts := tF) (junk := [zB b]) (h1 := oqH x n o q) (l0 := (eF n (tv a b c d) t (oS 3 m) i 2))
    (A := OA x n m i o q b v w e (((e == 0) = false) ∧ InI b.u n ∧ RdO (oqH x n o q ++ [zB b]) 2 b.u e ∧ ((e != sW b.p w) = false) ∧ Dn .normal (eF n (tv a b c d) t (oS 3 m) i 2) (oqH x n o q ++ [zB b]))) TY_ok mixed ok4 (Nat.le_of_ble_eq_true rfl) (oqH_closed x n o q) rfl ⟨h.1, h.2.1, h.2.2.1, h.2.2.2.1, h.2.2.2.2.1, h.2.2.2.2.2.1, h.2.2.2.2.2.2.1, h.2.2.2.2.2.2.2.1, h1, h.2.2.2.2.2.2.1, h.2.2.2.2.2.2.2.1, h2, dn _ _ _⟩ (by kernel_rfl)
theorem x1 {x : List Int} {n m i : Nat} {o q : List Int} {a b c d : Fc} {t : Int} {v w e : Int} {X : Prop} (h : OA x n m i o q b v w e X) (h1 : (e == 0) = false) (h2 : (e != sW b.p w) = true) : CF n (tv a b c d) t m i 1 (oqH x n o q) .ret eX (oqH x n o q) :=
  comes_run (S := sc (dA b v w e ++ [((22, 3), ixD), ((22, 4), ldC [.int .i64 e])]) [(56, false), (74, false), (91, true)]) (k := 60) (ts := tX) (junk := [zB b]) (h1 := oqH x n o q) (l0 := eX)
    (A := OA x n m i o q b v w e (((e == 0) = false) ∧ InI b.u n ∧ RdO (oqH x n o q ++ [zB b]) 2 b.u e ∧ ((e != sW b.p w) = true) ∧ Dn .ret eX (oqH x n o q ++ [zB b]))) TY_ok mixed ok4 (Nat.le_of_ble_eq_true rfl) (oqH_closed x n o q) rfl ⟨h.1, h.2.1, h.2.2.1, h.2.2.2.1, h.2.2.2.2.1, h.2.2.2.2.2.1, h.2.2.2.2.2.2.1, h.2.2.2.2.2.2.2.1, h1, h.2.2.2.2.2.2.1, h.2.2.2.2.2.2.2.1, h2, dn _ _ _⟩ (by kernel_rfl)
theorem b1 {x : List Int} {n m i : Nat} {o q : List Int} {a b c d : Fc} {t : Int} {v w e : Int} {o2 q2 : List Int} {X : Prop} (h : OA x n m i o q b v w e X) (h1 : (e == 0) = true)
    (h4 : WrO (oqH x n o q ++ [zB b]) 2 b.u (sW b.p w) (oqH x n o2 q ++ [zB b])) (h5 : ApO 3 m 5 (oqH x n o2 q ++ [zB b, uB b.u]) (oS 6 (m + 1)) (R6 x n o2 q2 [zB b, uB b.u])) (h6 : RdO (R6 x n o2 q2 [zB b, uB b.u]) 2 b.u (sW b.p w)) (h7 : (sW b.p w != sW b.p w) = false) : CF n (tv a b c d) t m i 1 (oqH x n o q) .normal (eF n (tv a b c d) t (oS 3 (m + 1)) i 2) (oqH x n o2 q2) :=
  comes_pick (S := sc (dA b v w e ++ [((20, 4), ixD), ((20, 5), stD (oqH x n o2 q ++ [zB b])), ((21, 4), apD (oS 6 (m + 1)) (R6 x n o2 q2 [zB b, uB b.u])), ((22, 3), ixD), ((22, 4), ldC [.int .i64 (sW b.p w)])]) [(56, false), (74, true), (91, false)]) (k := 60) (ts := tF)
    (l0 := eF n (tv a b c d) t (oS 6 (m + 1)) i 2) (h0 := (R6 x n o2 q2 [zB b, uB b.u]))
    (A := OA x n m i o q b v w e (((e == 0) = true) ∧ InI b.u n ∧ WrO (oqH x n o q ++ [zB b]) 2 b.u (sW b.p w) (oqH x n o2 q ++ [zB b]) ∧ ApO 3 m 5 (oqH x n o2 q ++ [zB b, uB b.u]) (oS 6 (m + 1)) (R6 x n o2 q2 [zB b, uB b.u]) ∧ InI b.u n ∧ RdO (R6 x n o2 q2 [zB b, uB b.u]) 2 b.u (sW b.p w) ∧ ((sW b.p w != sW b.p w) = false) ∧ Dn .normal (eF n (tv a b c d) t (oS 6 (m + 1)) i 2) (R6 x n o2 q2 [zB b, uB b.u])))
    TY_ok mixed ok4 (fun e he => Ref.ord (ks := [0, 1, 2, 6]) (by kernel_rfl) (pick6 x n o2 q2 (by kernel_rfl)) (by kernel_rfl) (by kernel_rfl) he) ⟨h.1, h.2.1, h.2.2.1, h.2.2.2.1, h.2.2.2.2.1, h.2.2.2.2.2.1, h.2.2.2.2.2.2.1, h.2.2.2.2.2.2.2.1, h1, h.2.2.2.2.2.2.1, h4, h5, h.2.2.2.2.2.2.1, h6, h7, dn _ _ _⟩ (by kernel_rfl)

theorem n2 {x : List Int} {n m i : Nat} {o q : List Int} {a b c d : Fc} {t : Int} (h : ilt c.u 0 = true) : CF n (tv a b c d) t m i 2 (oqH x n o q) .normal (eF n (tv a b c d) t (oS 3 m) i 3) (oqH x n o q) :=
  comes_run (S := sc [] [(56, true)]) (k := 60) (ts := tF) (junk := [zB c]) (h1 := oqH x n o q) (l0 := (eF n (tv a b c d) t (oS 3 m) i 3)) (A := (ilt c.u 0 = true) ∧ Dn .normal (eF n (tv a b c d) t (oS 3 m) i 3) (oqH x n o q ++ [zB c])) TY_ok mixed ok4 (Nat.le_of_ble_eq_true rfl) (oqH_closed x n o q) rfl ⟨h, dn _ _ _⟩ (by kernel_rfl)
theorem s2 {x : List Int} {n m i : Nat} {o q : List Int} {a b c d : Fc} {t : Int} {v w e : Int} {X : Prop} (h : OA x n m i o q c v w e X) (h1 : (e == 0) = false) (h2 : (e != sW c.p w) = false) : CF n (tv a b c d) t m i 2 (oqH x n o q) .normal (eF n (tv a b c d) t (oS 3 m) i 3) (oqH x n o q) :=
  comes_run (S := sc (dA c v w e ++ [((22, 3), ixD), ((22, 4), ldC [.int .i64 e])]) [(56, false), (74, false), (91, false)]) (k := 60) (ts := tF) (junk := [zB c]) (h1 := oqH x n o q) (l0 := (eF n (tv a b c d) t (oS 3 m) i 3))
    (A := OA x n m i o q c v w e (((e == 0) = false) ∧ InI c.u n ∧ RdO (oqH x n o q ++ [zB c]) 2 c.u e ∧ ((e != sW c.p w) = false) ∧ Dn .normal (eF n (tv a b c d) t (oS 3 m) i 3) (oqH x n o q ++ [zB c]))) TY_ok mixed ok4 (Nat.le_of_ble_eq_true rfl) (oqH_closed x n o q) rfl ⟨h.1, h.2.1, h.2.2.1, h.2.2.2.1, h.2.2.2.2.1, h.2.2.2.2.2.1, h.2.2.2.2.2.2.1, h.2.2.2.2.2.2.2.1, h1, h.2.2.2.2.2.2.1, h.2.2.2.2.2.2.2.1, h2, dn _ _ _⟩ (by kernel_rfl)
theorem x2 {x : List Int} {n m i : Nat} {o q : List Int} {a b c d : Fc} {t : Int} {v w e : Int} {X : Prop} (h : OA x n m i o q c v w e X) (h1 : (e == 0) = false) (h2 : (e != sW c.p w) = true) : CF n (tv a b c d) t m i 2 (oqH x n o q) .ret eX (oqH x n o q) :=
  comes_run (S := sc (dA c v w e ++ [((22, 3), ixD), ((22, 4), ldC [.int .i64 e])]) [(56, false), (74, false), (91, true)]) (k := 60) (ts := tX) (junk := [zB c]) (h1 := oqH x n o q) (l0 := eX)
    (A := OA x n m i o q c v w e (((e == 0) = false) ∧ InI c.u n ∧ RdO (oqH x n o q ++ [zB c]) 2 c.u e ∧ ((e != sW c.p w) = true) ∧ Dn .ret eX (oqH x n o q ++ [zB c]))) TY_ok mixed ok4 (Nat.le_of_ble_eq_true rfl) (oqH_closed x n o q) rfl ⟨h.1, h.2.1, h.2.2.1, h.2.2.2.1, h.2.2.2.2.1, h.2.2.2.2.2.1, h.2.2.2.2.2.2.1, h.2.2.2.2.2.2.2.1, h1, h.2.2.2.2.2.2.1, h.2.2.2.2.2.2.2.1, h2, dn _ _ _⟩ (by kernel_rfl)
theorem b2 {x : List Int} {n m i : Nat} {o q : List Int} {a b c d : Fc} {t : Int} {v w e : Int} {o2 q2 : List Int} {X : Prop} (h : OA x n m i o q c v w e X) (h1 : (e == 0) = true)
    (h4 : WrO (oqH x n o q ++ [zB c]) 2 c.u (sW c.p w) (oqH x n o2 q ++ [zB c])) (h5 : ApO 3 m 5 (oqH x n o2 q ++ [zB c, uB c.u]) (oS 6 (m + 1)) (R6 x n o2 q2 [zB c, uB c.u])) (h6 : RdO (R6 x n o2 q2 [zB c, uB c.u]) 2 c.u (sW c.p w)) (h7 : (sW c.p w != sW c.p w) = false) : CF n (tv a b c d) t m i 2 (oqH x n o q) .normal (eF n (tv a b c d) t (oS 3 (m + 1)) i 3) (oqH x n o2 q2) :=
  comes_pick (S := sc (dA c v w e ++ [((20, 4), ixD), ((20, 5), stD (oqH x n o2 q ++ [zB c])), ((21, 4), apD (oS 6 (m + 1)) (R6 x n o2 q2 [zB c, uB c.u])), ((22, 3), ixD), ((22, 4), ldC [.int .i64 (sW c.p w)])]) [(56, false), (74, true), (91, false)]) (k := 60) (ts := tF)
    (l0 := eF n (tv a b c d) t (oS 6 (m + 1)) i 3) (h0 := (R6 x n o2 q2 [zB c, uB c.u]))
    (A := OA x n m i o q c v w e (((e == 0) = true) ∧ InI c.u n ∧ WrO (oqH x n o q ++ [zB c]) 2 c.u (sW c.p w) (oqH x n o2 q ++ [zB c]) ∧ ApO 3 m 5 (oqH x n o2 q ++ [zB c, uB c.u]) (oS 6 (m + 1)) (R6 x n o2 q2 [zB c, uB c.u]) ∧ InI c.u n ∧ RdO (R6 x n o2 q2 [zB c, uB c.u]) 2 c.u (sW c.p w) ∧ ((sW c.p w != sW c.p w) = false) ∧ Dn .normal (eF n (tv a b c d) t (oS 6 (m + 1)) i 3) (R6 x n o2 q2 [zB c, uB c.u])))
    TY_ok mixed ok4 (fun e he => Ref.ord (ks := [0, 1, 2, 6]) (by kernel_rfl) (pick6 x n o2 q2 (by kernel_rfl)) (by kernel_rfl) (by kernel_rfl) he) ⟨h.1, h.2.1, h.2.2.1, h.2.2.2.1, h.2.2.2.2.1, h.2.2.2.2.2.1, h.2.2.2.2.2.2.1, h.2.2.2.2.2.2.2.1, h1, h.2.2.2.2.2.2.1, h4, h5, h.2.2.2.2.2.2.1, h6, h7, dn _ _ _⟩ (by kernel_rfl)

theorem n3 {x : List Int} {n m i : Nat} {o q : List Int} {a b c d : Fc} {t : Int} (h : ilt d.u 0 = true) : CF n (tv a b c d) t m i 3 (oqH x n o q) .normal (eF n (tv a b c d) t (oS 3 m) i 4) (oqH x n o q) :=
  comes_run (S := sc [] [(56, true)]) (k := 60) (ts := tF) (junk := [zB d]) (h1 := oqH x n o q) (l0 := (eF n (tv a b c d) t (oS 3 m) i 4)) (A := (ilt d.u 0 = true) ∧ Dn .normal (eF n (tv a b c d) t (oS 3 m) i 4) (oqH x n o q ++ [zB d])) TY_ok mixed ok4 (Nat.le_of_ble_eq_true rfl) (oqH_closed x n o q) rfl ⟨h, dn _ _ _⟩ (by kernel_rfl)
theorem s3 {x : List Int} {n m i : Nat} {o q : List Int} {a b c d : Fc} {t : Int} {v w e : Int} {X : Prop} (h : OA x n m i o q d v w e X) (h1 : (e == 0) = false) (h2 : (e != sW d.p w) = false) : CF n (tv a b c d) t m i 3 (oqH x n o q) .normal (eF n (tv a b c d) t (oS 3 m) i 4) (oqH x n o q) :=
  comes_run (S := sc (dA d v w e ++ [((22, 3), ixD), ((22, 4), ldC [.int .i64 e])]) [(56, false), (74, false), (91, false)]) (k := 60) (ts := tF) (junk := [zB d]) (h1 := oqH x n o q) (l0 := (eF n (tv a b c d) t (oS 3 m) i 4))
    (A := OA x n m i o q d v w e (((e == 0) = false) ∧ InI d.u n ∧ RdO (oqH x n o q ++ [zB d]) 2 d.u e ∧ ((e != sW d.p w) = false) ∧ Dn .normal (eF n (tv a b c d) t (oS 3 m) i 4) (oqH x n o q ++ [zB d]))) TY_ok mixed ok4 (Nat.le_of_ble_eq_true rfl) (oqH_closed x n o q) rfl ⟨h.1, h.2.1, h.2.2.1, h.2.2.2.1, h.2.2.2.2.1, h.2.2.2.2.2.1, h.2.2.2.2.2.2.1, h.2.2.2.2.2.2.2.1, h1, h.2.2.2.2.2.2.1, h.2.2.2.2.2.2.2.1, h2, dn _ _ _⟩ (by kernel_rfl)
theorem x3 {x : List Int} {n m i : Nat} {o q : List Int} {a b c d : Fc} {t : Int} {v w e : Int} {X : Prop} (h : OA x n m i o q d v w e X) (h1 : (e == 0) = false) (h2 : (e != sW d.p w) = true) : CF n (tv a b c d) t m i 3 (oqH x n o q) .ret eX (oqH x n o q) :=
  comes_run (S := sc (dA d v w e ++ [((22, 3), ixD), ((22, 4), ldC [.int .i64 e])]) [(56, false), (74, false), (91, true)]) (k := 60) (ts := tX) (junk := [zB d]) (h1 := oqH x n o q) (l0 := eX)
    (A := OA x n m i o q d v w e (((e == 0) = false) ∧ InI d.u n ∧ RdO (oqH x n o q ++ [zB d]) 2 d.u e ∧ ((e != sW d.p w) = true) ∧ Dn .ret eX (oqH x n o q ++ [zB d]))) TY_ok mixed ok4 (Nat.le_of_ble_eq_true rfl) (oqH_closed x n o q) rfl ⟨h.1, h.2.1, h.2.2.1, h.2.2.2.1, h.2.2.2.2.1, h.2.2.2.2.2.1, h.2.2.2.2.2.2.1, h.2.2.2.2.2.2.2.1, h1, h.2.2.2.2.2.2.1, h.2.2.2.2.2.2.2.1, h2, dn _ _ _⟩ (by kernel_rfl)
theorem b3 {x : List Int} {n m i : Nat} {o q : List Int} {a b c d : Fc} {t : Int} {v w e : Int} {o2 q2 : List Int} {X : Prop} (h : OA x n m i o q d v w e X) (h1 : (e == 0) = true)
    (h4 : WrO (oqH x n o q ++ [zB d]) 2 d.u (sW d.p w) (oqH x n o2 q ++ [zB d])) (h5 : ApO 3 m 5 (oqH x n o2 q ++ [zB d, uB d.u]) (oS 6 (m + 1)) (R6 x n o2 q2 [zB d, uB d.u])) (h6 : RdO (R6 x n o2 q2 [zB d, uB d.u]) 2 d.u (sW d.p w)) (h7 : (sW d.p w != sW d.p w) = false) : CF n (tv a b c d) t m i 3 (oqH x n o q) .normal (eF n (tv a b c d) t (oS 3 (m + 1)) i 4) (oqH x n o2 q2) :=
  comes_pick (S := sc (dA d v w e ++ [((20, 4), ixD), ((20, 5), stD (oqH x n o2 q ++ [zB d])), ((21, 4), apD (oS 6 (m + 1)) (R6 x n o2 q2 [zB d, uB d.u])), ((22, 3), ixD), ((22, 4), ldC [.int .i64 (sW d.p w)])]) [(56, false), (74, true), (91, false)]) (k := 60) (ts := tF)
    (l0 := eF n (tv a b c d) t (oS 6 (m + 1)) i 4) (h0 := (R6 x n o2 q2 [zB d, uB d.u]))
    (A := OA x n m i o q d v w e (((e == 0) = true) ∧ InI d.u n ∧ WrO (oqH x n o q ++ [zB d]) 2 d.u (sW d.p w) (oqH x n o2 q ++ [zB d]) ∧ ApO 3 m 5 (oqH x n o2 q ++ [zB d, uB d.u]) (oS 6 (m + 1)) (R6 x n o2 q2 [zB d, uB d.u]) ∧ InI d.u n ∧ RdO (R6 x n o2 q2 [zB d, uB d.u]) 2 d.u (sW d.p w) ∧ ((sW d.p w != sW d.p w) = false) ∧ Dn .normal (eF n (tv a b c d) t (oS 6 (m + 1)) i 4) (R6 x n o2 q2 [zB d, uB d.u])))
    TY_ok mixed ok4 (fun e he => Ref.ord (ks := [0, 1, 2, 6]) (by kernel_rfl) (pick6 x n o2 q2 (by kernel_rfl)) (by kernel_rfl) (by kernel_rfl) he) ⟨h.1, h.2.1, h.2.2.1, h.2.2.2.1, h.2.2.2.2.1, h.2.2.2.2.2.1, h.2.2.2.2.2.2.1, h.2.2.2.2.2.2.2.1, h1, h.2.2.2.2.2.2.1, h4, h5, h.2.2.2.2.2.2.1, h6, h7, dn _ _ _⟩ (by kernel_rfl)

theorem fEnd {x : List Int} {n m i : Nat} {o q : List Int} {T : Value} {t : Int} : CF n T t m i 4 (oqH x n o q) (.exit 4) (eG n t (oS 3 m) i) (oqH x n o q) :=
  comes_run (S := sc [] []) (k := 60) (ts := tG) (junk := []) (h1 := oqH x n o q) (l0 := eG n t (oS 3 m) i) (A := Dn (.exit 4) (eG n t (oS 3 m) i) (oqH x n o q)) TY_ok mixed ok4 (Nat.le_of_ble_eq_true rfl) (oqH_closed x n o q) rfl (dn _ _ _) (by kernel_rfl)
end OR
end Go.Ab

namespace Go.Ab
open Go.Proofs

namespace OR
abbrev PO : Nat → Int → Prop := fun _ c => c = 1 ∨ c = -1
abbrev tvx (x : List Int) (v : Nat) : Value := tv (fc x v 0) (fc x v 1) (fc x v 2) (fc x v 3)
section
variable {x : List Int} {n i t0 : Nat} {o0 : List Int} {t : Int} {s : List Int × List Int}

/-- A face: it is marked, or it is found consistent, or not. -/
theorem face (hc : chk n x = 0) (hn : n ≤ 1000) {f : Nat} (h : BI mO x n PO o0 t0 i f s) (hi : i < s.2.length) (hf : f < 4) :
    ((ilt (fc x (cel s.2 i).toNat f).u 0 || (cel (gf mO (cel s.1 (cel s.2 i).toNat) s (fc x (cel s.2 i).toNat f)).1 (fc x (cel s.2 i).toNat f).u.toNat == mO.w (fc x (cel s.2 i).toNat f) (cel s.1 (cel s.2 i).toNat))) = true →
      CF n (tvx x (cel s.2 i).toNat) t s.2.length i f (oqH x n s.1 s.2) .normal (eF n (tvx x (cel s.2 i).toNat) t (oS 3 (gf mO (cel s.1 (cel s.2 i).toNat) s (fc x (cel s.2 i).toNat f)).2.length) i (f + 1))
        (oqH x n (gf mO (cel s.1 (cel s.2 i).toNat) s (fc x (cel s.2 i).toNat f)).1 (gf mO (cel s.1 (cel s.2 i).toNat) s (fc x (cel s.2 i).toNat f)).2)) ∧
    ((ilt (fc x (cel s.2 i).toNat f).u 0 || (cel (gf mO (cel s.1 (cel s.2 i).toNat) s (fc x (cel s.2 i).toNat f)).1 (fc x (cel s.2 i).toNat f).u.toNat == mO.w (fc x (cel s.2 i).toNat f) (cel s.1 (cel s.2 i).toNat))) = false →
      CF n (tvx x (cel s.2 i).toNat) t s.2.length i f (oqH x n s.1 s.2) .ret eX (oqH x n s.1 s.2)) := by
  obtain ⟨q0, q1, q2, q3, q4⟩ := h.qin i hi
  have hlen := h.len
  have hsh := h.short
  have hv : (cel s.2 i).toNat < n := by omega
  have hrl : RdN (oqH x n s.1 s.2) 3 i (cel s.2 i) := rd_int (w := true) rfl hi
  have hil : InI (cel s.2 i) n := ⟨q0, q1⟩
  have hcv : ((cel s.2 i).toNat : Int) = cel s.2 i := Int.toNat_of_nonneg q0
  generalize hvv : (cel s.2 i).toNat = v at *
  have hb := fun h0 => face_back hc hv hf h0
  cases h1 : ilt (fc x v f).u 0 with
  | true =>
    have hu := ilt_neg.1 h1
    have e : gf mO (cel s.1 v) s (fc x v f) = s := by unfold gf; rw [if_neg (by intro hh; have := hh.1; rw [ile_eq] at this; simp at this; omega)]
    rw [e]
    refine ⟨fun _ => ?_, fun hh => by simp at hh⟩
    have : f = 0 ∨ f = 1 ∨ f = 2 ∨ f = 3 := by omega
    rcases this with rfl | rfl | rfl | rfl
    · exact n0 h1
    · exact n1 h1
    · exact n2 h1
    · exact n3 h1
  | false =>
    have h0 := ilt_nonneg.1 h1
    obtain ⟨hlt, hval, _⟩ := hb h0
    have hin : InI (fc x v f).u n := ⟨h0, hlt⟩
    have hul : (fc x v f).u.toNat < s.1.length := by omega
    have hsw : sW (fc x v f).p (cel s.1 v) = mO.w (fc x v f) (cel s.1 v) := sW_eq q4
    have hA : OA x n s.2.length i s.1 s.2 (fc x v f) (cel s.2 i) (cel s.1 v) (cel s.1 (fc x v f).u.toNat) True :=
      ⟨h1, sign25 hval, ⟨by omega, by omega⟩, rd_int (w := true) rfl hi, hil, (by have := rd_int (h := oqH x n s.1 s.2 ++ [zB (fc x v f)]) (b := 2) (o := v) (x := s.1) (w := true) rfl (by omega); rw [← hvv] at this ⊢; exact this), hin, rd_int (w := true) rfl hul, trivial⟩
    simp only [Bool.false_or]
    cases h3 : (cel s.1 (fc x v f).u.toNat == 0) with
    | false =>
      have e : gf mO (cel s.1 v) s (fc x v f) = s := by unfold gf; rw [if_neg (by intro hh; have := hh.2; simp only [mO] at this; rw [h3] at this; cases this)]
      rw [e, ← hsw]
      have : f = 0 ∨ f = 1 ∨ f = 2 ∨ f = 3 := by omega
      refine ⟨fun hh => ?_, fun hh => ?_⟩
      · have h4 : (cel s.1 (fc x v f).u.toNat != sW (fc x v f).p (cel s.1 v)) = false := by simp only [bne, hh]; rfl
        rcases this with rfl | rfl | rfl | rfl
        · exact s0 hA h3 h4
        · exact s1 hA h3 h4
        · exact s2 hA h3 h4
        · exact s3 hA h3 h4
      · have h4 : (cel s.1 (fc x v f).u.toNat != sW (fc x v f).p (cel s.1 v)) = true := by simp only [bne, hh]; rfl
        rcases this with rfl | rfl | rfl | rfl
        · exact x0 hA h3 h4
        · exact x1 hA h3 h4
        · exact x2 hA h3 h4
        · exact x3 hA h3 h4
    | true =>
      have e : gf mO (cel s.1 v) s (fc x v f) = (s.1.set (fc x v f).u.toNat (sW (fc x v f).p (cel s.1 v)), s.2 ++ [(fc x v f).u]) := by unfold gf; rw [if_pos ⟨by rw [ile_eq]; simpa using h0, h3⟩, ← hsw]
      rw [e]
      simp only [List.length_append, List.length_cons, List.length_nil, Nat.zero_add]
      rw [cel_set hul, if_pos rfl, ← hsw]
      refine ⟨fun _ => ?_, fun hh => by simp at hh⟩
      have hwr : WrO (oqH x n s.1 s.2 ++ [zB (fc x v f)]) 2 (fc x v f).u (sW (fc x v f).p (cel s.1 v)) (oqH x n (s.1.set (fc x v f).u.toNat (sW (fc x v f).p (cel s.1 v))) s.2 ++ [zB (fc x v f)]) := wr_int (b := 2) rfl hul
      have hap : ApO 3 s.2.length 5 (oqH x n (s.1.set (fc x v f).u.toNat (sW (fc x v f).p (cel s.1 v))) s.2 ++ [zB (fc x v f), uB (fc x v f).u]) (oS 6 (s.2.length + 1)) (R6 x n (s.1.set (fc x v f).u.toNat (sW (fc x v f).p (cel s.1 v))) (s.2 ++ [(fc x v f).u]) [zB (fc x v f), uB (fc x v f).u]) :=
        app_own36 (b := 3) (c := 5) (w := true) rfl (Nat.le_of_ble_eq_true rfl) rfl rfl (by omega)
      have hrd : RdO (R6 x n (s.1.set (fc x v f).u.toNat (sW (fc x v f).p (cel s.1 v))) (s.2 ++ [(fc x v f).u]) [zB (fc x v f), uB (fc x v f).u]) 2 (fc x v f).u (sW (fc x v f).p (cel s.1 v)) := by
        have := rd_int (h := R6 x n (s.1.set (fc x v f).u.toNat (sW (fc x v f).p (cel s.1 v))) (s.2 ++ [(fc x v f).u]) [zB (fc x v f), uB (fc x v f).u]) (b := 2) (o := (fc x v f).u.toNat) (w := true) rfl (by rw [List.length_set]; omega)
        rw [cel_set hul, if_pos rfl] at this
        exact this
      have hne : (sW (fc x v f).p (cel s.1 v) != sW (fc x v f).p (cel s.1 v)) = false := by simp
      have : f = 0 ∨ f = 1 ∨ f = 2 ∨ f = 3 := by omega
      rcases this with rfl | rfl | rfl | rfl
      · exact b0 hA h3 hwr hap hrd hne
      · exact b1 hA h3 hwr hap hrd hne
      · exact b2 hA h3 hwr hap hrd hne
      · exact b3 hA h3 hwr hap hrd hne

theorem okT_all {v : Nat} : ∀ {m f : Nat}, okT x s v m = true → f < m → okT x s v f = true ∧ okf x s v f = true := by
  intro m
  induction m with
  | zero => intro f _ h; omega
  | succ m ih =>
    intro f h hf
    simp only [okT, Bool.and_eq_true] at h
    by_cases e : f = m
    · subst e; exact h
    · exact ih h.1 (by omega)
theorem okT_bad {v : Nat} : ∀ {m : Nat}, okT x s v m = false → ∃ f, f < m ∧ okT x s v f = true ∧ okf x s v f = false := by
  intro m
  induction m with
  | zero => intro h; simp [okT] at h
  | succ m ih =>
    intro h
    simp only [okT] at h
    cases hm : okT x s v m with
    | false => obtain ⟨f, h1, h2⟩ := ih hm; exact ⟨f, by omega, h2⟩
    | true => rw [hm, Bool.true_and] at h; exact ⟨m, by omega, hm, h⟩

abbrev LF (x : List Int) (n : Nat) (T : Value) (t : Int) (i m : Nat) (o q : List Int) (ax : AX) (l : List (Nat × Value)) (o' q' : List Int) : Prop := (obs Tryz.prog TY none ([], true) 95).loop 1 (fb Tryz.f14 4) (eF n T t (oS 3 m) i 0) (oqH x n o q) ax l (oqH x n o' q')
theorem loopF (hc : chk n x = 0) (hn : n ≤ 1000) (h : BI mO x n PO o0 t0 i 0 s) (hi : i < s.2.length) :
    (okT x s (cel s.2 i).toNat 4 = true → LF x n (tvx x (cel s.2 i).toNat) t i s.2.length s.1 s.2 .normal (eG n t (oS 3 (gt mO x s (cel s.2 i).toNat 4).2.length) i) (gt mO x s (cel s.2 i).toNat 4).1 (gt mO x s (cel s.2 i).toNat 4).2) ∧
    (okT x s (cel s.2 i).toNat 4 = false → ∃ o' q', LF x n (tvx x (cel s.2 i).toNat) t i s.2.length s.1 s.2 .ret eX o' q') := by
  have K := keepsO hc
  have hfb : fb Tryz.f14 4 = .block 4 (.loop (lb Tryz.f14 4)) := by kernel_rfl
  have fc' : ∀ f, f < 4 → (okf x s (cel s.2 i).toNat f = true → CF n (tvx x (cel s.2 i).toNat) t (gt mO x s (cel s.2 i).toNat f).2.length i f (oqH x n (gt mO x s (cel s.2 i).toNat f).1 (gt mO x s (cel s.2 i).toNat f).2) .normal (eF n (tvx x (cel s.2 i).toNat) t (oS 3 (gt mO x s (cel s.2 i).toNat (f + 1)).2.length) i (f + 1)) (oqH x n (gt mO x s (cel s.2 i).toNat (f + 1)).1 (gt mO x s (cel s.2 i).toNat (f + 1)).2)) ∧
      (okf x s (cel s.2 i).toNat f = false → CF n (tvx x (cel s.2 i).toNat) t (gt mO x s (cel s.2 i).toNat f).2.length i f (oqH x n (gt mO x s (cel s.2 i).toNat f).1 (gt mO x s (cel s.2 i).toNat f).2) .ret eX (oqH x n (gt mO x s (cel s.2 i).toNat f).1 (gt mO x s (cel s.2 i).toNat f).2)) := by
    intro f h4
    obtain ⟨b1, b2, b3⟩ := h.tet K hi f (by omega)
    have := face (t := t) hc hn b1 (by omega) h4
    rw [b2] at this
    exact this
  refine ⟨fun hok => ?_, fun hok => ?_⟩
  · refine comes_loop hfb rfl (fun f => eF n (tvx x (cel s.2 i).toNat) t (oS 3 (gt mO x s (cel s.2 i).toNat f).2.length) i f) (fun f => oqH x n (gt mO x s (cel s.2 i).toNat f).1 (gt mO x s (cel s.2 i).toNat f).2) (fun f => f ≤ 4) (fun f => 4 - f) 0 (by omega) rfl rfl ?_
    intro f hf
    by_cases h4 : f < 4
    · exact .inl ⟨f + 1, by omega, by omega, (fc' f h4).1 (okT_all hok h4).2⟩
    · have : f = 4 := by omega
      subst this
      exact .inr (.inl ⟨rfl, fEnd⟩)
  · obtain ⟨j, hj, hj1, hj2⟩ := okT_bad hok
    refine ⟨(gt mO x s (cel s.2 i).toNat j).1, (gt mO x s (cel s.2 i).toNat j).2, ?_⟩
    refine comes_loop hfb rfl (fun f => eF n (tvx x (cel s.2 i).toNat) t (oS 3 (gt mO x s (cel s.2 i).toNat f).2.length) i f) (fun f => oqH x n (gt mO x s (cel s.2 i).toNat f).1 (gt mO x s (cel s.2 i).toNat f).2) (fun f => f ≤ j) (fun f => 4 - f) 0 (by omega) rfl rfl ?_
    intro f hf
    by_cases h4 : f < j
    · exact .inl ⟨f + 1, by omega, by omega, (fc' f (by omega)).1 (okT_all hj1 h4).2⟩
    · have : f = j := by omega
      subst this
      exact .inr (.inr ⟨rfl, (fc' f hj).2 hj2⟩)

def eGw (n : Nat) (t : Int) (s : Value) (i : Nat) : List (Nat × Value) := [(1, pt 1), (6, oS 2 n), (23, it n), (24, it t), (8, s), (9, it (IntKind.i64.wrap ((i : Int) + 1)))]
def eT (n : Nat) (t : Int) : List (Nat × Value) := [(1, pt 1), (6, oS 2 n), (23, it n), (24, it t)]
def tT : List Nat := [1, 6, 23, 24]
abbrev CQ (n : Nat) (t : Int) (m i : Nat) (h : Heap) (ax : AX) (l : List (Nat × Value)) (h' : Heap) : Prop := Comes none ([], true) Tryz.prog 95 1 (lb Tryz.f14 2) (eG n t (oS 3 m) i) h ax l h'
def lpD (ax : AX) (ts : List Nat) (l : List (Nat × Value)) (h : Heap) : LoopD := (ts, fun _ _ => (ax, l, h))
def dQ (v : Int) (a b c d : Fc) : List ((Nat × Nat) × (Option Bool × Td)) := [((14, 4), ixD), ((14, 5), ldC [.int .i64 v]), ((14, 6), ixD), ((14, 7), ldC (c4 a b c d))]
theorem qStep {m m' : Nat} {o q o' q' : List Int} {v : Int} {a b c d : Fc} (h1 : ilt (i : Int) m = true) (h2 : InN i m) (h3 : RdN (oqH x n o q) 3 i v) (h4 : InI v n) (h5 : PT.Rd4 (oqH x n o q) v a b c d) (h6 : LF x n (tv a b c d) t i m o q .normal (eG n t (oS 3 m') i) o' q') :
    CQ n t m i (oqH x n o q) .normal (eGw n t (oS 3 m') i) (oqH x n o' q') :=
  comes_run (S := { dir := dd (dQ v a b c d), know := kk [(40, true)], loop := loops [(4, lpD .normal tF (eG n t (oS 3 m') i) (oqH x n o' q'))] }) (k := 60) (ts := tG) (junk := []) (h1 := oqH x n o' q') (l0 := eGw n t (oS 3 m') i)
    (A := (ilt (i : Int) m = true) ∧ InN i m ∧ RdN (oqH x n o q) 3 i v ∧ InI v n ∧ PT.Rd4 (oqH x n o q) v a b c d ∧ LF x n (tv a b c d) t i m o q .normal (eG n t (oS 3 m') i) o' q' ∧ Dn .normal (eGw n t (oS 3 m') i) (oqH x n o' q')) TY_ok mixed ok2 (Nat.le_of_ble_eq_true rfl) (oqH_closed x n o' q') rfl ⟨h1, h2, h3, h4, h5, h6, dn _ _ _⟩ (by kernel_rfl)
theorem qBad {m : Nat} {o q o' q' : List Int} {v : Int} {a b c d : Fc} (h1 : ilt (i : Int) m = true) (h2 : InN i m) (h3 : RdN (oqH x n o q) 3 i v) (h4 : InI v n) (h5 : PT.Rd4 (oqH x n o q) v a b c d) (h6 : LF x n (tv a b c d) t i m o q .ret eX o' q') :
    CQ n t m i (oqH x n o q) .ret eX (oqH x n o' q') :=
  comes_run (S := { dir := dd (dQ v a b c d), know := kk [(40, true)], loop := loops [(4, lpD .ret tF eX (oqH x n o' q'))] }) (k := 60) (ts := tX) (junk := []) (h1 := oqH x n o' q') (l0 := eX)
    (A := (ilt (i : Int) m = true) ∧ InN i m ∧ RdN (oqH x n o q) 3 i v ∧ InI v n ∧ PT.Rd4 (oqH x n o q) v a b c d ∧ LF x n (tv a b c d) t i m o q .ret eX o' q' ∧ Dn .ret eX (oqH x n o' q')) TY_ok mixed ok2 (Nat.le_of_ble_eq_true rfl) (oqH_closed x n o' q') rfl ⟨h1, h2, h3, h4, h5, h6, dn _ _ _⟩ (by kernel_rfl)
theorem qEnd {m : Nat} {o q : List Int} (h1 : ilt (i : Int) m = false) : CQ n t m i (oqH x n o q) (.exit 2) (eT n t) (oqH x n o q) :=
  comes_run (S := { dir := dd [], know := kk [(40, false)], loop := noloop }) (k := 60) (ts := tT) (junk := []) (h1 := oqH x n o q) (l0 := eT n t) (A := (ilt (i : Int) m = false) ∧ Dn (.exit 2) (eT n t) (oqH x n o q)) TY_ok mixed ok2 (Nat.le_of_ble_eq_true rfl) (oqH_closed x n o q) rfl ⟨h1, dn _ _ _⟩ (by kernel_rfl)

theorem okQ_at : ∀ {m j : Nat}, okQ x s m = true → j < m → okQ x s j = true ∧ (j < (gq mO x s j).2.length → okT x (gq mO x s j) (cel (gq mO x s j).2 j).toNat 4 = true) := by
  intro m
  induction m with
  | zero => intro j _ h; omega
  | succ m ih =>
    intro j h hj
    simp only [okQ, Bool.and_eq_true] at h
    by_cases e : j = m
    · subst e; exact ⟨h.1, fun hl => by have := h.2; simpa [hl] using this⟩
    · exact ih h.1 (by omega)
theorem okQ_bad : ∀ {m : Nat}, okQ x s m = false → ∃ j, j < m ∧ okQ x s j = true ∧ j < (gq mO x s j).2.length ∧ okT x (gq mO x s j) (cel (gq mO x s j).2 j).toNat 4 = false := by
  intro m
  induction m with
  | zero => intro h; simp [okQ] at h
  | succ m ih =>
    intro h
    simp only [okQ] at h
    cases hm : okQ x s m with
    | false => obtain ⟨j, h1, h2⟩ := ih hm; exact ⟨j, by omega, h2⟩
    | true =>
      rw [hm, Bool.true_and] at h
      simp only [Bool.or_eq_false_iff, Bool.not_eq_false', decide_eq_true_eq] at h
      exact ⟨m, by omega, hm, h.1, h.2⟩

abbrev LQ (x : List Int) (n : Nat) (t : Int) (o q : List Int) (m : Nat) (ax : AX) (l : List (Nat × Value)) (o' q' : List Int) : Prop := (obs Tryz.prog TY none ([], true) 95).loop 1 (fb Tryz.f14 2) (eG n t (oS 3 m) 0) (oqH x n o q) ax l (oqH x n o' q')
theorem loopQ (hx : x.length = 20 * n) (hc : chk n x = 0) (hn : n ≤ 1000) (h : BI mO x n PO o0 t0 0 0 s) :
    (okQ x s n = true → LQ x n t s.1 s.2 s.2.length .normal (eT n t) (gq mO x s n).1 (gq mO x s n).2) ∧ (okQ x s n = false → ∃ o' q', LQ x n t s.1 s.2 s.2.length .ret eX o' q') := by
  have K := keepsO hc
  have hfb : fb Tryz.f14 2 = .block 2 (.loop (lb Tryz.f14 2)) := by kernel_rfl
  have step : ∀ i, BI mO x n PO o0 t0 i 0 (gq mO x s i) → i < (gq mO x s i).2.length → okT x (gq mO x s i) (cel (gq mO x s i).2 i).toNat 4 = true →
      BI mO x n PO o0 t0 (i + 1) 0 (gq mO x s (i + 1)) ∧ CQ n t (gq mO x s i).2.length i (oqH x n (gq mO x s i).1 (gq mO x s i).2) .normal (eG n t (oS 3 (gq mO x s (i + 1)).2.length) (i + 1)) (oqH x n (gq mO x s (i + 1)).1 (gq mO x s (i + 1)).2) := by
    intro i hb hi hok
    have hsh := hb.short
    obtain ⟨b1, b2, b3⟩ := hb.tet K hi 4 (by omega)
    obtain ⟨q0, q1, _⟩ := hb.qin i hi
    have e : gq mO x s (i + 1) = gt mO x (gq mO x s i) (cel (gq mO x s i).2 i).toNat 4 := by simp only [gq]; rw [if_pos hi]
    have hl := (loopF (t := t) hc hn hb hi).1 hok
    have := qStep (by rw [ilt_eq]; simp; omega) ⟨by omega, by omega⟩ (rd_int (w := true) rfl hi) ⟨q0, q1⟩ (c4_rd (w := false) rfl hx (by omega)) hl
    rw [← e] at this
    unfold eGw at this
    rw [wrap_succ (by omega)] at this
    refine ⟨?_, this⟩
    rw [e]
    exact b1.next (by omega)
  refine ⟨fun hok => ?_, fun hok => ?_⟩
  · refine comes_loop hfb rfl (fun i => eG n t (oS 3 (gq mO x s i).2.length) i) (fun i => oqH x n (gq mO x s i).1 (gq mO x s i).2) (fun i => BI mO x n PO o0 t0 i 0 (gq mO x s i)) (fun i => n - i) 0 h rfl rfl ?_
    intro i hb
    have hle := hb.le
    have hsh := hb.short
    by_cases hi : i < (gq mO x s i).2.length
    · obtain ⟨s1, s2⟩ := step i hb hi ((okQ_at hok (by omega)).2 hi)
      exact .inl ⟨i + 1, s1, by omega, s2⟩
    · have e := gq_end (n := n) (Nat.le_of_not_lt hi) (by omega)
      rw [e]
      exact .inr (.inl ⟨rfl, qEnd (by rw [ilt_eq]; simp; omega)⟩)
  · obtain ⟨j, hj, hj1, hj2, hj3⟩ := okQ_bad hok
    have main : ∀ i, i ≤ j → BI mO x n PO o0 t0 i 0 (gq mO x s i) ∧ i < (gq mO x s i).2.length := by
      intro i
      induction i with
      | zero => intro _; exact ⟨h, h.fst.1⟩
      | succ i ih =>
        intro hij
        obtain ⟨a1, a2⟩ := ih (by omega)
        obtain ⟨s1, _⟩ := step i a1 a2 ((okQ_at hj1 (by omega)).2 a2)
        refine ⟨s1, ?_⟩
        by_cases hl : i + 1 < (gq mO x s (i + 1)).2.length
        · exact hl
        · exfalso
          have e := gq_end (n := j) (Nat.le_of_not_lt hl) (by omega)
          rw [e] at hj2
          omega
    obtain ⟨a1, a2⟩ := main j (Nat.le_refl _)
    obtain ⟨o', q', hl⟩ := (loopF (t := t) hc hn a1 a2).2 hj3
    obtain ⟨q0, q1, _⟩ := a1.qin j a2
    refine ⟨o', q', ?_⟩
    refine comes_loop hfb rfl (fun i => eG n t (oS 3 (gq mO x s i).2.length) i) (fun i => oqH x n (gq mO x s i).1 (gq mO x s i).2) (fun i => i ≤ j) (fun i => n - i) 0 (by omega) rfl rfl ?_
    intro i hi
    obtain ⟨b1, b2⟩ := main i hi
    by_cases hij : i < j
    · obtain ⟨s1, s2⟩ := step i b1 b2 ((okQ_at hj1 hij).2 b2)
      exact .inl ⟨i + 1, by omega, by omega, s2⟩
    · have : i = j := by omega
      subst this
      exact .inr (.inr ⟨rfl, qBad (by rw [ilt_eq]; simp; omega) ⟨by omega, by omega⟩ (rd_int (w := true) rfl b2) ⟨q0, q1⟩ (c4_rd (w := false) rfl hx (by omega)) hl⟩)

abbrev CT (n : Nat) (t : Int) (h : Heap) (ax : AX) (l : List (Nat × Value)) (h' : Heap) : Prop := Comes none ([], true) Tryz.prog 95 1 (lb Tryz.f14 0) (eT n t) h ax l h'
theorem tSkip {tt : Nat} {o : List Int} {v : Int} (h1 : ilt (tt : Int) n = true) (h2 : InN tt n) (h3 : RdN (oH x n o) 2 tt v) (h4 : (v != 0) = true) : CT n tt (oH x n o) .normal (eT n (IntKind.i64.wrap ((tt : Int) + 1))) (oH x n o) :=
  comes_run (S := { dir := dd [((8, 2), ixD), ((8, 3), ldC [.int .i64 v])], know := kk [(25, true), (31, true)], loop := noloop }) (k := 60) (ts := tT) (junk := []) (h1 := oH x n o) (l0 := eT n (IntKind.i64.wrap ((tt : Int) + 1)))
    (A := (ilt (tt : Int) n = true) ∧ InN tt n ∧ RdN (oH x n o) 2 tt v ∧ ((v != 0) = true) ∧ Dn .normal (eT n (IntKind.i64.wrap ((tt : Int) + 1))) (oH x n o)) TY_ok mixed ok0 (Nat.le_of_ble_eq_true rfl) (oH_closed x n o) rfl ⟨h1, h2, h3, h4, dn _ _ _⟩ (by kernel_rfl)
def WrN (h : Heap) (b i : Nat) (v : Int) (h' : Heap) : Prop := writeCells h ⟨b, 0 + i * 1, none⟩ [.int .i64 v] = some h'
def dT (x : List Int) (n : Nat) (v : Int) (o2 : List Int) : List ((Nat × Nat) × (Option Bool × Td)) := [((8, 2), ixD), ((8, 3), ldC [.int .i64 v]), ((9, 2), ixD), ((9, 3), stD (oH x n o2))]
theorem tRun {tt : Nat} {o o2 o' q' : List Int} {v : Int} (h1 : ilt (tt : Int) n = true) (h2 : InN tt n) (h3 : RdN (oH x n o) 2 tt v) (h4 : (v != 0) = false) (h5 : WrN (oH x n o) 2 tt 1 (oH x n o2)) (h6 : LQ x n tt o2 [(tt : Int)] 1 .normal (eT n tt) o' q') :
    CT n tt (oH x n o) .normal (eT n (IntKind.i64.wrap ((tt : Int) + 1))) (oH x n o') :=
  comes_run (S := { dir := dd (dT x n v o2), know := kk [(25, true), (31, false)], loop := loops [(2, lpD .normal tG (eT n tt) (oqH x n o' q'))] }) (k := 60) (ts := tT) (junk := [some ⟨ints q', true⟩]) (h1 := oH x n o') (l0 := eT n (IntKind.i64.wrap ((tt : Int) + 1)))
    (A := (ilt (tt : Int) n = true) ∧ InN tt n ∧ RdN (oH x n o) 2 tt v ∧ ((v != 0) = false) ∧ InN tt n ∧ WrN (oH x n o) 2 tt 1 (oH x n o2) ∧ LQ x n tt o2 [(tt : Int)] 1 .normal (eT n tt) o' q' ∧ Dn .normal (eT n (IntKind.i64.wrap ((tt : Int) + 1))) (oqH x n o' q')) TY_ok mixed ok0 (Nat.le_of_ble_eq_true rfl) (oH_closed x n o') rfl ⟨h1, h2, h3, h4, h2, h5, h6, dn _ _ _⟩ (by kernel_rfl)
theorem tBad {tt : Nat} {o o2 o' q' : List Int} {v : Int} (h1 : ilt (tt : Int) n = true) (h2 : InN tt n) (h3 : RdN (oH x n o) 2 tt v) (h4 : (v != 0) = false) (h5 : WrN (oH x n o) 2 tt 1 (oH x n o2)) (h6 : LQ x n tt o2 [(tt : Int)] 1 .ret eX o' q') :
    CT n tt (oH x n o) .ret eX (oqH x n o' q') :=
  comes_run (S := { dir := dd (dT x n v o2), know := kk [(25, true), (31, false)], loop := loops [(2, lpD .ret tG eX (oqH x n o' q'))] }) (k := 60) (ts := tX) (junk := []) (h1 := oqH x n o' q') (l0 := eX)
    (A := (ilt (tt : Int) n = true) ∧ InN tt n ∧ RdN (oH x n o) 2 tt v ∧ ((v != 0) = false) ∧ InN tt n ∧ WrN (oH x n o) 2 tt 1 (oH x n o2) ∧ LQ x n tt o2 [(tt : Int)] 1 .ret eX o' q' ∧ Dn .ret eX (oqH x n o' q')) TY_ok mixed ok0 (Nat.le_of_ble_eq_true rfl) (oqH_closed x n o' q') rfl ⟨h1, h2, h3, h4, h2, h5, h6, dn _ _ _⟩ (by kernel_rfl)
def eZ (n : Nat) : List (Nat × Value) := [(1, pt 1), (6, oS 2 n)]
theorem tEnd {tt : Nat} {o : List Int} (h1 : ilt (tt : Int) n = false) : CT n tt (oH x n o) (.exit 0) (eZ n) (oH x n o) :=
  comes_run (S := { dir := dd [], know := kk [(25, false)], loop := noloop }) (k := 60) (ts := [1, 6]) (junk := []) (h1 := oH x n o) (l0 := eZ n) (A := (ilt (tt : Int) n = false) ∧ Dn (.exit 0) (eZ n) (oH x n o)) TY_ok mixed ok0 (Nat.le_of_ble_eq_true rfl) (oH_closed x n o) rfl ⟨h1, dn _ _ _⟩ (by kernel_rfl)

theorem ost_mono : ∀ {t : Nat}, (ost x n (t + 1)).2 = true → (ost x n t).2 = true := by
  intro t h
  cases hb : (ost x n t).2 with
  | true => rfl
  | false => simp only [ost, hb] at h; rw [if_neg (by simp)] at h; rw [hb] at h; exact h
theorem ost_down : ∀ {m t : Nat}, (ost x n m).2 = true → t ≤ m → (ost x n t).2 = true := by
  intro m
  induction m with
  | zero => intro t h ht; have : t = 0 := by omega
            subst this; exact h
  | succ m ih =>
    intro t h ht
    by_cases e : t = m + 1
    · subst e; exact h
    · exact ih (ost_mono h) (by omega)
theorem ost_bad : ∀ {m : Nat}, (ost x n m).2 = false → ∃ t, t < m ∧ (ost x n t).2 = true ∧ (ost x n (t + 1)).2 = false := by
  intro m
  induction m with
  | zero => intro h; simp [ost] at h
  | succ m ih =>
    intro h
    cases hm : (ost x n m).2 with
    | true => exact ⟨m, by omega, hm, h⟩
    | false => obtain ⟨t, h1, h2⟩ := ih hm; exact ⟨t, by omega, h2⟩

/-- One tetrahedron more. -/
theorem round (hx : x.length = 20 * n) (hc : chk n x = 0) (hn : n ≤ 1000) {t : Nat} (h4 : t < n) (hr : (ost x n t).2 = true) :
    ((ost x n (t + 1)).2 = true → CT n t (oH x n (ost x n t).1) .normal (eT n ((t + 1 : Nat) : Int)) (oH x n (ost x n (t + 1)).1)) ∧
    ((ost x n (t + 1)).2 = false → ∃ o' q', CT n t (oH x n (ost x n t).1) .ret eX (oqH x n o' q')) := by
  have hp := orient_inv hc t (by omega)
  have hlen := hp.len
  have a1 : ilt (t : Int) n = true := by rw [ilt_eq]; simp; omega
  have a2 : InN t n := ⟨by omega, by omega⟩
  have a3 : RdN (oH x n (ost x n t).1) 2 t (cel (ost x n t).1 t) := rd_int (w := true) rfl (by omega)
  by_cases h0 : cel (ost x n t).1 t = 0
  · have e : ost x n (t + 1) = (srch mO x n (ost x n t).1 t 1, okQ x ((ost x n t).1.set t 1, [(t : Int)]) n) := by
      conv => lhs; simp only [ost]
      rw [if_pos ⟨hr, h0⟩]
    have hst := BI.start (M := mO) (x := x) (P := PO) hlen (c := 1) h4 (bO'.2 h0) (by simp [mO]) (.inl rfl)
    have hl := loopQ (t := t) hx hc hn hst
    have a5 : WrN (oH x n (ost x n t).1) 2 t 1 (oH x n ((ost x n t).1.set t 1)) := wr_int (b := 2) rfl (by omega)
    have h4' : (cel (ost x n t).1 t != 0) = false := by rw [h0]; rfl
    rw [e]
    refine ⟨fun hok => ?_, fun hok => ?_⟩
    · have h := tRun a1 a2 a3 h4' a5 (hl.1 hok)
      rw [wrap_succ (by omega)] at h
      exact h
    · obtain ⟨o', q', hq⟩ := hl.2 hok
      exact ⟨o', q', tBad a1 a2 a3 h4' a5 hq⟩
  · have e : ost x n (t + 1) = ost x n t := by
      conv => lhs; simp only [ost]
      rw [if_neg (fun hh => h0 hh.2)]
    rw [e]
    refine ⟨fun _ => ?_, fun hh => by rw [hr] at hh; cases hh⟩
    have h := tSkip a1 a2 a3 (by simp [h0])
    rw [wrap_succ (by omega)] at h
    exact h

abbrev LT (x : List Int) (n : Nat) (ax : AX) (l : List (Nat × Value)) (h' : Heap) : Prop := (obs Tryz.prog TY none ([], true) 95).loop 1 (fb Tryz.f14 0) (eT n 0) (oH x n (inl n fun _ => 0)) ax l h'
theorem loopT (hx : x.length = 20 * n) (hc : chk n x = 0) (hn : n ≤ 1000) : (oriB x n = true → LT x n .normal (eZ n) (oH x n (oriL x n))) ∧ (oriB x n = false → ∃ o' q', LT x n .ret eX (oqH x n o' q')) := by
  have hfb : fb Tryz.f14 0 = .block 0 (.loop (lb Tryz.f14 0)) := by kernel_rfl
  have hz : oH x n (ost x n 0).1 = oH x n (inl n fun _ => 0) := by simp only [ost, inl, List.map_const', List.length_range]
  refine ⟨fun hok => ?_, fun hok => ?_⟩
  · refine comes_loop hfb rfl (fun t : Nat => eT n t) (fun t => oH x n (ost x n t).1) (fun t => t ≤ n) (fun t => n - t) 0 (by omega) rfl hz ?_
    intro t ht
    by_cases h4 : t < n
    · exact .inl ⟨t + 1, by omega, by omega, (round hx hc hn h4 (ost_down hok ht)).1 (ost_down hok (by omega))⟩
    · have : t = n := by omega
      subst this
      exact .inr (.inl ⟨rfl, tEnd (by rw [ilt_eq]; simp)⟩)
  · obtain ⟨j, hj, hj1, hj2⟩ := ost_bad hok
    obtain ⟨o', q', hq⟩ := (round hx hc hn hj hj1).2 hj2
    refine ⟨o', q', ?_⟩
    refine comes_loop hfb rfl (fun t : Nat => eT n t) (fun t => oH x n (ost x n t).1) (fun t => t ≤ j) (fun t => n - t) 0 (by omega) rfl hz ?_
    intro t ht
    by_cases h4 : t < j
    · exact .inl ⟨t + 1, by omega, by omega, (round hx hc hn (by omega) (ost_down hj1 ht)).1 (ost_down hj1 (by omega))⟩
    · have : t = j := by omega
      subst this
      exact .inr (.inr ⟨rfl, hq⟩)
end

def MkO (x : List Int) (n : Nat) : Prop := aMakeSlice TY 36 (.int .i64 n) (.int .i64 n) (PT.bH x n) = some (oS 2 n, oH x n (inl n fun _ => 0))
abbrev Gk (x : List Int) (n : Nat) (k : Int) : Prop := Gives Tryz.prog 13 [gV 0 n] (PT.bH x n) (.ret (.int .i64 k)) (PT.bH x n) ∧ ∃ y, PT.bH x n = PT.bH x n ++ y
abbrev oRes (s : Value) (b : Bool) (e : Int) : Value := .tuple ⟨[s, .bool b, .int .i64 e]⟩
end OR

theorem gorient_bad {x : List Int} {n : Nat} (hx : x.length = 20 * n) (hc : chk n x = 7) : Sum Tryz.prog 14 [gV 0 n] [some ⟨ints x, false⟩] fun out _ => out = .ret (OR.oRes (.slice none 0 0) false 7) := by
  have g1 : OR.Gk x n 7 := gives_one (hc ▸ gcheck_sum hx) rfl (w := false) rfl
  exact tFun_sum (S := { dir := dd [((1, 1), ansD (.int .i64 7) id)], know := kk [], loop := noloop }) (k := 60) TY_ok mixed fn14_ok
    (A := OR.Gk x n 7 ∧ AOut.ret (OR.oRes (.slice none 0 0) false 7) = .ret (OR.oRes (.slice none 0 0) false 7)) ⟨g1, rfl⟩ (by kernel_rfl)
theorem gorient_no {x : List Int} {n : Nat} (hn : n ≤ 1000) (hx : x.length = 20 * n) (hc : chk n x = 0) (hr : oriB x n = false) : Sum Tryz.prog 14 [gV 0 n] [some ⟨ints x, false⟩] fun out _ => out = .ret (OR.oRes (.slice none 0 0) false 0) := by
  have g1 : OR.Gk x n 0 := gives_one (hc ▸ gcheck_sum hx) rfl (w := false) rfl
  obtain ⟨o', q', hl⟩ := (OR.loopT hx hc hn).2 hr
  exact tFun_sum (S := { dir := dd [((1, 1), ansD (.int .i64 0) id), ((4, 3), (none, .op fun _ _ => (oS 2 n, oH x n (inl n fun _ => 0))))], know := kk [], loop := loops [(0, OR.lpD .ret OR.tT OR.eX (oqH x n o' q'))] }) (k := 60) TY_ok mixed fn14_ok
    (A := OR.Gk x n 0 ∧ OR.MkO x n ∧ OR.LT x n .ret OR.eX (oqH x n o' q') ∧ AOut.ret (OR.oRes (.slice none 0 0) false 0) = .ret (OR.oRes (.slice none 0 0) false 0)) ⟨g1, mk36 hn, hl, rfl⟩ (by kernel_rfl)
theorem gorient_ok {x : List Int} {n : Nat} (hn : n ≤ 1000) (hx : x.length = 20 * n) (hc : chk n x = 0) (hr : oriB x n = true) :
    Sum Tryz.prog 14 [gV 0 n] [some ⟨ints x, false⟩] fun out h2 => out = .ret (OR.oRes (oS 1 n) true 0) ∧ h2 = [some ⟨ints x, false⟩, some ⟨ints (oriL x n), true⟩] := by
  have g1 : OR.Gk x n 0 := gives_one (hc ▸ gcheck_sum hx) rfl (w := false) rfl
  have hs : Sum Tryz.prog 14 [gV 0 n] [some ⟨ints x, false⟩] fun out h2 => out = .ret (OR.oRes (oS 2 n) true 0) ∧ h2 = oH x n (oriL x n) :=
    tFun_sum (S := { dir := dd [((1, 1), ansD (.int .i64 0) id), ((4, 3), (none, .op fun _ _ => (oS 2 n, oH x n (inl n fun _ => 0))))], know := kk [], loop := loops [(0, OR.lpD .normal OR.tT (OR.eZ n) (oH x n (oriL x n)))] }) (k := 60) TY_ok mixed fn14_ok
      (A := OR.Gk x n 0 ∧ OR.MkO x n ∧ OR.LT x n .normal (OR.eZ n) (oH x n (oriL x n)) ∧ AOut.ret (OR.oRes (oS 2 n) true 0) = .ret (OR.oRes (oS 2 n) true 0) ∧ oH x n (oriL x n) = oH x n (oriL x n)) ⟨g1, mk36 hn, (OR.loopT hx hc hn).1 hr, rfl, rfl⟩ (by kernel_rfl)
  exact Sum.pick (ks := [0, 2]) hs (by kernel_rfl) ⟨⟨_, rfl, subL_plain _ _ (ints_plain x), id⟩, ⟨_, rfl, subL_plain _ _ (ints_plain _), id⟩, trivial⟩ (by kernel_rfl) ⟨_, rfl, _, _, rfl, sub_oS rfl, _, _, rfl, rfl, _, _, rfl, rfl, rfl⟩
end Go.Ab
