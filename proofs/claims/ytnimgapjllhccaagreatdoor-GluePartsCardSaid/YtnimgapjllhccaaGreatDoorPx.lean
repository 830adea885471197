/- The function Parts of the specification answers. Conditions: none beyond the given model and program. -/
import Derived.Test.YtnimgapjllhccaaGreatDoorPv
namespace Go.Ab
open Go.Proofs

theorem fn51_ok : Tryz.prog.funcs[51]? = some Tryz.f51 ∧ (Tryz.f51.name == "runtime.NumGoroutine") = false ∧ ∀ c, Tryz.f51.body = some c → codeOk Tryz.f51.ntmps c = true :=
  ⟨Tryz.func51, by kernel_rfl, codeOk_of (by kernel_rfl)⟩
/-- The number of a face, read where it stands. -/
def RdF (h : Heap) (v : Int) (f : Nat) (u : Int) : Prop := readCells h ⟨0, 0 + v.toNat * 20 + f * 5 + 0, none⟩ 1 = some [.int .i64 u]

namespace PX
def sc (d : List ((Nat × Nat) × (Option Bool × Td))) (k : List (Nat × Bool)) : Ts := { dir := dd d, know := kk k, loop := noloop }
def eF (n : Nat) (k t : Int) (s : Value) (i : Nat) (f : Int) : List (Nat × Value) := [(1, pt 1), (4, oS 2 n), (6, it k), (7, it t), (8, s), (9, it i), (10, it f)]
def tF : List Nat := [1, 4, 6, 7, 8, 9, 10]
def eG (n : Nat) (k t : Int) (s : Value) (i : Nat) : List (Nat × Value) := [(1, pt 1), (4, oS 2 n), (6, it k), (7, it t), (8, s), (9, it i)]
def tG : List Nat := [1, 4, 6, 7, 8, 9]
theorem ok6 : codeOk 86 (lb Tryz.f51 6) = true := by kernel_rfl
theorem ok4 : codeOk 86 (lb Tryz.f51 4) = true := by kernel_rfl
theorem ok2 : codeOk 86 (lb Tryz.f51 2) = true := by kernel_rfl
theorem ok0 : codeOk 86 (lb Tryz.f51 0) = true := by kernel_rfl
abbrev CF (n : Nat) (k t : Int) (m i f : Nat) (h : Heap) (ax : AX) (l : List (Nat × Value)) (h' : Heap) : Prop := Comes none ([], true) Tryz.prog 86 1 (lb Tryz.f51 6) (eF n k t (oS 3 m) i f) h ax l h'
abbrev OA (x : List Int) (n m i f : Nat) (o q : List Int) (v u : Int) (X : Prop) : Prop := InN i m ∧ PT.RdN (oqH x n o q) 3 i v ∧ InI v n ∧ RdF (oqH x n o q) v f u ∧ X
def dA (v u : Int) : List ((Nat × Nat) × (Option Bool × Td)) := [((21, 4), ixD), ((21, 5), ldC [.int .i64 v]), ((21, 7), ixD), ((21, 10), ldC [.int .i64 u])]

theorem n0 {x : List Int} {n m i : Nat} {o q : List Int} {k t v u : Int} {X : Prop} (h : OA x n m i 0 o q v u X) (h1 : ile 0 u = false) : CF n k t m i 0 (oqH x n o q) .normal (eF n k t (oS 3 m) i 1) (oqH x n o q) :=
  comes_run (S := sc (dA v u ++ [((22, 3), knowD false)]) []) (k := 60) (ts := tF) (junk := []) (h1 := oqH x n o q) (l0 := (eF n k t (oS 3 m) i 1)) (A := OA x n m i 0 o q v u ((ile 0 u = false) ∧ Dn .normal (eF n k t (oS 3 m) i 1) (oqH x n o q))) TY_ok mixed ok6 (Nat.le_of_ble_eq_true rfl) (oqH_closed x n o q) rfl ⟨h.1, h.2.1, h.2.2.1, h.2.2.2.1, h1, dn _ _ _⟩ (by kernel_rfl)
theorem s0 {x : List Int} {n m i : Nat} {o q : List Int} {k t v u : Int} {X : Prop} {e : Int} (h : OA x n m i 0 o q v u X) (h1 : ile 0 u = true) (h2 : InI u n) (h3 : RdO (oqH x n o q) 2 u e) (h4 : ilt e 0 = false) : CF n k t m i 0 (oqH x n o q) .normal (eF n k t (oS 3 m) i 1) (oqH x n o q) :=
  comes_run (S := sc (dA v u ++ [((22, 3), knowD true), ((22, 5), ixD), ((22, 6), ldC [.int .i64 e])]) [(74, false)]) (k := 60) (ts := tF) (junk := []) (h1 := oqH x n o q) (l0 := (eF n k t (oS 3 m) i 1))
    (A := OA x n m i 0 o q v u ((ile 0 u = true) ∧ InI u n ∧ RdO (oqH x n o q) 2 u e ∧ (ilt e 0 = false) ∧ Dn .normal (eF n k t (oS 3 m) i 1) (oqH x n o q))) TY_ok mixed ok6 (Nat.le_of_ble_eq_true rfl) (oqH_closed x n o q) rfl ⟨h.1, h.2.1, h.2.2.1, h.2.2.2.1, h1, h2, h3, h4, dn _ _ _⟩ (by kernel_rfl)
theorem b0 {x : List Int} {n m i : Nat} {o q : List Int} {k t v u : Int} {X : Prop} {e : Int} {o2 q2 : List Int} (h : OA x n m i 0 o q v u X) (h1 : ile 0 u = true) (h2 : InI u n) (h3 : RdO (oqH x n o q) 2 u e) (h4 : ilt e 0 = true)
    (h5 : WrO (oqH x n o q) 2 u k (oqH x n o2 q)) (h6 : ApO 3 m 4 (oqH x n o2 q ++ [uB u]) (oS 5 (m + 1)) (R6 x n o2 q2 [uB u])) : CF n k t m i 0 (oqH x n o q) .normal (eF n k t (oS 3 (m + 1)) i 1) (oqH x n o2 q2) :=
  comes_pick (S := sc (dA v u ++ [((22, 3), knowD true), ((22, 5), ixD), ((22, 6), ldC [.int .i64 e]), ((23, 3), ixD), ((23, 4), stD (oqH x n o2 q)), ((24, 3), apD (oS 5 (m + 1)) (R6 x n o2 q2 [uB u]))]) [(74, true)]) (k := 60) (ts := tF)
    (l0 := eF n k t (oS 5 (m + 1)) i 1) (h0 := (R6 x n o2 q2 [uB u]))
    (A := OA x n m i 0 o q v u ((ile 0 u = true) ∧ InI u n ∧ RdO (oqH x n o q) 2 u e ∧ (ilt e 0 = true) ∧ InI u n ∧ WrO (oqH x n o q) 2 u k (oqH x n o2 q) ∧ ApO 3 m 4 (oqH x n o2 q ++ [uB u]) (oS 5 (m + 1)) (R6 x n o2 q2 [uB u]) ∧ Dn .normal (eF n k t (oS 5 (m + 1)) i 1) (R6 x n o2 q2 [uB u])))
    TY_ok mixed ok6 (fun e he => Ref.ord (ks := [0, 1, 2, 5]) (by kernel_rfl) (pick6 x n o2 q2 (by kernel_rfl)) (by kernel_rfl) (by kernel_rfl) he) ⟨h.1, h.2.1, h.2.2.1, h.2.2.2.1, h1, h2, h3, h4, h2, h5, h6, dn _ _ _⟩ (by kernel_rfl)

theorem n1 {x : List Int} {n m i : Nat} {o q : List Int} {k t v u : Int} {X : Prop} (h : OA x n m i 1 o q v u X) (h1 : ile 0 u = false) : CF n k t m i 1 (oqH x n o q) .normal (eF n k t (oS 3 m) i 2) (oqH x n o q) :=
  comes_run (S := sc (dA v u ++ [((22, 3), knowD false)]) []) (k := 60) (ts := tF) (junk := []) (h1 := oqH x n o q) (l0 := (eF n k t (oS 3 m) i 2)) (A := OA x n m i 1 o q v u ((ile 0 u = false) ∧ Dn .normal (eF n k t (oS 3 m) i 2) (oqH x n o q))) TY_ok mixed ok6 (Nat.le_of_ble_eq_true rfl) (oqH_closed x n o q) rfl ⟨h.1, h.2.1, h.2.2.1, h.2.2.2.1, h1, dn _ _ _⟩ (by kernel_rfl)
theorem s1 {x : List Int} {n m i : Nat} {o q : List Int} {k t v u : Int} {X : Prop} {e : Int} (h : OA x n m i 1 o q v u X) (h1 : ile 0 u = true) (h2 : InI u n) (h3 : RdO (oqH x n o q) 2 u e) (h4 : ilt e 0 = false) : CF n k t m i 1 (oqH x n o q) .normal (eF n k t (oS 3 m) i 2) (oqH x n o q) :=
  comes_run (S := sc (dA v u ++ [((22, 3), knowD true), ((22, 5), ixD), ((22, 6), ldC [.int .i64 e])]) [(74, false)]) (k := 60) (ts := tF) (junk := []) (h1 := oqH x n o q) (l0 := (eF n k t (oS 3 m) i 2))
    (A := OA x n m i 1 o q v u ((ile 0 u = true) ∧ InI u n ∧ RdO (oqH x n o q) 2 u e ∧ (ilt e 0 = false) ∧ Dn .normal (eF n k t (oS 3 m) i 2) (oqH x n o q))) TY_ok mixed ok6 (Nat.le_of_ble_eq_true rfl) (oqH_closed x n o q) rfl ⟨h.1, h.2.1, h.2.2.1, h.2.2.2.1, h1, h2, h3, h4, dn _ _ _⟩ (by kernel_rfl)
theorem b1 {x : List Int} {n m i : Nat} {o q : List Int} {k t v u : Int} {X : Prop} {e : Int} {o2 q2 : List Int} (h : OA x n m i 1 o q v u X) (h1 : ile 0 u = true) (h2 : InI u n) (h3 : RdO (oqH x n o q) 2 u e) (h4 : ilt e 0 = true)
    (h5 : WrO (oqH x n o q) 2 u k (oqH x n o2 q)) (h6 : ApO 3 m 4 (oqH x n o2 q ++ [uB u]) (oS 5 (m + 1)) (R6 x n o2 q2 [uB u])) : CF n k t m i 1 (oqH x n o q) .normal (eF n k t (oS 3 (m + 1)) i 2) (oqH x n o2 q2) :=
  comes_pick (S := sc (dA v u ++ [((22, 3), knowD true), ((22, 5), ixD), ((22, 6), ldC [.int .i64 e]), ((23, 3), ixD), ((23, 4), stD (oqH x n o2 q)), ((24, 3), apD (oS 5 (m + 1)) (R6 x n o2 q2 [uB u]))]) [(74, true)]) (k := 60) (ts := tF)
    (l0 := eF n k t (oS 5 (m + 1)) i 2) (h0 := (R6 x n o2 q2 [uB u]))
    (A := OA x n m i 1 o q v u ((ile 0 u = true) ∧ InI u n ∧ RdO (oqH x n o q) 2 u e ∧ (ilt e 0 = true) ∧ InI u n ∧ WrO (oqH x n o q) 2 u k (oqH x n o2 q) ∧ ApO 3 m 4 (oqH x n o2 q ++ [uB u]) (oS 5 (m + 1)) (R6 x n o2 q2 [uB u]) ∧ Dn .normal (eF n k t (oS 5 (m + 1)) i 2) (R6 x n o2 q2 [uB u])))
    TY_ok mixed ok6 (fun e he => Ref.ord (ks := [0, 1, 2, 5]) (by kernel_rfl) (pick6 x n o2 q2 (by kernel_rfl)) (by kernel_rfl) (by kernel_rfl) he) ⟨h.1, h.2.1, h.2.2.1, h.2.2.2.1, h1, h2, h3, h4, h2, h5, h6, dn _ _ _⟩ (by kernel_rfl)

theorem n2 {x : List Int} {n m i : Nat} {o q : List Int} {k t v u : Int} {X : Prop} (h : OA x n m i 2 o q v u X) (h1 : ile 0 u = false) : CF n k t m i 2 (oqH x n o q) .normal (eF n k t (oS 3 m) i 3) (oqH x n o q) :=
  comes_run (S := sc (dA v u ++ [((22, 3), knowD false)]) []) (k := 60) (ts := tF) (junk := []) (h1 := oqH x n o q) (l0 := (eF n k t (oS 3 m) i 3)) (A := OA x n m i 2 o q v u ((ile 0 u = false) ∧ Dn .normal (eF n k t (oS 3 m) i 3) (oqH x n o q))) TY_ok mixed ok6 (Nat.le_of_ble_eq_true rfl) (oqH_closed x n o q) rfl ⟨h.1, h.2.1, h.2.2.1, h.2.2.2.1, h1, dn _ _ _⟩ (by kernel_rfl)
theorem s2 {x : List Int} {n m i : Nat} {o q : List Int} {k t v u : Int} {X : Prop} {e : Int} (h : OA x n m i 2 o q v u X) (h1 : ile 0 u = true) (h2 : InI u n) (h3 : RdO (oqH x n o q) 2 u e) (h4 : ilt e 0 = false) : CF n k t m i 2 (oqH x n o q) .normal (eF n k t (oS 3 m) i 3) (oqH x n o q) :=
  comes_run (S := sc (dA v u ++ [((22, 3), knowD true), ((22, 5), ixD), ((22, 6), ldC [.int .i64 e])]) [(74, false)]) (k := 60) (ts := tF) (junk := []) (h1 := oqH x n o q) (l0 := (eF n k t (oS 3 m) i 3))
    (A := OA x n m i 2 o q v u ((ile 0 u = true) ∧ InI u n ∧ RdO (oqH x n o q) 2 u e ∧ (ilt e 0 = false) ∧ Dn .normal (eF n k t (oS 3 m) i 3) (oqH x n o q))) TY_ok mixed ok6 (Nat.le_of_ble_eq_true rfl) (oqH_closed x n o q) rfl ⟨h.1, h.2.1, h.2.2.1, h.2.2.2.1, h1, h2, h3, h4, dn _ _ _⟩ (by kernel_rfl)
theorem b2 {x : List Int} {n m i : Nat} {o q : List Int} {k t v u : Int} {X : Prop} {e : Int} {o2 q2 : List Int} (h : OA x n m i 2 o q v u X) (h1 : ile 0 u = true) (h2 : InI u n) (h3 : RdO (oqH x n o q) 2 u e) (h4 : ilt e 0 = true)
    (h5 : WrO (oqH x n o q) 2 u k (oqH x n o2 q)) (h6 : ApO 3 m 4 (oqH x n o2 q ++ [uB u]) (oS 5 (m + 1)) (R6 x n o2 q2 [uB u])) : CF n k t m i 2 (oqH x n o q) .normal (eF n k t (oS 3 (m + 1)) i 3) (oqH x n o2 q2) :=
  comes_pick (S := sc (dA v u ++ [((22, 3), knowD true), ((22, 5), ixD), ((22, 6), ldC [.int .i64 e]), ((23, 3), ixD), ((23, 4), stD (oqH x n o2 q)), ((24, 3), apD (oS 5 (m + 1)) (R6 x n o2 q2 [uB u]))]) [(74, true)]) (k := 60) (ts := tF)
    (l0 := eF n k t (oS 5 (m + 1)) i 3) (h0 := (R6 x n o2 q2 [uB u]))
    (A := OA x n m i 2 o q v u ((ile 0 u = true) ∧ InI u n ∧ RdO (oqH x n o q) 2 u e ∧ (ilt e 0 = true) ∧ InI u n ∧ WrO (oqH x n o q) 2 u k (oqH x n o2 q) ∧ ApO 3 m 4 (oqH x n o2 q ++ [uB u]) (oS 5 (m + 1)) (R6 x n o2 q2 [uB u]) ∧ Dn .normal (eF n k t (oS 5 (m + 1)) i 3) (R6 x n o2 q2 [uB u])))
    TY_ok mixed ok6 (fun e he => Ref.ord (ks := [0, 1, 2, 5]) (by kernel_rfl) (pick6 x n o2 q2 (by kernel_rfl)) (by kernel_rfl) (by kernel_rfl) he) ⟨h.1, h.2.1, h.2.2.1, h.2.2.2.1, h1, h2, h3, h4, h2, h5, h6, dn _ _ _⟩ (by kernel_rfl)

theorem n3 {x : List Int} {n m i : Nat} {o q : List Int} {k t v u : Int} {X : Prop} (h : OA x n m i 3 o q v u X) (h1 : ile 0 u = false) : CF n k t m i 3 (oqH x n o q) .normal (eF n k t (oS 3 m) i 4) (oqH x n o q) :=
  comes_run (S := sc (dA v u ++ [((22, 3), knowD false)]) []) (k := 60) (ts := tF) (junk := []) (h1 := oqH x n o q) (l0 := (eF n k t (oS 3 m) i 4)) (A := OA x n m i 3 o q v u ((ile 0 u = false) ∧ Dn .normal (eF n k t (oS 3 m) i 4) (oqH x n o q))) TY_ok mixed ok6 (Nat.le_of_ble_eq_true rfl) (oqH_closed x n o q) rfl ⟨h.1, h.2.1, h.2.2.1, h.2.2.2.1, h1, dn _ _ _⟩ (by kernel_rfl)
theorem s3 {x : List Int} {n m i : Nat} {o q : List Int} {k t v u : Int} {X : Prop} {e : Int} (h : OA x n m i 3 o q v u X) (h1 : ile 0 u = true) (h2 : InI u n) (h3 : RdO (oqH x n o q) 2 u e) (h4 : ilt e 0 = false) : CF n k t m i 3 (oqH x n o q) .normal (eF n k t (oS 3 m) i 4) (oqH x n o q) :=
  comes_run (S := sc (dA v u ++ [((22, 3), knowD true), ((22, 5), ixD), ((22, 6), ldC [.int .i64 e])]) [(74, false)]) (k := 60) (ts := tF) (junk := []) (h1 := oqH x n o q) (l0 := (eF n k t (oS 3 m) i 4))
    (A := OA x n m i 3 o q v u ((ile 0 u = true) ∧ InI u n ∧ RdO (oqH x n o q) 2 u e ∧ (ilt e 0 = false) ∧ Dn .normal (eF n k t (oS 3 m) i 4) (oqH x n o q))) TY_ok mixed ok6 (Nat.le_of_ble_eq_true rfl) (oqH_closed x n o q) rfl ⟨h.1, h.2.1, h.2.2.1, h.2.2.2.1, h1, h2, h3, h4, dn _ _ _⟩ (by kernel_rfl)
theorem b3 {x : List Int} {n m i : Nat} {o q : List Int} {k t v u : Int} {X : Prop} {e : Int} {o2 q2 : List Int} (h : OA x n m i 3 o q v u X) (h1 : ile 0 u = true) (h2 : InI u n) (h3 : RdO (oqH x n o q) 2 u e) (h4 : ilt e 0 = true)
    (h5 : WrO (oqH x n o q) 2 u k (oqH x n o2 q)) (h6 : ApO 3 m 4 (oqH x n o2 q ++ [uB u]) (oS 5 (m + 1)) (R6 x n o2 q2 [uB u])) : CF n k t m i 3 (oqH x n o q) .normal (eF n k t (oS 3 (m + 1)) i 4) (oqH x n o2 q2) :=
  comes_pick (S := sc (dA v u ++ [((22, 3), knowD true), ((22, 5), ixD), ((22, 6), ldC [.int .i64 e]), ((23, 3), ixD), ((23, 4), stD (oqH x n o2 q)), ((24, 3), apD (oS 5 (m + 1)) (R6 x n o2 q2 [uB u]))]) [(74, true)]) (k := 60) (ts := tF)
    (l0 := eF n k t (oS 5 (m + 1)) i 4) (h0 := (R6 x n o2 q2 [uB u]))
    (A := OA x n m i 3 o q v u ((ile 0 u = true) ∧ InI u n ∧ RdO (oqH x n o q) 2 u e ∧ (ilt e 0 = true) ∧ InI u n ∧ WrO (oqH x n o q) 2 u k (oqH x n o2 q) ∧ ApO 3 m 4 (oqH x n o2 q ++ [uB u]) (oS 5 (m + 1)) (R6 x n o2 q2 [uB u]) ∧ Dn .normal (eF n k t (oS 5 (m + 1)) i 4) (R6 x n o2 q2 [uB u])))
    TY_ok mixed ok6 (fun e he => Ref.ord (ks := [0, 1, 2, 5]) (by kernel_rfl) (pick6 x n o2 q2 (by kernel_rfl)) (by kernel_rfl) (by kernel_rfl) he) ⟨h.1, h.2.1, h.2.2.1, h.2.2.2.1, h1, h2, h3, h4, h2, h5, h6, dn _ _ _⟩ (by kernel_rfl)

theorem fEnd {x : List Int} {n m i : Nat} {o q : List Int} {k t : Int} : CF n k t m i 4 (oqH x n o q) (.exit 6) (eG n k t (oS 3 m) i) (oqH x n o q) :=
  comes_run (S := sc [] []) (k := 60) (ts := tG) (junk := []) (h1 := oqH x n o q) (l0 := eG n k t (oS 3 m) i) (A := Dn (.exit 6) (eG n k t (oS 3 m) i) (oqH x n o q)) TY_ok mixed ok6 (Nat.le_of_ble_eq_true rfl) (oqH_closed x n o q) rfl (dn _ _ _) (by kernel_rfl)
end PX
end Go.Ab

namespace Go.Ab
open Go.Proofs
open PT (Rd4 RdN WrN neg neg_length neg_succ neg_zero neg_all keepsP lpD)

namespace PX
section
variable {x : List Int} {n i t0 : Nat} {o0 : List Int} {k t : Int} {P : Nat → Int → Prop} {s : List Int × List Int}

theorem face (hx : x.length = 20 * n) (hc : chk n x = 0) (hn : n ≤ 1000) {f : Nat} (h : BI (mP k) x n P o0 t0 i f s) (hi : i < s.2.length) (hf : f < 4) :
    CF n k t s.2.length i f (oqH x n s.1 s.2) .normal (eF n k t (oS 3 (gf (mP k) (cel s.1 (cel s.2 i).toNat) s (fc x (cel s.2 i).toNat f)).2.length) i ((f + 1 : Nat) : Int))
      (oqH x n (gf (mP k) (cel s.1 (cel s.2 i).toNat) s (fc x (cel s.2 i).toNat f)).1 (gf (mP k) (cel s.1 (cel s.2 i).toNat) s (fc x (cel s.2 i).toNat f)).2) := by
  obtain ⟨q0, q1, q2, q3, q4⟩ := h.qin i hi
  have hlen := h.len
  have hsh := h.short
  have hv : (cel s.2 i).toNat < n := by omega
  have hA : OA x n s.2.length i f s.1 s.2 (cel s.2 i) (fc x (cel s.2 i).toNat f).u True := ⟨⟨by omega, by omega⟩, rd_int (w := true) rfl hi, ⟨q0, q1⟩, by
    have := rd_cell (h := oqH x n s.1 s.2) (b := 0) (x := x) (o := 20 * (cel s.2 i).toNat + 5 * f) (w := false) rfl (by omega)
    unfold RdF
    rw [show 0 + (cel s.2 i).toNat * 20 + f * 5 + 0 = 20 * (cel s.2 i).toNat + 5 * f by omega]
    exact this, trivial⟩
  generalize hvv : (cel s.2 i).toNat = v at *
  have hb := fun h0 => (face_back hc hv hf h0).1
  have hf4 : f = 0 ∨ f = 1 ∨ f = 2 ∨ f = 3 := by omega
  cases h1 : ile 0 (fc x v f).u with
  | false =>
    have e : gf (mP k) (cel s.1 v) s (fc x v f) = s := by unfold gf; rw [if_neg (by rw [h1]; simp)]
    rw [e]
    rcases hf4 with rfl | rfl | rfl | rfl
    · exact n0 hA h1
    · exact n1 hA h1
    · exact n2 hA h1
    · exact n3 hA h1
  | true =>
    have h0 : 0 ≤ (fc x v f).u := by rw [ile_eq] at h1; simpa using h1
    have hlt := hb h0
    have hin : InI (fc x v f).u n := ⟨h0, hlt⟩
    have hul : (fc x v f).u.toNat < s.1.length := by omega
    have hrd : RdO (oqH x n s.1 s.2) 2 (fc x v f).u (cel s.1 (fc x v f).u.toNat) := rd_int (w := true) rfl hul
    cases h3 : ilt (cel s.1 (fc x v f).u.toNat) 0 with
    | false =>
      have e : gf (mP k) (cel s.1 v) s (fc x v f) = s := by unfold gf; rw [if_neg (by intro hh; have := hh.2; simp only [mP] at this; rw [h3] at this; cases this)]
      rw [e]
      rcases hf4 with rfl | rfl | rfl | rfl
      · exact s0 hA h1 hin hrd h3
      · exact s1 hA h1 hin hrd h3
      · exact s2 hA h1 hin hrd h3
      · exact s3 hA h1 hin hrd h3
    | true =>
      have e : gf (mP k) (cel s.1 v) s (fc x v f) = (s.1.set (fc x v f).u.toNat k, s.2 ++ [(fc x v f).u]) := by unfold gf; rw [if_pos ⟨h1, h3⟩]; rfl
      rw [e]
      simp only [List.length_append, List.length_cons, List.length_nil, Nat.zero_add]
      have hwr : WrO (oqH x n s.1 s.2) 2 (fc x v f).u k (oqH x n (s.1.set (fc x v f).u.toNat k) s.2) := wr_int (b := 2) rfl hul
      have hap : ApO 3 s.2.length 4 (oqH x n (s.1.set (fc x v f).u.toNat k) s.2 ++ [uB (fc x v f).u]) (oS 5 (s.2.length + 1)) (R6 x n (s.1.set (fc x v f).u.toNat k) (s.2 ++ [(fc x v f).u]) [uB (fc x v f).u]) :=
        app_own36 (b := 3) (c := 4) (w := true) rfl (Nat.le_of_ble_eq_true rfl) rfl rfl (by omega)
      rcases hf4 with rfl | rfl | rfl | rfl
      · exact b0 hA h1 hin hrd h3 hwr hap
      · exact b1 hA h1 hin hrd h3 hwr hap
      · exact b2 hA h1 hin hrd h3 hwr hap
      · exact b3 hA h1 hin hrd h3 hwr hap

abbrev LFm (x : List Int) (n : Nat) (k t : Int) (i m m' : Nat) (o q o' q' : List Int) : Prop := (obs Tryz.prog TY none ([], true) 86).loop 1 (fb Tryz.f51 6) (eF n k t (oS 3 m) i 0) (oqH x n o q) .normal (eG n k t (oS 3 m') i) (oqH x n o' q')
theorem loopF (K : Keeps (mP k) x n P) (hx : x.length = 20 * n) (hc : chk n x = 0) (hn : n ≤ 1000) (h : BI (mP k) x n P o0 t0 i 0 s) (hi : i < s.2.length) :
    LFm x n k t i s.2.length (gt (mP k) x s (cel s.2 i).toNat 4).2.length s.1 s.2 (gt (mP k) x s (cel s.2 i).toNat 4).1 (gt (mP k) x s (cel s.2 i).toNat 4).2 := by
  have hfb : fb Tryz.f51 6 = .block 6 (.loop (lb Tryz.f51 6)) := by kernel_rfl
  refine comes_loop hfb rfl (fun f : Nat => eF n k t (oS 3 (gt (mP k) x s (cel s.2 i).toNat f).2.length) i f) (fun f => oqH x n (gt (mP k) x s (cel s.2 i).toNat f).1 (gt (mP k) x s (cel s.2 i).toNat f).2) (fun f => f ≤ 4) (fun f => 4 - f) 0 (by omega) rfl rfl ?_
  intro f hf
  by_cases h4 : f < 4
  · obtain ⟨b1, b2, b3⟩ := h.tet K hi f (by omega)
    have := face (t := t) hx hc hn b1 (by omega) h4
    rw [b2] at this
    exact .inl ⟨f + 1, by omega, by omega, this⟩
  · have : f = 4 := by omega
    subst this
    exact .inr (.inl ⟨rfl, fEnd⟩)

def eGw (n : Nat) (k t : Int) (s : Value) (i : Nat) : List (Nat × Value) := [(1, pt 1), (4, oS 2 n), (6, it k), (7, it t), (8, s), (9, it (IntKind.i64.wrap ((i : Int) + 1)))]
def eT (n : Nat) (k t : Int) : List (Nat × Value) := [(1, pt 1), (4, oS 2 n), (6, it k), (7, it t)]
def tT : List Nat := [1, 4, 6, 7]
abbrev CQ (n : Nat) (k t : Int) (m i : Nat) (h : Heap) (ax : AX) (l : List (Nat × Value)) (h' : Heap) : Prop := Comes none ([], true) Tryz.prog 86 1 (lb Tryz.f51 4) (eG n k t (oS 3 m) i) h ax l h'
theorem qStep {m m' : Nat} {o q o' q' : List Int} (h1 : ilt (i : Int) m = true) (h6 : LFm x n k t i m m' o q o' q') :
    CQ n k t m i (oqH x n o q) .normal (eGw n k t (oS 3 m') i) (oqH x n o' q') :=
  comes_run (S := { dir := dd [], know := kk [(48, true)], loop := loops [(6, lpD tF (eG n k t (oS 3 m') i) (oqH x n o' q'))] }) (k := 60) (ts := tG) (junk := []) (h1 := oqH x n o' q') (l0 := eGw n k t (oS 3 m') i)
    (A := (ilt (i : Int) m = true) ∧ LFm x n k t i m m' o q o' q' ∧ Dn .normal (eGw n k t (oS 3 m') i) (oqH x n o' q')) TY_ok mixed ok4 (Nat.le_of_ble_eq_true rfl) (oqH_closed x n o' q') rfl ⟨h1, h6, dn _ _ _⟩ (by kernel_rfl)
theorem qEnd {m : Nat} {o q : List Int} (h1 : ilt (i : Int) m = false) : CQ n k t m i (oqH x n o q) (.exit 4) (eT n k t) (oqH x n o q) :=
  comes_run (S := { dir := dd [], know := kk [(48, false)], loop := noloop }) (k := 60) (ts := tT) (junk := []) (h1 := oqH x n o q) (l0 := eT n k t) (A := (ilt (i : Int) m = false) ∧ Dn (.exit 4) (eT n k t) (oqH x n o q)) TY_ok mixed ok4 (Nat.le_of_ble_eq_true rfl) (oqH_closed x n o q) rfl ⟨h1, dn _ _ _⟩ (by kernel_rfl)

abbrev LQ (x : List Int) (n : Nat) (k t : Int) (o q o' q' : List Int) (m : Nat) : Prop := (obs Tryz.prog TY none ([], true) 86).loop 1 (fb Tryz.f51 4) (eG n k t (oS 3 m) 0) (oqH x n o q) .normal (eT n k t) (oqH x n o' q')
theorem loopQ (K : Keeps (mP k) x n P) (hx : x.length = 20 * n) (hc : chk n x = 0) (hn : n ≤ 1000) (h : BI (mP k) x n P o0 t0 0 0 s) : LQ x n k t s.1 s.2 (gq (mP k) x s n).1 (gq (mP k) x s n).2 s.2.length := by
  have hfb : fb Tryz.f51 4 = .block 4 (.loop (lb Tryz.f51 4)) := by kernel_rfl
  refine comes_loop hfb rfl (fun i => eG n k t (oS 3 (gq (mP k) x s i).2.length) i) (fun i => oqH x n (gq (mP k) x s i).1 (gq (mP k) x s i).2) (fun i => BI (mP k) x n P o0 t0 i 0 (gq (mP k) x s i)) (fun i => n - i) 0 h rfl rfl ?_
  intro i hb
  have hle := hb.le
  have hsh := hb.short
  by_cases hi : i < (gq (mP k) x s i).2.length
  · obtain ⟨b1, b2, b3⟩ := hb.tet K hi 4 (by omega)
    have e : gq (mP k) x s (i + 1) = gt (mP k) x (gq (mP k) x s i) (cel (gq (mP k) x s i).2 i).toNat 4 := by simp only [gq]; rw [if_pos hi]
    have hl := loopF (t := t) K hx hc hn hb hi
    have := qStep (by rw [ilt_eq]; simp; omega) hl
    rw [← e] at this
    unfold eGw at this
    rw [wrap_succ (by omega)] at this
    refine .inl ⟨i + 1, ?_, by omega, this⟩
    show BI (mP k) x n P o0 t0 (i + 1) 0 (gq (mP k) x s (i + 1))
    rw [e]
    exact b1.next (by omega)
  · have e := gq_end (n := n) (Nat.le_of_not_lt hi) (by omega)
    rw [e]
    exact .inr (.inl ⟨rfl, qEnd (by rw [ilt_eq]; simp; omega)⟩)

abbrev CT (n : Nat) (k t : Int) (h : Heap) (ax : AX) (l : List (Nat × Value)) (h' : Heap) : Prop := Comes none ([], true) Tryz.prog 86 1 (lb Tryz.f51 2) (eT n k t) h ax l h'
theorem tSkip {tt : Nat} {o : List Int} {v : Int} (h1 : ilt (tt : Int) n = true) (h2 : InN tt n) (h3 : RdN (oH x n o) 2 tt v) (h4 : ile 0 v = true) : CT n k tt (oH x n o) .normal (eT n k (IntKind.i64.wrap ((tt : Int) + 1))) (oH x n o) :=
  comes_run (S := { dir := dd [((12, 2), ixD), ((12, 3), ldC [.int .i64 v])], know := kk [(31, true), (38, true)], loop := noloop }) (k := 60) (ts := tT) (junk := []) (h1 := oH x n o) (l0 := eT n k (IntKind.i64.wrap ((tt : Int) + 1)))
    (A := (ilt (tt : Int) n = true) ∧ InN tt n ∧ RdN (oH x n o) 2 tt v ∧ (ile 0 v = true) ∧ Dn .normal (eT n k (IntKind.i64.wrap ((tt : Int) + 1))) (oH x n o)) TY_ok mixed ok2 (Nat.le_of_ble_eq_true rfl) (oH_closed x n o) rfl ⟨h1, h2, h3, h4, dn _ _ _⟩ (by kernel_rfl)
theorem tRun {tt : Nat} {o o2 o' q' : List Int} {v : Int} (h1 : ilt (tt : Int) n = true) (h2 : InN tt n) (h3 : RdN (oH x n o) 2 tt v) (h4 : ile 0 v = false) (h5 : WrN (oqH x n o [(tt : Int)]) 2 tt k (oqH x n o2 [(tt : Int)])) (h6 : LQ x n k tt o2 [(tt : Int)] o' q' 1) :
    CT n k tt (oH x n o) .normal (eT n (IntKind.i64.wrap (k + 1)) (IntKind.i64.wrap ((tt : Int) + 1))) (oH x n o') :=
  comes_run (S := { dir := dd [((12, 2), ixD), ((12, 3), ldC [.int .i64 v]), ((14, 3), ixD), ((14, 4), stD (oqH x n o2 [(tt : Int)]))], know := kk [(31, true), (38, false)], loop := loops [(4, lpD tG (eT n k tt) (oqH x n o' q'))] }) (k := 60) (ts := tT) (junk := [some ⟨ints q', true⟩]) (h1 := oH x n o') (l0 := eT n (IntKind.i64.wrap (k + 1)) (IntKind.i64.wrap ((tt : Int) + 1)))
    (A := (ilt (tt : Int) n = true) ∧ InN tt n ∧ RdN (oH x n o) 2 tt v ∧ (ile 0 v = false) ∧ InN tt n ∧ WrN (oqH x n o [(tt : Int)]) 2 tt k (oqH x n o2 [(tt : Int)]) ∧ LQ x n k tt o2 [(tt : Int)] o' q' 1 ∧ Dn .normal (eT n (IntKind.i64.wrap (k + 1)) (IntKind.i64.wrap ((tt : Int) + 1))) (oqH x n o' q')) TY_ok mixed ok2 (Nat.le_of_ble_eq_true rfl) (oH_closed x n o') rfl ⟨h1, h2, h3, h4, h2, h5, h6, dn _ _ _⟩ (by kernel_rfl)
def eZ (n : Nat) : List (Nat × Value) := [(1, pt 1), (4, oS 2 n)]
theorem tEnd {tt : Nat} {o : List Int} (h1 : ilt (tt : Int) n = false) : CT n k tt (oH x n o) (.exit 2) (eZ n) (oH x n o) :=
  comes_run (S := { dir := dd [], know := kk [(31, false)], loop := noloop }) (k := 60) (ts := [1, 4]) (junk := []) (h1 := oH x n o) (l0 := eZ n) (A := (ilt (tt : Int) n = false) ∧ Dn (.exit 2) (eZ n) (oH x n o)) TY_ok mixed ok2 (Nat.le_of_ble_eq_true rfl) (oH_closed x n o) rfl ⟨h1, dn _ _ _⟩ (by kernel_rfl)
end
abbrev LT (x : List Int) (n : Nat) (o o' : List Int) : Prop := (obs Tryz.prog TY none ([], true) 86).loop 1 (fb Tryz.f51 2) (eT n 0 0) (oH x n o) .normal (eZ n) (oH x n o')
theorem loopT {x : List Int} {n : Nat} (hx : x.length = 20 * n) (hc : chk n x = 0) (hn : n ≤ 1000) : LT x n (List.replicate n (-1)) (partsL x n) := by
  have hfb : fb Tryz.f51 2 = .block 2 (.loop (lb Tryz.f51 2)) := by kernel_rfl
  refine comes_loop hfb rfl (fun t : Nat => eT n (pst x n t).2 t) (fun t => oH x n (pst x n t).1) (fun t => t ≤ n ∧ (pst x n t).2 ≤ t) (fun t => n - t) 0 ⟨by omega, by simp [pst]⟩ rfl rfl ?_
  intro t ⟨ht, hk⟩
  by_cases h4 : t < n
  · have hp := parts_spec hc t ht
    have hlen := hp.len
    have a1 : ilt (t : Int) n = true := by rw [ilt_eq]; simp; omega
    have a2 : InN t n := ⟨by omega, by omega⟩
    have a3 : RdN (oH x n (pst x n t).1) 2 t (cel (pst x n t).1 t) := rd_int (w := true) rfl (by omega)
    cases hb : ilt (cel (pst x n t).1 t) 0 with
    | false =>
      have e : pst x n (t + 1) = pst x n t := by simp only [pst]; rw [if_neg (by rw [hb]; simp)]
      have h := tSkip (k := (pst x n t).2) a1 a2 a3 (by rw [ile_eq]; have := ilt_nonneg.1 hb; simpa using this)
      rw [wrap_succ (by omega)] at h
      rw [← e] at h
      exact .inl ⟨t + 1, ⟨by omega, by rw [e]; omega⟩, by omega, by rw [e] at h ⊢; exact h⟩
    | true =>
      have e : pst x n (t + 1) = (srch (mP (pst x n t).2) x n (pst x n t).1 t (pst x n t).2, (pst x n t).2 + 1) := by
        conv => lhs; simp only [pst]
        rw [if_pos hb]
      have K := keepsP hc (pst x n t).2 t
      have hst := BI.start (x := x) (M := mP (pst x n t).2) (P := fun v c => c = (pst x n t).2 ∧ Reach (Adj x n) t v) hlen (c := (pst x n t).2) h4 hb (show ilt ((pst x n t).2 : Int) 0 = false from ilt_nonneg.2 (by omega)) ⟨rfl, .refl _⟩
      have hl := loopQ (t := t) K hx hc hn hst
      have a5 : WrN (oqH x n (pst x n t).1 [(t : Int)]) 2 t (pst x n t).2 (oqH x n ((pst x n t).1.set t (pst x n t).2) [(t : Int)]) := wr_int (b := 2) rfl (by omega)
      have h := tRun (k := (pst x n t).2) a1 a2 a3 (by rw [ile_eq]; have := ilt_neg.1 hb; simpa using this) a5 hl
      rw [wrap_succ (by omega), wrap_succ (by omega)] at h
      refine .inl ⟨t + 1, ⟨by omega, by rw [e]; simp only; omega⟩, by omega, ?_⟩
      rw [e]
      exact h
  · have : t = n := by omega
    subst this
    exact .inr (.inl ⟨rfl, tEnd (by rw [ilt_eq]; simp)⟩)


def eI (n : Nat) (i : Int) : List (Nat × Value) := [(1, pt 1), (4, oS 2 n), (5, it i)]
def eJ (n : Nat) : List (Nat × Value) := [(1, pt 1), (4, oS 2 n)]
abbrev CI (n i : Nat) (h : Heap) (ax : AX) (l : List (Nat × Value)) (h' : Heap) : Prop := Comes none ([], true) Tryz.prog 86 1 (lb Tryz.f51 0) (eI n i) h ax l h'
theorem iStep {x : List Int} {n i : Nat} {o o2 : List Int} (h1 : ilt (i : Int) n = true) (h2 : InN i n) (h3 : WrN (oH x n o) 2 i (-1) (oH x n o2)) : CI n i (oH x n o) .normal (eI n (IntKind.i64.wrap ((i : Int) + 1))) (oH x n o2) :=
  comes_run (S := { dir := dd [((7, 2), ixD), ((7, 3), stD (oH x n o2))], know := kk [(22, true)], loop := noloop }) (k := 60) (ts := [1, 4, 5]) (junk := []) (h1 := oH x n o2) (l0 := eI n (IntKind.i64.wrap ((i : Int) + 1)))
    (A := (ilt (i : Int) n = true) ∧ InN i n ∧ WrN (oH x n o) 2 i (-1) (oH x n o2) ∧ Dn .normal (eI n (IntKind.i64.wrap ((i : Int) + 1))) (oH x n o2)) TY_ok mixed ok0 (Nat.le_of_ble_eq_true rfl) (oH_closed x n o2) rfl ⟨h1, h2, h3, dn _ _ _⟩ (by kernel_rfl)
theorem iEnd {x : List Int} {n i : Nat} {o : List Int} (h1 : ilt (i : Int) n = false) : CI n i (oH x n o) (.exit 0) (eJ n) (oH x n o) :=
  comes_run (S := { dir := dd [], know := kk [(22, false)], loop := noloop }) (k := 60) (ts := [1, 4]) (junk := []) (h1 := oH x n o) (l0 := eJ n) (A := (ilt (i : Int) n = false) ∧ Dn (.exit 0) (eJ n) (oH x n o)) TY_ok mixed ok0 (Nat.le_of_ble_eq_true rfl) (oH_closed x n o) rfl ⟨h1, dn _ _ _⟩ (by kernel_rfl)
abbrev LI (x : List Int) (n : Nat) : Prop := (obs Tryz.prog TY none ([], true) 86).loop 1 (fb Tryz.f51 0) (eI n 0) (oH x n (inl n fun _ => 0)) .normal (eJ n) (oH x n (List.replicate n (-1)))
theorem loopI {x : List Int} {n : Nat} (hn : n ≤ 1000) : LI x n := by
  have hfb : fb Tryz.f51 0 = .block 0 (.loop (lb Tryz.f51 0)) := by kernel_rfl
  refine comes_loop hfb rfl (fun i : Nat => eI n i) (fun i => oH x n (neg n i)) (fun i => i ≤ n) (fun i => n - i) 0 (by omega) rfl (by simp only [neg_zero]) ?_
  intro i hi
  by_cases h4 : i < n
  · have h := iStep (x := x) (o := neg n i) (o2 := neg n (i + 1)) (by rw [ilt_eq]; simp; omega) ⟨by omega, by omega⟩ (by have := wr_int (h := oH x n (neg n i)) (b := 2) (v := i) (k := -1) rfl (by rw [neg_length hi]; exact h4); rw [neg_succ h4] at this; exact this)
    rw [wrap_succ (by omega)] at h
    exact .inl ⟨i + 1, by omega, by omega, h⟩
  · have : i = n := by omega
    subst this
    rw [← neg_all]
    exact .inr (.inl ⟨rfl, iEnd (by rw [ilt_eq]; simp)⟩)

abbrev Gk (x : List Int) (n : Nat) (k : Int) : Prop := Gives Tryz.prog 10 [gV 0 n] (PT.bH x n) (.ret (.int .i64 k)) (PT.bH x n) ∧ ∃ y, PT.bH x n = PT.bH x n ++ y
end PX

theorem rparts_bad {x : List Int} {n : Nat} (hx : x.length = 20 * n) (hc : chk n x = 7) : Sum Tryz.prog 51 [gV 0 n] [some ⟨ints x, false⟩] fun out _ => out = .ret (PV.pRes (.slice none 0 0) 7) := by
  have g1 : PX.Gk x n 7 := gives_one (hc ▸ rcheck_sum hx) rfl (w := false) rfl
  exact tFun_sum (S := { dir := dd [((1, 1), ansD (.int .i64 7) id)], know := kk [], loop := noloop }) (k := 60) TY_ok mixed fn51_ok
    (A := PX.Gk x n 7 ∧ AOut.ret (PV.pRes (.slice none 0 0) 7) = .ret (PV.pRes (.slice none 0 0) 7)) ⟨g1, rfl⟩ (by kernel_rfl)
theorem rparts_ok {x : List Int} {n : Nat} (hn : n ≤ 1000) (hx : x.length = 20 * n) (hc : chk n x = 0) :
    Sum Tryz.prog 51 [gV 0 n] [some ⟨ints x, false⟩] fun out h2 => out = .ret (PV.pRes (oS 1 n) 0) ∧ h2 = [some ⟨ints x, false⟩] ++ [some ⟨ints (partsL x n), true⟩] := by
  have g1 : PX.Gk x n 0 := gives_one (hc ▸ rcheck_sum hx) rfl (w := false) rfl
  have hs : Sum Tryz.prog 51 [gV 0 n] [some ⟨ints x, false⟩] fun out h2 => out = .ret (PV.pRes (oS 2 n) 0) ∧ h2 = oH x n (partsL x n) :=
    tFun_sum (S := { dir := dd [((1, 1), ansD (.int .i64 0) id), ((3, 3), (none, .op fun _ _ => (oS 2 n, oH x n (inl n fun _ => 0))))], know := kk [], loop := loops [(0, lpD [1, 4, 5] (PX.eJ n) (oH x n (List.replicate n (-1)))), (2, lpD PX.tT (PX.eZ n) (oH x n (partsL x n)))] }) (k := 60) TY_ok mixed fn51_ok
      (A := PX.Gk x n 0 ∧ PT.MkO x n ∧ PX.LI x n ∧ PX.LT x n (List.replicate n (-1)) (partsL x n) ∧ AOut.ret (PV.pRes (oS 2 n) 0) = .ret (PV.pRes (oS 2 n) 0) ∧ oH x n (partsL x n) = oH x n (partsL x n))
      ⟨g1, mk36 hn, PX.loopI hn, PX.loopT hx hc hn, rfl, rfl⟩ (by kernel_rfl)
  exact Sum.pick (ks := [0, 2]) hs (by kernel_rfl) ⟨⟨_, rfl, subL_plain _ _ (ints_plain x), id⟩, ⟨_, rfl, subL_plain _ _ (ints_plain _), id⟩, trivial⟩ (by kernel_rfl) ⟨_, rfl, _, _, rfl, sub_oS rfl, _, _, rfl, rfl, rfl⟩
end Go.Ab
