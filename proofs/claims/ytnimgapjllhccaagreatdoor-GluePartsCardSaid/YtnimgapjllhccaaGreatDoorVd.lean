/- Compose, Inverse and Sign answer as plain functions. Conditions: none beyond the given model and program. -/
import Derived.Test.YtnimgapjllhccaaGreatDoorVa
import Derived.Test.YtnimgapjllhccaaGreatDoorVc
namespace Go.Ab
open Go.Proofs

theorem XX_ok (fuel : Nat) : (XX fuel).ok Tryz.prog := ⟨TY_ok, mixed, FN_ok, fun _ _ _ _ _ h => (by cases h), fun _ _ _ _ _ _ _ h => (by cases h)⟩
theorem valid5 (p : Pm) : Plain Tryz.prog 37 [pmv p] (.bool p.valid) := fun h => sum_of_run (XX_ok 100) (okG p.a p.b p.c p.d) (by simp [pmv, pm_plain]) rfl h
theorem valid6 (p : Pm) : Plain Tryz.prog 38 [pmv p] (.bool p.valid) := fun h => sum_of_run (XX_ok 100) (okR p.a p.b p.c p.d) (by simp [pmv, pm_plain]) rfl h
theorem v5 {p : Pm} {b : Bool} (h : p.valid = b) : Plain Tryz.prog 37 [pmv p] (.bool b) := h ▸ valid5 p
theorem v6 {p : Pm} {b : Bool} (h : p.valid = b) : Plain Tryz.prog 38 [pmv p] (.bool b) := h ▸ valid6 p

def Rt (v : Value) : Prop := AOut.ret v = .ret v
theorem rt (v : Value) : Rt v := rfl
theorem pl1 (p : Pm) : ∀ x ∈ [pmv p], plain x = true := by simp [pmv_plain]
theorem pl2 (p q : Pm) : ∀ x ∈ [pmv p, pmv q], plain x = true := by simp [pmv_plain]
def A0 : Sc := sc autod nofork
theorem k23 (p : Pm) : l24.map (fun q => Rt (pmv (composeP p q))) = l24.map (fun q => sFun Tryz.prog TY A0 60 Tryz.f46 [pmv p, pmv q] [] fun o _ => o = .ret (pmv (composeP p q))) := by kernel_rfl
theorem compose23 (p : Pm) {q : Pm} (hq : q.valid = true) : Plain Tryz.prog 46 [pmv p, pmv q] (pmv (composeP p q)) :=
  Plain.of_fun (S := A0) (k := 60) TY_ok mixed fn46_ok (pl2 p q) rfl (A := Rt (pmv (composeP p q))) (rt _) (at24 (k23 p) hq)
theorem k24  : l24.map (fun q => Rt (pmv (inverseP q))) = l24.map (fun q => sFun Tryz.prog TY A0 80 Tryz.f42 [pmv q] [] fun o _ => o = .ret (pmv (inverseP q))) := by kernel_rfl
theorem inverse24 {q : Pm} (hq : q.valid = true) : Plain Tryz.prog 42 [pmv q] (pmv (inverseP q)) :=
  Plain.of_fun (S := A0) (k := 80) TY_ok mixed fn42_ok (pl1 q) rfl (A := Rt (pmv (inverseP q))) (rt _) (at24 k24 hq)
theorem k25  : l24.map (fun q => Rt (.int .i64 (signP q))) = l24.map (fun q => sFun Tryz.prog TY A0 120 Tryz.f40 [pmv q] [] fun o _ => o = .ret (.int .i64 (signP q))) := by kernel_rfl
theorem sign25 {q : Pm} (hq : q.valid = true) : Plain Tryz.prog 40 [pmv q] (.int .i64 (signP q)) :=
  Plain.of_fun (S := A0) (k := 120) TY_ok mixed fn40_ok (pl1 q) rfl (A := Rt (.int .i64 (signP q))) (rt _) (at24 k25 hq)

def S7 (b1 b2 : Bool) (v : Value) : Sc := sc (at2 1 1 (plB b1) (at2 1 5 (plB b2) (at2 3 2 (.pl fun _ _ => v) autod))) nofork
theorem c7_1 {p : Pm} (q : Pm) (hp : p.valid = false) : Plain Tryz.prog 35 [pmv p, pmv q] (pmv .zero) :=
  Plain.of_fun (S := S7 false false (pmv .zero)) (k := 40) TY_ok mixed fn35_ok (pl2 p q) rfl (A := Plain Tryz.prog 37 [pmv p] (.bool false) ∧ Rt (pmv .zero)) (⟨v5 hp, rt _⟩) (by kernel_rfl)
theorem c7_2 {p q : Pm} (hp : p.valid = true) (hq : q.valid = false) : Plain Tryz.prog 35 [pmv p, pmv q] (pmv .zero) :=
  Plain.of_fun (S := S7 true false (pmv .zero)) (k := 40) TY_ok mixed fn35_ok (pl2 p q) rfl (A := Plain Tryz.prog 37 [pmv p] (.bool true) ∧ Plain Tryz.prog 37 [pmv q] (.bool false) ∧ Rt (pmv .zero)) (⟨v5 hp, v5 hq, rt _⟩) (by kernel_rfl)
theorem c7_3 {p q : Pm} (hp : p.valid = true) (hq : q.valid = true) : Plain Tryz.prog 35 [pmv p, pmv q] (pmv (composeP p q)) :=
  Plain.of_fun (S := S7 true true (pmv (composeP p q))) (k := 40) TY_ok mixed fn35_ok (pl2 p q) rfl (A := Plain Tryz.prog 37 [pmv p] (.bool true) ∧ Plain Tryz.prog 37 [pmv q] (.bool true) ∧ Plain Tryz.prog 46 [pmv p, pmv q] (pmv (composeP p q)) ∧ Rt (pmv (composeP p q))) (⟨v5 hp, v5 hq, compose23 p hq, rt _⟩) (by kernel_rfl)

def S8 (b1 b2 : Bool) : Sc := sc (at2 2 1 (plB b1) (at2 2 5 (plB b2) autod)) nofork
theorem c8_1 {p : Pm} (q : Pm) (hp : p.valid = false) : Plain Tryz.prog 27 [pmv p, pmv q] (pmv .zero) :=
  Plain.of_fun (S := S8 false false) (k := 100) TY_ok mixed fn27_ok (pl2 p q) rfl (A := Plain Tryz.prog 38 [pmv p] (.bool false) ∧ Rt (pmv .zero)) (⟨v6 hp, rt _⟩) (by kernel_rfl)
theorem c8_2 {p q : Pm} (hp : p.valid = true) (hq : q.valid = false) : Plain Tryz.prog 27 [pmv p, pmv q] (pmv .zero) :=
  Plain.of_fun (S := S8 true false) (k := 100) TY_ok mixed fn27_ok (pl2 p q) rfl (A := Plain Tryz.prog 38 [pmv p] (.bool true) ∧ Plain Tryz.prog 38 [pmv q] (.bool false) ∧ Rt (pmv .zero)) (⟨v6 hp, v6 hq, rt _⟩) (by kernel_rfl)
theorem k8 (p : Pm) : l24.map (fun q => Plain Tryz.prog 38 [pmv p] (.bool true) ∧ Plain Tryz.prog 38 [pmv q] (.bool true) ∧ Rt (pmv (composeP p q))) = l24.map (fun q => sFun Tryz.prog TY (S8 true true) 100 Tryz.f27 [pmv p, pmv q] [] fun o _ => o = .ret (pmv (composeP p q))) := by kernel_rfl
theorem c8_3 {p q : Pm} (hp : p.valid = true) (hq : q.valid = true) : Plain Tryz.prog 27 [pmv p, pmv q] (pmv (composeP p q)) :=
  Plain.of_fun (S := S8 true true) (k := 100) TY_ok mixed fn27_ok (pl2 p q) rfl (A := Plain Tryz.prog 38 [pmv p] (.bool true) ∧ Plain Tryz.prog 38 [pmv q] (.bool true) ∧ Rt (pmv (composeP p q))) ⟨v6 hp, v6 hq, rt _⟩ (at24 (k8 p) hq)
theorem cmp_of {f : FuncId} (h1 : ∀ {p : Pm} (q : Pm), p.valid = false → Plain Tryz.prog f [pmv p, pmv q] (pmv .zero)) (h2 : ∀ {p q : Pm}, p.valid = true → q.valid = false → Plain Tryz.prog f [pmv p, pmv q] (pmv .zero))
    (h3 : ∀ {p q : Pm}, p.valid = true → q.valid = true → Plain Tryz.prog f [pmv p, pmv q] (pmv (composeP p q))) (p q : Pm) : Plain Tryz.prog f [pmv p, pmv q] (pmv (cmpV p q)) := by
  unfold cmpV
  cases hp : p.valid with
  | false => simpa using h1 q hp
  | true =>
    cases hq : q.valid with
    | false => simpa using h2 hp hq
    | true => simpa using h3 hp hq
theorem compose7 (p q : Pm) : Plain Tryz.prog 35 [pmv p, pmv q] (pmv (cmpV p q)) := cmp_of c7_1 c7_2 c7_3 p q
theorem compose8 (p q : Pm) : Plain Tryz.prog 27 [pmv p, pmv q] (pmv (cmpV p q)) := cmp_of c8_1 c8_2 c8_3 p q

def S9 (b : Bool) (v : Value) : Sc := sc (at2 1 1 (plB b) (at2 3 1 (.pl fun _ _ => v) autod)) nofork
theorem c11_1 {p : Pm} (hp : p.valid = false) : Plain Tryz.prog 36 [pmv p] (.int .i64 0) :=
  Plain.of_fun (S := S9 false (.int .i64 0)) (k := 40) TY_ok mixed fn36_ok (pl1 p) rfl (A := Plain Tryz.prog 37 [pmv p] (.bool false) ∧ Rt (.int .i64 0)) (⟨v5 hp, rt _⟩) (by kernel_rfl)
theorem c11_2 {p : Pm} (hp : p.valid = true) : Plain Tryz.prog 36 [pmv p] (.int .i64 (signP p)) :=
  Plain.of_fun (S := S9 true (.int .i64 (signP p))) (k := 40) TY_ok mixed fn36_ok (pl1 p) rfl (A := Plain Tryz.prog 37 [pmv p] (.bool true) ∧ Plain Tryz.prog 40 [pmv p] (.int .i64 (signP p)) ∧ Rt (.int .i64 (signP p))) (⟨v5 hp, sign25 hp, rt _⟩) (by kernel_rfl)
def S10 (b : Bool) : Sc := sc (at2 2 1 (plB b) autod) nofork
def S12 (b : Bool) : Sc := sc (at2 1 1 (plB b) autod) nofork
theorem c10_1 {p : Pm} (hp : p.valid = false) : Plain Tryz.prog 28 [pmv p] (pmv .zero) :=
  Plain.of_fun (S := S10 false) (k := 100) TY_ok mixed fn28_ok (pl1 p) rfl (A := Plain Tryz.prog 38 [pmv p] (.bool false) ∧ Rt (pmv .zero)) (⟨v6 hp, rt _⟩) (by kernel_rfl)
theorem c12_1 {p : Pm} (hp : p.valid = false) : Plain Tryz.prog 50 [pmv p] (.int .i64 0) :=
  Plain.of_fun (S := S12 false) (k := 100) TY_ok mixed fn50_ok (pl1 p) rfl (A := Plain Tryz.prog 38 [pmv p] (.bool false) ∧ Rt (.int .i64 0)) (⟨v6 hp, rt _⟩) (by kernel_rfl)
theorem k10  : l24.map (fun q => Plain Tryz.prog 38 [pmv q] (.bool true) ∧ Rt (pmv (inverseP q))) = l24.map (fun q => sFun Tryz.prog TY (S10 true) 100 Tryz.f28 [pmv q] [] fun o _ => o = .ret (pmv (inverseP q))) := by kernel_rfl
theorem k12  : l24.map (fun q => Plain Tryz.prog 38 [pmv q] (.bool true) ∧ Rt (.int .i64 (signP q))) = l24.map (fun q => sFun Tryz.prog TY (S12 true) 140 Tryz.f50 [pmv q] [] fun o _ => o = .ret (.int .i64 (signP q))) := by kernel_rfl
theorem c10_2 {p : Pm} (hp : p.valid = true) : Plain Tryz.prog 28 [pmv p] (pmv (inverseP p)) :=
  Plain.of_fun (S := S10 true) (k := 100) TY_ok mixed fn28_ok (pl1 p) rfl (A := Plain Tryz.prog 38 [pmv p] (.bool true) ∧ Rt (pmv (inverseP p))) ⟨v6 hp, rt _⟩ (at24 k10 hp)
theorem c12_2 {p : Pm} (hp : p.valid = true) : Plain Tryz.prog 50 [pmv p] (.int .i64 (signP p)) :=
  Plain.of_fun (S := S12 true) (k := 140) TY_ok mixed fn50_ok (pl1 p) rfl (A := Plain Tryz.prog 38 [pmv p] (.bool true) ∧ Rt (.int .i64 (signP p))) ⟨v6 hp, rt _⟩ (at24 k12 hp)
theorem inv_of {f : FuncId} (h1 : ∀ {p : Pm}, p.valid = false → Plain Tryz.prog f [pmv p] (pmv .zero)) (h2 : ∀ {p : Pm}, p.valid = true → Plain Tryz.prog f [pmv p] (pmv (inverseP p))) (p : Pm) : Plain Tryz.prog f [pmv p] (pmv (invV p)) := by
  unfold invV
  cases hp : p.valid with
  | false => simpa using h1 hp
  | true => simpa using h2 hp
theorem sgn_of {f : FuncId} (h1 : ∀ {p : Pm}, p.valid = false → Plain Tryz.prog f [pmv p] (.int .i64 0)) (h2 : ∀ {p : Pm}, p.valid = true → Plain Tryz.prog f [pmv p] (.int .i64 (signP p))) (p : Pm) : Plain Tryz.prog f [pmv p] (.int .i64 (sgnV p)) := by
  unfold sgnV
  cases hp : p.valid with
  | false => simpa using h1 hp
  | true => simpa using h2 hp
theorem inverse10 (p : Pm) : Plain Tryz.prog 28 [pmv p] (pmv (invV p)) := inv_of c10_1 c10_2 p
theorem sign11 (p : Pm) : Plain Tryz.prog 36 [pmv p] (.int .i64 (sgnV p)) := sgn_of c11_1 c11_2 p
theorem sign12 (p : Pm) : Plain Tryz.prog 50 [pmv p] (.int .i64 (sgnV p)) := sgn_of c12_1 c12_2 p
theorem ident13 : Plain Tryz.prog 33 [] (pmv ⟨0, 1, 2, 3⟩) :=
  Plain.of_fun (S := A0) (k := 20) TY_ok mixed fn33_ok (by simp) rfl (A := Rt (pmv ⟨0, 1, 2, 3⟩)) (rt _) (by kernel_rfl)
end Go.Ab

