/- Compose, Inverse and Sign answer as plain functions, for all arrays. Conditions: none beyond the given model and program. -/
import Derived.Test.YtnimgapjllhccaaDoorVc
import Derived.Test.YtnimgapjllhccaaDoorAbC
namespace Go.Ab
open Go.Proofs

structure Pm where
  a : Int
  b : Int
  c : Int
  d : Int

def pmv (p : Pm) : Value := pm p.a p.b p.c p.d
def Pm.valid (p : Pm) : Bool := validB p.a p.b p.c p.d
def Pm.zero : Pm := ⟨0, 0, 0, 0⟩
def Pm.at (p : Pm) : Int → Int
  | .ofNat 0 => p.a
  | .ofNat 1 => p.b
  | .ofNat 2 => p.c
  | _ => p.d
def composeP (p q : Pm) : Pm := ⟨p.at q.a, p.at q.b, p.at q.c, p.at q.d⟩
def cmpV (p q : Pm) : Pm := if p.valid = true ∧ q.valid = true then composeP p q else .zero

theorem pmv_plain (p : Pm) : plain (pmv p) = true := rfl

theorem mixed : Tryd.prog.follows .mixedOrders = true := by kernel_rfl

def sc (d : Nat → Nat → Dir) (fk : Nat → Bool) : Sc := { dir := d, fork := fk, know := fun _ => none }
def nofork : Nat → Bool := fun _ => false
def at2 (r i : Nat) (a : Dir) (d : Nat → Nat → Dir) : Nat → Nat → Dir := fun r' i' => match Nat.beq r r' with
  | true => (match Nat.beq i i' with
    | true => a
    | false => d r' i')
  | false => d r' i'
def autod : Nat → Nat → Dir := fun _ _ => .auto
def plB (b : Bool) : Dir := .pl fun _ _ => .bool b

def l24 : List Pm := [⟨0, 1, 2, 3⟩, ⟨0, 1, 3, 2⟩, ⟨0, 2, 1, 3⟩, ⟨0, 2, 3, 1⟩, ⟨0, 3, 1, 2⟩, ⟨0, 3, 2, 1⟩, ⟨1, 0, 2, 3⟩, ⟨1, 0, 3, 2⟩, ⟨1, 2, 0, 3⟩, ⟨1, 2, 3, 0⟩, ⟨1, 3, 0, 2⟩, ⟨1, 3, 2, 0⟩, ⟨2, 0, 1, 3⟩, ⟨2, 0, 3, 1⟩, ⟨2, 1, 0, 3⟩, ⟨2, 1, 3, 0⟩, ⟨2, 3, 0, 1⟩, ⟨2, 3, 1, 0⟩, ⟨3, 0, 1, 2⟩, ⟨3, 0, 2, 1⟩, ⟨3, 1, 0, 2⟩, ⟨3, 1, 2, 0⟩, ⟨3, 2, 0, 1⟩, ⟨3, 2, 1, 0⟩]
def mem24B (a b c d : Int) : Bool := l24.any fun q => decide (q.a = a) && (decide (q.b = b) && (decide (q.c = c) && decide (q.d = d)))
theorem mem24_all (a b c d : Int) : (!(validB a b c d) || mem24B a b c d) = true :=
  forms4 (fun a b c d => !(validB a b c d) || mem24B a b c d) (fun n b c d => by kernel_rfl) (fun n c d => by kernel_rfl) (fun n d => by kernel_rfl) (fun n => by kernel_rfl) (by kernel_rfl) a b c d
theorem mem24 {p : Pm} (hp : p.valid = true) : p ∈ l24 := by
  have h := mem24_all p.a p.b p.c p.d
  unfold Pm.valid at hp
  rw [hp] at h
  simp only [Bool.not_true, Bool.false_or] at h
  unfold mem24B at h
  obtain ⟨q, hq, h⟩ := List.any_eq_true.1 h
  simp only [Bool.and_eq_true, decide_eq_true_eq] at h
  obtain ⟨h1, h2, h3, h4⟩ := h
  obtain ⟨a, b, c, d⟩ := q
  obtain ⟨a', b', c', d'⟩ := p
  simp only at h1 h2 h3 h4
  subst h1; subst h2; subst h3; subst h4
  exact hq
theorem at24 {α : Type} {A B : Pm → α} (h : l24.map A = l24.map B) {q : Pm} (hq : q.valid = true) : A q = B q := List.map_inj_left.1 h q (mem24 hq)
theorem all24 {A : Pm → Prop} {q : Pm} (h : ∀ q ∈ l24, A q) (hq : q.valid = true) : A q := h q (mem24 hq)

def Pm.pos (p : Pm) (i : Int) : Int := if p.a = i then 0 else if p.b = i then 1 else if p.c = i then 2 else 3
def inverseP (p : Pm) : Pm := ⟨p.pos 0, p.pos 1, p.pos 2, p.pos 3⟩
def invV (p : Pm) : Pm := if p.valid = true then inverseP p else .zero
def sg (x y : Int) : Int := if y < x then -1 else 1
def signP (p : Pm) : Int := sg p.a p.b * (sg p.a p.c * sg p.b p.c) * (sg p.a p.d * sg p.b p.d * sg p.c p.d)
def sgnV (p : Pm) : Int := if p.valid = true then signP p else 0

theorem XX_ok (fuel : Nat) : (XX fuel).ok Tryd.prog := ⟨TY_ok, mixed, FN_ok, fun _ _ _ _ _ h => (by cases h), fun _ _ _ _ _ _ _ h => (by cases h)⟩
theorem valid5 (p : Pm) : Plain Tryd.prog 5 [pmv p] (.bool p.valid) := fun h => sum_of_run (XX_ok 100) (okG p.a p.b p.c p.d) (by simp [pmv, pm_plain]) rfl h
theorem valid6 (p : Pm) : Plain Tryd.prog 6 [pmv p] (.bool p.valid) := fun h => sum_of_run (XX_ok 100) (okR p.a p.b p.c p.d) (by simp [pmv, pm_plain]) rfl h
theorem v5 {p : Pm} {b : Bool} (h : p.valid = b) : Plain Tryd.prog 5 [pmv p] (.bool b) := h ▸ valid5 p
theorem v6 {p : Pm} {b : Bool} (h : p.valid = b) : Plain Tryd.prog 6 [pmv p] (.bool b) := h ▸ valid6 p

def Rt (v : Value) : Prop := AOut.ret v = .ret v
theorem rt (v : Value) : Rt v := rfl
theorem pl1 (p : Pm) : ∀ x ∈ [pmv p], plain x = true := by simp [pmv_plain]
theorem pl2 (p q : Pm) : ∀ x ∈ [pmv p, pmv q], plain x = true := by simp [pmv_plain]
def A0 : Sc := sc autod nofork
theorem k23 (p : Pm) : l24.map (fun q => Rt (pmv (composeP p q))) = l24.map (fun q => sFun Tryd.prog TY A0 60 Tryd.f23 [pmv p, pmv q] [] fun o _ => o = .ret (pmv (composeP p q))) := by kernel_rfl
theorem compose23 (p : Pm) {q : Pm} (hq : q.valid = true) : Plain Tryd.prog 23 [pmv p, pmv q] (pmv (composeP p q)) :=
  Plain.of_fun (S := A0) (k := 60) TY_ok mixed fn23_ok (pl2 p q) rfl (A := Rt (pmv (composeP p q))) (rt _) (at24 (k23 p) hq)
theorem k24  : l24.map (fun q => Rt (pmv (inverseP q))) = l24.map (fun q => sFun Tryd.prog TY A0 80 Tryd.f24 [pmv q] [] fun o _ => o = .ret (pmv (inverseP q))) := by kernel_rfl
theorem inverse24 {q : Pm} (hq : q.valid = true) : Plain Tryd.prog 24 [pmv q] (pmv (inverseP q)) :=
  Plain.of_fun (S := A0) (k := 80) TY_ok mixed fn24_ok (pl1 q) rfl (A := Rt (pmv (inverseP q))) (rt _) (at24 k24 hq)
theorem k25  : l24.map (fun q => Rt (.int .i64 (signP q))) = l24.map (fun q => sFun Tryd.prog TY A0 120 Tryd.f25 [pmv q] [] fun o _ => o = .ret (.int .i64 (signP q))) := by kernel_rfl
theorem sign25 {q : Pm} (hq : q.valid = true) : Plain Tryd.prog 25 [pmv q] (.int .i64 (signP q)) :=
  Plain.of_fun (S := A0) (k := 120) TY_ok mixed fn25_ok (pl1 q) rfl (A := Rt (.int .i64 (signP q))) (rt _) (at24 k25 hq)

def S7 (b1 b2 : Bool) (v : Value) : Sc := sc (at2 1 1 (plB b1) (at2 1 5 (plB b2) (at2 3 2 (.pl fun _ _ => v) autod))) nofork
theorem c7_1 {p : Pm} (q : Pm) (hp : p.valid = false) : Plain Tryd.prog 7 [pmv p, pmv q] (pmv .zero) :=
  Plain.of_fun (S := S7 false false (pmv .zero)) (k := 40) TY_ok mixed fn7_ok (pl2 p q) rfl (A := Plain Tryd.prog 5 [pmv p] (.bool false) ∧ Rt (pmv .zero)) (⟨v5 hp, rt _⟩) (by kernel_rfl)
theorem c7_2 {p q : Pm} (hp : p.valid = true) (hq : q.valid = false) : Plain Tryd.prog 7 [pmv p, pmv q] (pmv .zero) :=
  Plain.of_fun (S := S7 true false (pmv .zero)) (k := 40) TY_ok mixed fn7_ok (pl2 p q) rfl (A := Plain Tryd.prog 5 [pmv p] (.bool true) ∧ Plain Tryd.prog 5 [pmv q] (.bool false) ∧ Rt (pmv .zero)) (⟨v5 hp, v5 hq, rt _⟩) (by kernel_rfl)
theorem c7_3 {p q : Pm} (hp : p.valid = true) (hq : q.valid = true) : Plain Tryd.prog 7 [pmv p, pmv q] (pmv (composeP p q)) :=
  Plain.of_fun (S := S7 true true (pmv (composeP p q))) (k := 40) TY_ok mixed fn7_ok (pl2 p q) rfl (A := Plain Tryd.prog 5 [pmv p] (.bool true) ∧ Plain Tryd.prog 5 [pmv q] (.bool true) ∧ Plain Tryd.prog 23 [pmv p, pmv q] (pmv (composeP p q)) ∧ Rt (pmv (composeP p q))) (⟨v5 hp, v5 hq, compose23 p hq, rt _⟩) (by kernel_rfl)

def S8 (b1 b2 : Bool) : Sc := sc (at2 2 1 (plB b1) (at2 2 5 (plB b2) autod)) nofork
theorem c8_1 {p : Pm} (q : Pm) (hp : p.valid = false) : Plain Tryd.prog 8 [pmv p, pmv q] (pmv .zero) :=
  Plain.of_fun (S := S8 false false) (k := 100) TY_ok mixed fn8_ok (pl2 p q) rfl (A := Plain Tryd.prog 6 [pmv p] (.bool false) ∧ Rt (pmv .zero)) (⟨v6 hp, rt _⟩) (by kernel_rfl)
theorem c8_2 {p q : Pm} (hp : p.valid = true) (hq : q.valid = false) : Plain Tryd.prog 8 [pmv p, pmv q] (pmv .zero) :=
  Plain.of_fun (S := S8 true false) (k := 100) TY_ok mixed fn8_ok (pl2 p q) rfl (A := Plain Tryd.prog 6 [pmv p] (.bool true) ∧ Plain Tryd.prog 6 [pmv q] (.bool false) ∧ Rt (pmv .zero)) (⟨v6 hp, v6 hq, rt _⟩) (by kernel_rfl)
theorem k8 (p : Pm) : l24.map (fun q => Plain Tryd.prog 6 [pmv p] (.bool true) ∧ Plain Tryd.prog 6 [pmv q] (.bool true) ∧ Rt (pmv (composeP p q))) = l24.map (fun q => sFun Tryd.prog TY (S8 true true) 100 Tryd.f8 [pmv p, pmv q] [] fun o _ => o = .ret (pmv (composeP p q))) := by kernel_rfl
theorem c8_3 {p q : Pm} (hp : p.valid = true) (hq : q.valid = true) : Plain Tryd.prog 8 [pmv p, pmv q] (pmv (composeP p q)) :=
  Plain.of_fun (S := S8 true true) (k := 100) TY_ok mixed fn8_ok (pl2 p q) rfl (A := Plain Tryd.prog 6 [pmv p] (.bool true) ∧ Plain Tryd.prog 6 [pmv q] (.bool true) ∧ Rt (pmv (composeP p q))) ⟨v6 hp, v6 hq, rt _⟩ (at24 (k8 p) hq)
theorem cmp_of {f : FuncId} (h1 : ∀ {p : Pm} (q : Pm), p.valid = false → Plain Tryd.prog f [pmv p, pmv q] (pmv .zero)) (h2 : ∀ {p q : Pm}, p.valid = true → q.valid = false → Plain Tryd.prog f [pmv p, pmv q] (pmv .zero))
    (h3 : ∀ {p q : Pm}, p.valid = true → q.valid = true → Plain Tryd.prog f [pmv p, pmv q] (pmv (composeP p q))) (p q : Pm) : Plain Tryd.prog f [pmv p, pmv q] (pmv (cmpV p q)) := by
  unfold cmpV
  cases hp : p.valid with
  | false => simpa using h1 q hp
  | true =>
    cases hq : q.valid with
    | false => simpa using h2 hp hq
    | true => simpa using h3 hp hq
theorem compose7 (p q : Pm) : Plain Tryd.prog 7 [pmv p, pmv q] (pmv (cmpV p q)) := cmp_of c7_1 c7_2 c7_3 p q
theorem compose8 (p q : Pm) : Plain Tryd.prog 8 [pmv p, pmv q] (pmv (cmpV p q)) := cmp_of c8_1 c8_2 c8_3 p q

def S9 (b : Bool) (v : Value) : Sc := sc (at2 1 1 (plB b) (at2 3 1 (.pl fun _ _ => v) autod)) nofork
theorem c9_1 {p : Pm} (hp : p.valid = false) : Plain Tryd.prog 9 [pmv p] (pmv .zero) :=
  Plain.of_fun (S := S9 false (pmv .zero)) (k := 40) TY_ok mixed fn9_ok (pl1 p) rfl (A := Plain Tryd.prog 5 [pmv p] (.bool false) ∧ Rt (pmv .zero)) (⟨v5 hp, rt _⟩) (by kernel_rfl)
theorem c9_2 {p : Pm} (hp : p.valid = true) : Plain Tryd.prog 9 [pmv p] (pmv (inverseP p)) :=
  Plain.of_fun (S := S9 true (pmv (inverseP p))) (k := 40) TY_ok mixed fn9_ok (pl1 p) rfl (A := Plain Tryd.prog 5 [pmv p] (.bool true) ∧ Plain Tryd.prog 24 [pmv p] (pmv (inverseP p)) ∧ Rt (pmv (inverseP p))) (⟨v5 hp, inverse24 hp, rt _⟩) (by kernel_rfl)
theorem c11_1 {p : Pm} (hp : p.valid = false) : Plain Tryd.prog 11 [pmv p] (.int .i64 0) :=
  Plain.of_fun (S := S9 false (.int .i64 0)) (k := 40) TY_ok mixed fn11_ok (pl1 p) rfl (A := Plain Tryd.prog 5 [pmv p] (.bool false) ∧ Rt (.int .i64 0)) (⟨v5 hp, rt _⟩) (by kernel_rfl)
theorem c11_2 {p : Pm} (hp : p.valid = true) : Plain Tryd.prog 11 [pmv p] (.int .i64 (signP p)) :=
  Plain.of_fun (S := S9 true (.int .i64 (signP p))) (k := 40) TY_ok mixed fn11_ok (pl1 p) rfl (A := Plain Tryd.prog 5 [pmv p] (.bool true) ∧ Plain Tryd.prog 25 [pmv p] (.int .i64 (signP p)) ∧ Rt (.int .i64 (signP p))) (⟨v5 hp, sign25 hp, rt _⟩) (by kernel_rfl)
def S10 (b : Bool) : Sc := sc (at2 2 1 (plB b) autod) nofork
def S12 (b : Bool) : Sc := sc (at2 1 1 (plB b) autod) nofork
theorem c10_1 {p : Pm} (hp : p.valid = false) : Plain Tryd.prog 10 [pmv p] (pmv .zero) :=
  Plain.of_fun (S := S10 false) (k := 100) TY_ok mixed fn10_ok (pl1 p) rfl (A := Plain Tryd.prog 6 [pmv p] (.bool false) ∧ Rt (pmv .zero)) (⟨v6 hp, rt _⟩) (by kernel_rfl)
theorem c12_1 {p : Pm} (hp : p.valid = false) : Plain Tryd.prog 12 [pmv p] (.int .i64 0) :=
  Plain.of_fun (S := S12 false) (k := 100) TY_ok mixed fn12_ok (pl1 p) rfl (A := Plain Tryd.prog 6 [pmv p] (.bool false) ∧ Rt (.int .i64 0)) (⟨v6 hp, rt _⟩) (by kernel_rfl)
theorem k10  : l24.map (fun q => Plain Tryd.prog 6 [pmv q] (.bool true) ∧ Rt (pmv (inverseP q))) = l24.map (fun q => sFun Tryd.prog TY (S10 true) 100 Tryd.f10 [pmv q] [] fun o _ => o = .ret (pmv (inverseP q))) := by kernel_rfl
theorem k12  : l24.map (fun q => Plain Tryd.prog 6 [pmv q] (.bool true) ∧ Rt (.int .i64 (signP q))) = l24.map (fun q => sFun Tryd.prog TY (S12 true) 140 Tryd.f12 [pmv q] [] fun o _ => o = .ret (.int .i64 (signP q))) := by kernel_rfl
theorem c10_2 {p : Pm} (hp : p.valid = true) : Plain Tryd.prog 10 [pmv p] (pmv (inverseP p)) :=
  Plain.of_fun (S := S10 true) (k := 100) TY_ok mixed fn10_ok (pl1 p) rfl (A := Plain Tryd.prog 6 [pmv p] (.bool true) ∧ Rt (pmv (inverseP p))) ⟨v6 hp, rt _⟩ (at24 k10 hp)
theorem c12_2 {p : Pm} (hp : p.valid = true) : Plain Tryd.prog 12 [pmv p] (.int .i64 (signP p)) :=
  Plain.of_fun (S := S12 true) (k := 140) TY_ok mixed fn12_ok (pl1 p) rfl (A := Plain Tryd.prog 6 [pmv p] (.bool true) ∧ Rt (.int .i64 (signP p))) ⟨v6 hp, rt _⟩ (at24 k12 hp)
theorem inv_of {f : FuncId} (h1 : ∀ {p : Pm}, p.valid = false → Plain Tryd.prog f [pmv p] (pmv .zero)) (h2 : ∀ {p : Pm}, p.valid = true → Plain Tryd.prog f [pmv p] (pmv (inverseP p))) (p : Pm) : Plain Tryd.prog f [pmv p] (pmv (invV p)) := by
  unfold invV
  cases hp : p.valid with
  | false => simpa using h1 hp
  | true => simpa using h2 hp
theorem sgn_of {f : FuncId} (h1 : ∀ {p : Pm}, p.valid = false → Plain Tryd.prog f [pmv p] (.int .i64 0)) (h2 : ∀ {p : Pm}, p.valid = true → Plain Tryd.prog f [pmv p] (.int .i64 (signP p))) (p : Pm) : Plain Tryd.prog f [pmv p] (.int .i64 (sgnV p)) := by
  unfold sgnV
  cases hp : p.valid with
  | false => simpa using h1 hp
  | true => simpa using h2 hp
theorem inverse9 (p : Pm) : Plain Tryd.prog 9 [pmv p] (pmv (invV p)) := inv_of c9_1 c9_2 p
theorem inverse10 (p : Pm) : Plain Tryd.prog 10 [pmv p] (pmv (invV p)) := inv_of c10_1 c10_2 p
theorem sign11 (p : Pm) : Plain Tryd.prog 11 [pmv p] (.int .i64 (sgnV p)) := sgn_of c11_1 c11_2 p
theorem sign12 (p : Pm) : Plain Tryd.prog 12 [pmv p] (.int .i64 (sgnV p)) := sgn_of c12_1 c12_2 p
theorem ident13 : Plain Tryd.prog 13 [] (pmv ⟨0, 1, 2, 3⟩) :=
  Plain.of_fun (S := A0) (k := 20) TY_ok mixed fn13_ok (by simp) rfl (A := Rt (pmv ⟨0, 1, 2, 3⟩)) (rt _) (by kernel_rfl)
end Go.Ab
