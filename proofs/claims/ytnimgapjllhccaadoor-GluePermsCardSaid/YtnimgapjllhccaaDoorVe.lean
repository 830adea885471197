/- GluePerms returns true at all arguments. Conditions: none beyond the given model and program. -/
import Derived.Test.YtnimgapjllhccaaDoorVd
import Derived.Test.YtnimgapjllhccaaDoorSb
namespace Go.Ab
open Go.Proofs

noncomputable def FN3 : FuncId → Option Func := fun f => if f = 3 then some Tryd.f3 else FN f
theorem fn3_ok : Tryd.prog.funcs[3]? = some Tryd.f3 ∧ (Tryd.f3.name == "runtime.NumGoroutine") = false ∧ ∀ c, Tryd.f3.body = some c → codeOk Tryd.f3.ntmps c = true :=
  ⟨Tryd.func3, by kernel_rfl, codeOk_of (by kernel_rfl)⟩
theorem sane4 : Plain Tryd.prog 4 [] (.bool true) := sane_sum

def neP (p q : Pm) : Bool := !(p.a == q.a && (p.b == q.b && (p.c == q.c && (p.d == q.d && true))))
def eqP (p q : Pm) : Bool := (p.a == q.a && (p.b == q.b && (p.c == q.c && (p.d == q.d && true))))
theorem neP_self (p : Pm) : neP p p = false := by simp [neP]
def plV (v : Value) : Dir := .pl fun _ _ => v
def plP (p : Pm) : Dir := plV (pmv p)
def plI (n : Int) : Dir := plV (.int .i64 n)

/-- The first region's answers. -/
def D1 (b : Bool) (c i : Pm) (s : Int) (d : Nat → Nat → Dir) : Nat → Nat → Dir :=
  at2 1 0 (plB true) (at2 1 4 (plB b) (at2 1 6 (plB b) (at2 1 10 (.know false) (at2 1 12 (plP c) (at2 1 15 (plP c) (at2 1 19 (.know false) (at2 1 20 (plP i) (at2 1 22 (plP i) (at2 1 26 (.know false) (at2 1 27 (plI s) (at2 1 29 (plI s) d)))))))))))
def D3 (b1 b2 b3 : Bool) (d : Nat → Nat → Dir) : Nat → Nat → Dir := at2 3 1 (plB b1) (at2 3 5 (plB b2) (at2 3 10 (plB b3) d))
def know38 : Nat → Option Bool := fun t => if t = 38 then some false else none

def O1 (p q : Pm) (b : Bool) (c i : Pm) (s : Int) (X : Prop) : Prop :=
  Plain Tryd.prog 4 [] (.bool true) ∧ Plain Tryd.prog 5 [pmv p] (.bool b) ∧ Plain Tryd.prog 6 [pmv p] (.bool b) ∧ (false = false) ∧ Plain Tryd.prog 7 [pmv p, pmv q] (pmv c) ∧ Plain Tryd.prog 8 [pmv p, pmv q] (pmv c) ∧ (neP c c = false) ∧
  Plain Tryd.prog 9 [pmv p] (pmv i) ∧ Plain Tryd.prog 10 [pmv p] (pmv i) ∧ (neP i i = false) ∧ Plain Tryd.prog 11 [pmv p] (.int .i64 s) ∧ Plain Tryd.prog 12 [pmv p] (.int .i64 s) ∧ ((s != s) = false) ∧ X

theorem law1 (p q r : Pm) (hp : p.valid = false) : Plain Tryd.prog 3 [pmv p, pmv q, pmv r] (.bool true) :=
  Plain.of_fun (S := { dir := D1 false (cmpV p q) (invV p) (sgnV p) (D3 false false false autod), fork := nofork, know := know38 }) (k := 40) TY_ok mixed fn3_ok (by simp [pmv_plain]) rfl
    (A := O1 p q false (cmpV p q) (invV p) (sgnV p) (Plain Tryd.prog 6 [pmv p] (.bool false) ∧ Rt (.bool true)))
    ⟨sane4, v5 hp, v6 hp, rfl, compose7 p q, compose8 p q, neP_self _, inverse9 p, inverse10 p, neP_self _, sign11 p, sign12 p, by simp, v6 hp, rt _⟩ (by kernel_rfl)
theorem law2 (p q r : Pm) (hp : p.valid = true) (hq : q.valid = false) : Plain Tryd.prog 3 [pmv p, pmv q, pmv r] (.bool true) :=
  Plain.of_fun (S := { dir := D1 true (cmpV p q) (invV p) (sgnV p) (D3 true false false autod), fork := nofork, know := know38 }) (k := 40) TY_ok mixed fn3_ok (by simp [pmv_plain]) rfl
    (A := O1 p q true (cmpV p q) (invV p) (sgnV p) (Plain Tryd.prog 6 [pmv p] (.bool true) ∧ Plain Tryd.prog 6 [pmv q] (.bool false) ∧ Rt (.bool true)))
    ⟨sane4, v5 hp, v6 hp, rfl, compose7 p q, compose8 p q, neP_self _, inverse9 p, inverse10 p, neP_self _, sign11 p, sign12 p, by simp, v6 hp, v6 hq, rt _⟩ (by kernel_rfl)
theorem law3 (p q r : Pm) (hp : p.valid = true) (hq : q.valid = true) (hr : r.valid = false) : Plain Tryd.prog 3 [pmv p, pmv q, pmv r] (.bool true) :=
  Plain.of_fun (S := { dir := D1 true (cmpV p q) (invV p) (sgnV p) (D3 true true false autod), fork := nofork, know := know38 }) (k := 40) TY_ok mixed fn3_ok (by simp [pmv_plain]) rfl
    (A := O1 p q true (cmpV p q) (invV p) (sgnV p) (Plain Tryd.prog 6 [pmv p] (.bool true) ∧ Plain Tryd.prog 6 [pmv q] (.bool true) ∧ Plain Tryd.prog 6 [pmv r] (.bool false) ∧ Rt (.bool true)))
    ⟨sane4, v5 hp, v6 hp, rfl, compose7 p q, compose8 p q, neP_self _, inverse9 p, inverse10 p, neP_self _, sign11 p, sign12 p, by simp, v6 hp, v6 hq, v6 hr, rt _⟩ (by kernel_rfl)

-- plain laws of the 24
theorem compose_at (p q : Pm) {r : Pm} (hr : r.valid = true) : composeP (composeP p q) r = composeP p (composeP q r) :=
  at24 (A := fun r => composeP (composeP p q) r) (B := fun r => composeP p (composeP q r)) (by kernel_rfl) hr
theorem compose_valid {p q : Pm} (hp : p.valid = true) (hq : q.valid = true) : (composeP p q).valid = true := by
  have h : l24.all (fun p => l24.all fun q => (composeP p q).valid) = true := by kernel_rfl
  exact List.all_eq_true.1 (List.all_eq_true.1 h p (mem24 hp)) q (mem24 hq)
theorem inverse_valid {p : Pm} (hp : p.valid = true) : (inverseP p).valid = true := by
  have h : l24.all (fun p => (inverseP p).valid) = true := by kernel_rfl
  exact List.all_eq_true.1 h p (mem24 hp)
theorem compose_inverse {p : Pm} (hp : p.valid = true) : composeP p (inverseP p) = ⟨0, 1, 2, 3⟩ :=
  at24 (A := fun p => composeP p (inverseP p)) (B := fun _ => ⟨0, 1, 2, 3⟩) (by kernel_rfl) hp
theorem sign_mul {p q : Pm} (hp : p.valid = true) (hq : q.valid = true) : (signP (composeP p q) == IntKind.i64.wrap (signP p * signP q)) = true := by
  have h : l24.all (fun p => l24.all fun q => signP (composeP p q) == IntKind.i64.wrap (signP p * signP q)) = true := by kernel_rfl
  exact List.all_eq_true.1 (List.all_eq_true.1 h p (mem24 hp)) q (mem24 hq)

theorem cmpV_valid {p q : Pm} (hp : p.valid = true) (hq : q.valid = true) : cmpV p q = composeP p q := by simp [cmpV, hp, hq]
theorem eqP_of {p q : Pm} (h : p = q) : eqP p q = true := by subst h; simp [eqP]

def D5 (pq pqr qr pqr' i e : Pm) (s1 s2 s3 : Int) (d : Nat → Nat → Dir) : Nat → Nat → Dir :=
  at2 5 2 (plP pq) (at2 5 4 (plP pqr) (at2 5 8 (plP qr) (at2 5 9 (plP pqr') (at2 5 12 (.know true) (at2 5 14 (plP i) (at2 5 15 (plP e) (at2 5 16 (plP ⟨0, 1, 2, 3⟩) (at2 5 20 (.know true) (at2 5 22 (plP pq) (at2 5 23 (plI s1) (at2 5 25 (plI s2) (at2 5 27 (plI s3) d))))))))))))

def O5 (p q r : Pm) (pq pqr qr pqr' i e : Pm) (s1 s2 s3 : Int) : Prop :=
  Plain Tryd.prog 7 [pmv p, pmv q] (pmv pq) ∧ Plain Tryd.prog 7 [pmv pq, pmv r] (pmv pqr) ∧ Plain Tryd.prog 7 [pmv q, pmv r] (pmv qr) ∧ Plain Tryd.prog 7 [pmv p, pmv qr] (pmv pqr') ∧ (eqP pqr pqr' = true) ∧
  Plain Tryd.prog 9 [pmv p] (pmv i) ∧ Plain Tryd.prog 7 [pmv p, pmv i] (pmv e) ∧ Plain Tryd.prog 13 [] (pmv ⟨0, 1, 2, 3⟩) ∧ (eqP e ⟨0, 1, 2, 3⟩ = true) ∧
  Plain Tryd.prog 7 [pmv p, pmv q] (pmv pq) ∧ Plain Tryd.prog 11 [pmv pq] (.int .i64 s1) ∧ Plain Tryd.prog 11 [pmv p] (.int .i64 s2) ∧ Plain Tryd.prog 11 [pmv q] (.int .i64 s3) ∧
  AOut.ret (.bool (s1 == IntKind.i64.wrap (s2 * s3))) = .ret (.bool true)

theorem law4 (p q r : Pm) (hp : p.valid = true) (hq : q.valid = true) (hr : r.valid = true) : Plain Tryd.prog 3 [pmv p, pmv q, pmv r] (.bool true) := by
  have hpq : (cmpV p q).valid = true := by rw [cmpV_valid hp hq]; exact compose_valid hp hq
  have hqr : (cmpV q r).valid = true := by rw [cmpV_valid hq hr]; exact compose_valid hq hr
  have hi : (invV p).valid = true := by simp only [invV, hp, if_true]; exact inverse_valid hp
  refine Plain.of_fun (S := { dir := D1 true (cmpV p q) (invV p) (sgnV p) (D3 true true true (D5 (cmpV p q) (cmpV (cmpV p q) r) (cmpV q r) (cmpV p (cmpV q r)) (invV p) (cmpV p (invV p)) (sgnV (cmpV p q)) (sgnV p) (sgnV q) autod)), fork := nofork, know := know38 }) (k := 40) TY_ok mixed fn3_ok (by simp [pmv_plain]) rfl
    (A := O1 p q true (cmpV p q) (invV p) (sgnV p) (Plain Tryd.prog 6 [pmv p] (.bool true) ∧ Plain Tryd.prog 6 [pmv q] (.bool true) ∧ Plain Tryd.prog 6 [pmv r] (.bool true) ∧
      O5 p q r (cmpV p q) (cmpV (cmpV p q) r) (cmpV q r) (cmpV p (cmpV q r)) (invV p) (cmpV p (invV p)) (sgnV (cmpV p q)) (sgnV p) (sgnV q)))
    ⟨sane4, v5 hp, v6 hp, rfl, compose7 p q, compose8 p q, neP_self _, inverse9 p, inverse10 p, neP_self _, sign11 p, sign12 p, by simp, v6 hp, v6 hq, v6 hr,
      compose7 p q, compose7 _ r, compose7 q r, compose7 p _, ?_, inverse9 p, compose7 p _, ident13, ?_, compose7 p q, sign11 _, sign11 p, sign11 q, ?_⟩ (by kernel_rfl)
  · refine eqP_of ?_
    rw [cmpV_valid hpq hr, cmpV_valid hp hqr, cmpV_valid hp hq, cmpV_valid hq hr]
    exact compose_at p q hr
  · refine eqP_of ?_
    rw [cmpV_valid hp hi]
    simp only [invV, hp, if_true]
    exact compose_inverse hp
  · rw [show (sgnV (cmpV p q) == IntKind.i64.wrap (sgnV p * sgnV q)) = true by
      simp only [sgnV, hpq, hp, hq, if_true]
      rw [cmpV_valid hp hq]
      exact sign_mul hp hq]

/-- GluePerms returns true. -/
theorem perms_true (p q r : Pm) : Plain Tryd.prog 3 [pmv p, pmv q, pmv r] (.bool true) := by
  cases hp : p.valid with
  | false => exact law1 p q r hp
  | true =>
    cases hq : q.valid with
    | false => exact law2 p q r hp hq
    | true =>
      cases hr : r.valid with
      | false => exact law3 p q r hp hq hr
      | true => exact law4 p q r hp hq hr
end Go.Ab
