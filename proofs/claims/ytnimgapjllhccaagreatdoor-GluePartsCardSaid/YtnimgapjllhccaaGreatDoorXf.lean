/- ContainsFunc finds an array that is no permutation. Conditions: none beyond the given model and program. -/
import Derived.Test.YtnimgapjllhccaaGreatDoorRp
namespace Go.Ab
open Go.Proofs

theorem fn44_ok : Tryz.prog.funcs[44]? = some Tryz.f44 ∧ (Tryz.f44.name == "runtime.NumGoroutine") = false ∧ ∀ c, Tryz.f44.body = some c → codeOk Tryz.f44.ntmps c = true :=
  ⟨Tryz.func44, by kernel_rfl, codeOk_of (by kernel_rfl)⟩
theorem fn63_ok : Tryz.prog.funcs[63]? = some Tryz.f63 ∧ (Tryz.f63.name == "runtime.NumGoroutine") = false ∧ ∀ c, Tryz.f63.body = some c → codeOk Tryz.f63.ntmps c = true :=
  ⟨Tryz.func63, by kernel_rfl, codeOk_of (by kernel_rfl)⟩
def fv : Value := .func (.func 45) #[] #[]
abbrev NvP (p : Pm) : Prop := Plain Tryz.prog 37 [pmv p] (.bool p.valid)
theorem nvalid45 (p : Pm) : Plain Tryz.prog 45 [pmv p] (.bool (!p.valid)) := fun h =>
  Sum.lift0 (R := fun o _ => o = .ret (.bool (!p.valid))) (tFun_sum (S := { dir := dd [((1, 1), plD (.bool p.valid))], know := kk [], loop := noloop }) (k := 60) TY_ok mixed fn45_ok (A := NvP p ∧ AOut.ret (.bool (!p.valid)) = .ret (.bool (!p.valid))) ⟨valid5 p, rfl⟩ (by kernel_rfl))
    (fun _ _ h => h) (by intro x hx; simp only [List.mem_cons, List.not_mem_nil, or_false] at hx; subst hx; exact pm_plain ..) rfl h
theorem nv_bad {p : Pm} (h : p.valid = false) : Plain Tryz.prog 45 [pmv p] (.bool true) := by have := nvalid45 p; rwa [h] at this
theorem nv_good {p : Pm} (h : p.valid = true) : Plain Tryz.prog 45 [pmv p] (.bool false) := by have := nvalid45 p; rwa [h] at this

/-- All arrays are permutations. -/
def allV (k : Nat) (q : List Int) : Bool := (List.range k).all fun i => (pmAt q (4 * i)).valid

namespace XF
def H (q : List Int) : Heap := [some ⟨ints q, false⟩]
theorem H_closed (q : List Int) : closedH 1 (H q) := closedH_cons (subL_plain _ _ (ints_plain q)) closedH_nil
def eT (k i : Nat) : List (Nat × Value) := [(0, pS 0 k), (1, fv), (7, .int .i64 k), (8, .int .i64 i)]
def eW (k i : Nat) : List (Nat × Value) := [(0, pS 0 k), (1, fv), (7, .int .i64 k), (8, .int .i64 (IntKind.i64.wrap ((i : Int) + 1)))]
def eF (i : Nat) : List (Nat × Value) := [(4, .int .i64 i)]
theorem ok0 : codeOk 19 (lb Tryz.f63 0) = true := by kernel_rfl
abbrev C (q : List Int) (k i : Nat) (ax : AX) (l : List (Nat × Value)) : Prop := Comes none ([], true) Tryz.prog 19 1 (lb Tryz.f63 0) (eT k i) (H q) ax l (H q)
def R1 (q : List Int) (i : Nat) (p : Pm) : Prop := readCells (H q) ⟨0, 0 + i * 4, none⟩ 4 = some (pmL p)
def d (p : Pm) (b : Bool) : List ((Nat × Nat) × (Option Bool × Td)) := [((4, 3), ixD), ((4, 4), ldC (pmL p)), ((4, 5), plD (.bool b))]
theorem cEnd {q : List Int} {k i : Nat} (h : ilt (i : Int) k = false) : C q k i (.exit 0) [] :=
  comes_run (S := RN.sc [] [(9, false)]) (k := 60) (ts := []) (junk := []) (h1 := H q) (A := ilt (i : Int) k = false ∧ Dn (.exit 0) [] (H q)) TY_ok mixed ok0 (show 1 ≤ (H q).length from Nat.le_of_ble_eq_true rfl) (H_closed q) rfl ⟨h, dn _ _ _⟩ (by kernel_rfl)
theorem cBad {q : List Int} {k i : Nat} {p : Pm} (h : ilt (i : Int) k = true) (h1 : InN i k) (h2 : R1 q i p) (h3 : Plain Tryz.prog 45 [pmv p] (.bool true)) : C q k i .ret (eF i) :=
  comes_run (S := RN.sc (d p true) [(9, true)]) (k := 60) (ts := [4]) (junk := []) (h1 := H q) (l0 := eF i) (A := ilt (i : Int) k = true ∧ InN i k ∧ R1 q i p ∧ Plain Tryz.prog 45 [pmv p] (.bool true) ∧ Dn .ret (eF i) (H q)) TY_ok mixed ok0 (show 1 ≤ (H q).length from Nat.le_of_ble_eq_true rfl) (H_closed q) rfl ⟨h, h1, h2, h3, dn _ _ _⟩ (by kernel_rfl)
theorem cGood {q : List Int} {k i : Nat} {p : Pm} (h : ilt (i : Int) k = true) (h1 : InN i k) (h2 : R1 q i p) (h3 : Plain Tryz.prog 45 [pmv p] (.bool false)) : C q k i .normal (eW k i) :=
  comes_run (S := RN.sc (d p false) [(9, true)]) (k := 60) (ts := [0, 1, 7, 8]) (junk := []) (h1 := H q) (l0 := eW k i) (A := ilt (i : Int) k = true ∧ InN i k ∧ R1 q i p ∧ Plain Tryz.prog 45 [pmv p] (.bool false) ∧ Dn .normal (eW k i) (H q)) TY_ok mixed ok0 (show 1 ≤ (H q).length from Nat.le_of_ble_eq_true rfl) (H_closed q) rfl ⟨h, h1, h2, h3, dn _ _ _⟩ (by kernel_rfl)

theorem loop_ok {q : List Int} {k : Nat} (hk : k ≤ 100000000) (hq : q.length = 4 * k) :
    (allV k q = true → (obs Tryz.prog TY none ([], true) 19).loop 1 (fb Tryz.f63 0) (eT k 0) (H q) .normal [] (H q)) ∧
    (allV k q = false → ∃ j : Nat, (obs Tryz.prog TY none ([], true) 19).loop 1 (fb Tryz.f63 0) (eT k 0) (H q) .ret (eF j) (H q)) := by
  have hfb : fb Tryz.f63 0 = .block 0 (.loop (lb Tryz.f63 0)) := by kernel_rfl
  have lt : ∀ t : Nat, t < k → ilt (t : Int) k = true := fun t ht => by rw [ilt_eq]; simp; omega
  have good : ∀ i, i < k → (pmAt q (4 * i)).valid = true → C q k i .normal (eT k (i + 1)) := fun i hi hv => by
    have hw : eT k (i + 1) = eW k i := by simp only [eT, eW, wrap_succ (show i < 1000000000 by omega)]
    rw [hw]
    exact cGood (lt i hi) ⟨by omega, by omega⟩ (rd_pm (w := false) rfl (by omega)) (nv_good hv)
  refine ⟨fun h => ?_, fun h => ?_⟩
  · have hall : ∀ i, i < k → (pmAt q (4 * i)).valid = true := fun i hi => List.all_eq_true.1 h i (List.mem_range.2 hi)
    refine comes_loop hfb rfl (fun i => eT k i) (fun _ => H q) (fun i => i ≤ k) (fun i => k - i) 0 (by omega) rfl rfl ?_
    intro i hi
    by_cases h4 : i < k
    · exact .inl ⟨i + 1, by omega, by omega, good i h4 (hall i h4)⟩
    · have : i = k := by omega
      subst this
      exact .inr (.inl ⟨rfl, cEnd (by rw [ilt_eq]; simp)⟩)
  · obtain ⟨j, hj, hb, hmin⟩ : ∃ j, j < k ∧ (pmAt q (4 * j)).valid = false ∧ ∀ i, i < j → (pmAt q (4 * i)).valid = true := by
      have : ∃ j, j < k ∧ (pmAt q (4 * j)).valid = false := by
        unfold allV at h
        rw [List.all_eq_false] at h
        obtain ⟨j, hj, hv⟩ := h
        exact ⟨j, List.mem_range.1 hj, by simpa using hv⟩
      obtain ⟨j0, hj0⟩ := this
      have wf : ∀ n, ∀ j, j ≤ n → (j < k ∧ (pmAt q (4 * j)).valid = false) → ∃ j, j < k ∧ (pmAt q (4 * j)).valid = false ∧ ∀ i, i < j → (pmAt q (4 * i)).valid = true := by
        intro n
        induction n with
        | zero => intro j hj h; exact ⟨j, h.1, h.2, fun i hi => absurd hi (by omega)⟩
        | succ n ih =>
          intro j hj h
          by_cases hx : ∃ i, i < j ∧ (pmAt q (4 * i)).valid = false
          · obtain ⟨i, hi, hv⟩ := hx
            exact ih i (by omega) ⟨by omega, hv⟩
          · refine ⟨j, h.1, h.2, fun i hi => ?_⟩
            cases hc : (pmAt q (4 * i)).valid with
            | true => rfl
            | false => exact absurd ⟨i, hi, hc⟩ hx
      exact wf j0 j0 (Nat.le_refl _) hj0
    refine ⟨j, comes_loop hfb rfl (fun i => eT k i) (fun _ => H q) (fun i => i ≤ j) (fun i => k - i) 0 (by omega) rfl rfl ?_⟩
    intro i hi
    by_cases hik : i = j
    · subst hik
      exact .inr (.inr ⟨rfl, cBad (lt i hj) ⟨by omega, by omega⟩ (rd_pm (w := false) rfl (by omega)) (nv_bad hb)⟩)
    · exact .inl ⟨i + 1, by omega, by omega, good i (by omega) (hmin i (by omega))⟩
end XF

theorem indexfunc_all {q : List Int} {k : Nat} (hk : k ≤ 100000000) (hq : q.length = 4 * k) (h : allV k q = true) : Sum Tryz.prog 63 [pS 0 k, fv] (XF.H q) fun o _ => o = .ret (.int .i64 (-1)) :=
  tFun_sum (S := { dir := dd [], know := kk [], loop := loops [(0, ([0, 1, 7, 8], fun _ _ => (.normal, [], XF.H q)))] }) (k := 60) TY_ok mixed fn63_ok
    (A := (obs Tryz.prog TY none ([], true) 19).loop 1 (fb Tryz.f63 0) (XF.eT k 0) (XF.H q) .normal [] (XF.H q) ∧ AOut.ret (.int .i64 (-1)) = .ret (.int .i64 (-1))) ⟨(XF.loop_ok hk hq).1 h, rfl⟩ (by kernel_rfl)
theorem indexfunc_some {q : List Int} {k : Nat} (hk : k ≤ 100000000) (hq : q.length = 4 * k) (h : allV k q = false) : ∃ j : Nat, Sum Tryz.prog 63 [pS 0 k, fv] (XF.H q) fun o _ => o = .ret (.int .i64 j) := by
  obtain ⟨j, hj⟩ := (XF.loop_ok hk hq).2 h
  exact ⟨j, tFun_sum (S := { dir := dd [], know := kk [], loop := loops [(0, ([0, 1, 7, 8], fun _ _ => (.ret, XF.eF j, XF.H q)))] }) (k := 60) TY_ok mixed fn63_ok
    (A := (obs Tryz.prog TY none ([], true) 19).loop 1 (fb Tryz.f63 0) (XF.eT k 0) (XF.H q) .ret (XF.eF j) (XF.H q) ∧ AOut.ret (.int .i64 j) = .ret (.int .i64 j)) ⟨hj, rfl⟩ (by kernel_rfl)⟩

theorem gives_pf {f : FuncId} {y : List Int} {m c : Nat} {h : Heap} {w' : Bool} {v : Value} (hs : Sum Tryz.prog f [pS 0 m, fv] (XF.H y) fun o _ => o = .ret v) (hv : plain v = true) (hc : hblk h c = some ⟨ints y, w'⟩) :
    Gives Tryz.prog f [pS c m, fv] h (.ret v) h ∧ ∃ y, h = h ++ y :=
  gives_plain hs rfl (emb_one hc) ⟨_, _, rfl, sub_pS rfl, _, _, rfl, ⟨[], [], rfl, rfl, rfl⟩, rfl⟩ hv
abbrev XG (q : List Int) (k : Nat) (v : Int) : Prop := Gives Tryz.prog 63 [pS 0 k, fv] (XF.H q) (.ret (.int .i64 v)) (XF.H q) ∧ ∃ y, XF.H q = XF.H q ++ y
theorem contains_sum {q : List Int} {k : Nat} (hk : k ≤ 100000000) (hq : q.length = 4 * k) : Sum Tryz.prog 44 [pS 0 k, fv] (XF.H q) fun o _ => o = .ret (.bool (!allV k q)) := by
  cases h : allV k q with
  | true =>
    have g : XG q k (-1) := gives_pf (indexfunc_all hk hq h) rfl (w' := false) rfl
    exact tFun_sum (S := { dir := dd [((1, 2), ansD (.int .i64 (-1)) id)], know := kk [], loop := noloop }) (k := 60) TY_ok mixed fn44_ok (A := XG q k (-1) ∧ AOut.ret (.bool false) = .ret (.bool false)) ⟨g, rfl⟩ (by kernel_rfl)
  | false =>
    obtain ⟨j, hj⟩ := indexfunc_some hk hq h
    have g : XG q k j := gives_pf hj rfl (w' := false) rfl
    exact tFun_sum (S := { dir := dd [((1, 2), ansD (.int .i64 j) id)], know := kk [], loop := noloop }) (k := 60) TY_ok mixed fn44_ok (A := XG q k j ∧ AOut.ret (.bool true) = .ret (.bool true)) ⟨g, rfl⟩ (by kernel_rfl)
end Go.Ab
