/- The function Renumbered of the specification says yes where a matching keeps all faces. Conditions: none beyond the given model and program. -/
import Derived.Test.YtnimgapjllhccaaGreatDoorMb
import Derived.Test.YtnimgapjllhccaaGreatDoorMp
namespace Go.Ab
open Go.Proofs

theorem fn25_ok : Tryz.prog.funcs[25]? = some Tryz.f25 ∧ (Tryz.f25.name == "runtime.NumGoroutine") = false ∧ ∀ c, Tryz.f25.body = some c → codeOk Tryz.f25.ntmps c = true :=
  ⟨Tryz.func25, by kernel_rfl, codeOk_of (by kernel_rfl)⟩

namespace RM
def rH (x y : List Int) (n : Nat) (l m : List Int) (g : Nat → Bool) : Heap := [some ⟨ints x, false⟩, some ⟨ints y, false⟩, some ⟨[gS 0 n], true⟩, some ⟨[gS 1 n], true⟩, some ⟨ints l, true⟩, some ⟨ints m, true⟩, some ⟨bls n g, true⟩]
theorem rH_closed (x y : List Int) (n : Nat) (l m : List Int) (g : Nat → Bool) : closedH 7 (rH x y n l m g) :=
  closedH_cons (subL_plain _ _ (ints_plain x)) (closedH_cons (subL_plain _ _ (ints_plain y)) (closedH_cons (belowL_sub _ rfl) (closedH_cons (belowL_sub _ rfl) (closedH_cons (subL_plain _ _ (ints_plain l)) (closedH_cons (subL_plain _ _ (ints_plain m)) (closedH_cons (subL_plain _ _ (bls_plain n g)) closedH_nil))))))
def eT (n : Nat) (t : Int) : List (Nat × Value) := [(2, pt 2), (3, pt 3), (5, oS 4 n), (7, oS 5 n), (9, oS 6 n), (10, it t)]
def tT : List Nat := [2, 3, 5, 7, 9, 10]
def eK (n : Nat) (t : Int) (b : Bool) (k : Int) : List (Nat × Value) := [(2, pt 2), (3, pt 3), (5, oS 4 n), (7, oS 5 n), (9, oS 6 n), (10, it t), (11, .bool b), (12, it k)]
def tK : List Nat := [2, 3, 5, 7, 9, 10, 11, 12]
def eW (n : Nat) (t : Int) (b : Bool) : List (Nat × Value) := [(2, pt 2), (3, pt 3), (5, oS 4 n), (7, oS 5 n), (9, oS 6 n), (10, it t), (11, .bool b)]
def tW : List Nat := [2, 3, 5, 7, 9, 10, 11]
def eU (n : Nat) (t : Int) (b : Bool) (u : Int) : List (Nat × Value) := [(2, pt 2), (3, pt 3), (5, oS 4 n), (7, oS 5 n), (9, oS 6 n), (10, it t), (13, .bool b), (14, it u)]
def tU : List Nat := [2, 3, 5, 7, 9, 10, 13, 14]
def eV (n : Nat) (t : Int) (b : Bool) : List (Nat × Value) := [(2, pt 2), (3, pt 3), (5, oS 4 n), (7, oS 5 n), (9, oS 6 n), (10, it t), (13, .bool b)]
def tV : List Nat := [2, 3, 5, 7, 9, 10, 13]
def eP (n : Nat) (t u : Int) (b : Bool) (p : Int) : List (Nat × Value) := [(2, pt 2), (3, pt 3), (5, oS 4 n), (7, oS 5 n), (9, oS 6 n), (10, it t), (13, .bool b), (14, it u), (15, it p)]
def tP : List Nat := [2, 3, 5, 7, 9, 10, 13, 14, 15]
theorem ok6 : codeOk 112 (lb Tryz.f25 6) = true := by kernel_rfl
theorem ok4 : codeOk 112 (lb Tryz.f25 4) = true := by kernel_rfl
theorem ok2 : codeOk 112 (lb Tryz.f25 2) = true := by kernel_rfl
theorem ok0 : codeOk 112 (lb Tryz.f25 0) = true := by kernel_rfl
def lpD (ts : List Nat) (l : List (Nat × Value)) (h : Heap) : LoopD := (ts, fun _ _ => (.normal, l, h))
abbrev Gv (f : FuncId) (xs : List Value) (h : Heap) (v : Value) (h' : Heap) : Prop := Gives Tryz.prog f xs h (.ret v) h' ∧ ∃ x, h' = h ++ x
def RdL (h : Heap) (b i : Nat) (v : Int) : Prop := readCells h ⟨b, 0 + i * 1, none⟩ 1 = some [.int .i64 v]
def RdG (h : Heap) (v : Int) (k : Bool) : Prop := readCells h ⟨6, 0 + v.toNat * 1, none⟩ 1 = some [.bool k]
def WrG (h : Heap) (v : Int) (h' : Heap) : Prop := writeCells h ⟨6, 0 + v.toNat * 1, none⟩ [.bool true] = some h'

section
variable {x y l m : List Int} {n t u p k : Nat} {g g2 : Nat → Bool} {b r : Bool} {v v1 v2 : Int}
-- the arrays
abbrev CP (x y l m : List Int) (n t u : Nat) (g : Nat → Bool) (b : Bool) (p : Nat) (ax : AX) (e : List (Nat × Value)) : Prop := Comes none ([], true) Tryz.prog 112 2 (lb Tryz.f25 6) (eP n t u b p) (rH x y n l m g) ax e (rH x y n l m g)
theorem pStep (h1 : ilt (p : Int) 24 = true) (h2 : Plain Tryz.prog 53 [.int .i64 p] (pmv (nthP p))) (h3 : Gv 52 [gV 0 n, gV 1 n, .int .i64 t, .int .i64 u, pmv (nthP p)] (rH x y n l m g) (.bool r) (rH x y n l m g)) : CP x y l m n t u g false p .normal (eP n t u r (IntKind.i64.wrap ((p : Int) + 1))) :=
  comes_run (S := { dir := dd [((21, 3), knowD true), ((23, 5), plD (pmv (nthP p))), ((23, 6), ansD (.bool r) id)], know := kk [], loop := noloop }) (k := 60) (ts := tP) (junk := []) (h1 := rH x y n l m g) (l0 := eP n t u r (IntKind.i64.wrap ((p : Int) + 1)))
    (A := (ilt (p : Int) 24 = true) ∧ Plain Tryz.prog 53 [.int .i64 p] (pmv (nthP p)) ∧ Gv 52 [gV 0 n, gV 1 n, .int .i64 t, .int .i64 u, pmv (nthP p)] (rH x y n l m g) (.bool r) (rH x y n l m g) ∧ Dn .normal (eP n t u r (IntKind.i64.wrap ((p : Int) + 1))) (rH x y n l m g)) TY_ok mixed ok6 (Nat.le_of_ble_eq_true rfl) (rH_closed x y n l m g) rfl ⟨h1, h2, h3, dn _ _ _⟩ (by kernel_rfl)
theorem pEndT (h1 : ilt (p : Int) 24 = true) : CP x y l m n t u g true p (.exit 6) (eU n t true u) :=
  comes_run (S := { dir := dd [((21, 3), knowD true)], know := kk [], loop := noloop }) (k := 60) (ts := tU) (junk := []) (h1 := rH x y n l m g) (l0 := eU n t true u) (A := (ilt (p : Int) 24 = true) ∧ Dn (.exit 6) (eU n t true u) (rH x y n l m g)) TY_ok mixed ok6 (Nat.le_of_ble_eq_true rfl) (rH_closed x y n l m g) rfl ⟨h1, dn _ _ _⟩ (by kernel_rfl)
theorem pEndF (h1 : ilt (p : Int) 24 = false) : CP x y l m n t u g b p (.exit 6) (eU n t b u) :=
  comes_run (S := { dir := dd [((21, 3), knowD false)], know := kk [], loop := noloop }) (k := 60) (ts := tU) (junk := []) (h1 := rH x y n l m g) (l0 := eU n t b u) (A := (ilt (p : Int) 24 = false) ∧ Dn (.exit 6) (eU n t b u) (rH x y n l m g)) TY_ok mixed ok6 (Nat.le_of_ble_eq_true rfl) (rH_closed x y n l m g) rfl ⟨h1, dn _ _ _⟩ (by kernel_rfl)

abbrev LP (x y l m : List Int) (n t u : Nat) (g : Nat → Bool) (r : Bool) : Prop := (obs Tryz.prog TY none ([], true) 112).loop 2 (fb Tryz.f25 6) (eP n t u false 0) (rH x y n l m g) .normal (eU n t r u) (rH x y n l m g)
theorem mat_gives (hn : n ≤ 1000) (lx : x.length = 20 * n) (ly : y.length = 20 * n) (hx : chk n x = 0) (hy : chk n y = 0) (ht : t < n) (hu : u < n) {q : Pm} (hq : q.valid = true) : Gv 52 [gV 0 n, gV 1 n, .int .i64 t, .int .i64 u, pmv q] (rH x y n l m g) (.bool (mRes x y n t u q)) (rH x y n l m g) :=
  gives_plain (s := [some 0, some 1]) (matches_sum hn lx ly hx hy ht hu hq) rfl (emb_two (w := false) (w' := false) rfl rfl) ⟨_, _, rfl, sub_gV rfl, _, _, rfl, sub_gV rfl, _, _, rfl, rfl, _, _, rfl, rfl, _, _, rfl, sub_plain _ _ (pmv_plain q), rfl⟩ rfl
theorem loopP (hn : n ≤ 1000) (lx : x.length = 20 * n) (ly : y.length = 20 * n) (hx : chk n x = 0) (hy : chk n y = 0) (ht : t < n) (hu : u < n) : LP x y l m n t u g (fp x y n t u) := by
  have hfb : fb Tryz.f25 6 = .block 6 (.loop (lb Tryz.f25 6)) := by kernel_rfl
  have hstep : ∀ p, p < 24 → CP x y l m n t u g false p .normal (eP n t u (mRes x y n t u (nthP p)) ((p + 1 : Nat) : Int)) := by
    intro p hp
    have h := pStep (x := x) (y := y) (l := l) (m := m) (n := n) (t := t) (u := u) (g := g) (by rw [ilt_eq]; simp; omega) (nth53 hp) (mat_gives hn lx ly hx hy ht hu (nthP_valid hp))
    rwa [wrap_succ (by omega)] at h
  cases hf : fp x y n t u with
  | false =>
    have hall : ∀ p, p < 24 → mRes x y n t u (nthP p) = false := by
      intro p hp
      cases hb : mRes x y n t u (nthP p) with
      | false => rfl
      | true =>
        have : fp x y n t u = true := List.any_eq_true.2 ⟨p, List.mem_range.2 hp, hb⟩
        rw [hf] at this; cases this
    refine comes_loop hfb rfl (fun p : Nat => eP n t u false p) (fun _ => rH x y n l m g) (fun p => p ≤ 24) (fun p => 24 - p) 0 (by omega) rfl rfl ?_
    intro p hp
    by_cases h4 : p < 24
    · have h := hstep p h4
      rw [hall p h4] at h
      exact .inl ⟨p + 1, by omega, by omega, h⟩
    · exact .inr (.inl ⟨rfl, pEndF (by rw [ilt_eq]; simp; omega)⟩)
  | true =>
    obtain ⟨p0, ⟨hp0, hr0⟩, hmin⟩ := least_of (fun p => p < 24 ∧ mRes x y n t u (nthP p) = true) (by
      obtain ⟨p, h1, h2⟩ := List.any_eq_true.1 hf
      exact ⟨p, List.mem_range.1 h1, h2⟩)
    refine comes_loop hfb rfl (fun p : Nat => eP n t u (decide (p = p0 + 1)) p) (fun _ => rH x y n l m g) (fun p => p ≤ p0 + 1) (fun p => 25 - p) 0 (by omega) (by simp) rfl ?_
    intro p hp
    by_cases h4 : p ≤ p0
    · have h := hstep p (by omega)
      refine .inl ⟨p + 1, by omega, by omega, ?_⟩
      have e1 : decide (p = p0 + 1) = false := by simp; omega
      have e2 : decide (p + 1 = p0 + 1) = mRes x y n t u (nthP p) := by
        by_cases e : p = p0
        · subst e; rw [hr0]; simp
        · have : mRes x y n t u (nthP p) = false := by
            cases hb : mRes x y n t u (nthP p) with
            | false => rfl
            | true => have := hmin p ⟨by omega, hb⟩; omega
          rw [this]; simp; omega
      rw [e1, e2]
      exact h
    · have : p = p0 + 1 := by omega
      subst this
      rw [decide_eq_true rfl]
      by_cases h5 : p0 + 1 < 24
      · exact .inr (.inl ⟨rfl, pEndT (by rw [ilt_eq]; simp; omega)⟩)
      · exact .inr (.inl ⟨rfl, pEndF (by rw [ilt_eq]; simp; omega)⟩)

-- the tetrahedra on the other side
abbrev CU (x y l m : List Int) (n t : Nat) (g : Nat → Bool) (b : Bool) (u : Nat) (ax : AX) (e : List (Nat × Value)) (g2 : Nat → Bool) : Prop := Comes none ([], true) Tryz.prog 112 2 (lb Tryz.f25 4) (eU n t b u) (rH x y n l m g) ax e (rH x y n l m g2)
theorem uUsed (h1 : ilt (u : Int) n = true) (h2 : InN u n) (h3 : RdL (rH x y n l m g) 5 u v) (h4 : InI v n) (h5 : RdG (rH x y n l m g) v true) : CU x y l m n t g false u .normal (eU n t false (IntKind.i64.wrap ((u : Int) + 1))) g :=
  comes_run (S := { dir := dd [((17, 5), knowD true), ((19, 3), ixD), ((19, 4), ldC [.int .i64 v]), ((19, 5), ixD), ((19, 6), ldC [.bool true])], know := kk [], loop := noloop }) (k := 60) (ts := tU) (junk := []) (h1 := rH x y n l m g) (l0 := eU n t false (IntKind.i64.wrap ((u : Int) + 1)))
    (A := (ilt (u : Int) n = true) ∧ InN u n ∧ RdL (rH x y n l m g) 5 u v ∧ InI v n ∧ RdG (rH x y n l m g) v true ∧ Dn .normal (eU n t false (IntKind.i64.wrap ((u : Int) + 1))) (rH x y n l m g)) TY_ok mixed ok4 (Nat.le_of_ble_eq_true rfl) (rH_closed x y n l m g) rfl ⟨h1, h2, h3, h4, h5, dn _ _ _⟩ (by kernel_rfl)
theorem uNo (h1 : ilt (u : Int) n = true) (h2 : InN u n) (h3 : RdL (rH x y n l m g) 5 u v) (h4 : InI v n) (h5 : RdG (rH x y n l m g) v false) (h6 : LP x y l m n t u g false) : CU x y l m n t g false u .normal (eU n t false (IntKind.i64.wrap ((u : Int) + 1))) g :=
  comes_run (S := { dir := dd [((17, 5), knowD true), ((19, 3), ixD), ((19, 4), ldC [.int .i64 v]), ((19, 5), ixD), ((19, 6), ldC [.bool false])], know := kk [], loop := loops [(6, lpD tP (eU n t false u) (rH x y n l m g))] }) (k := 60) (ts := tU) (junk := []) (h1 := rH x y n l m g) (l0 := eU n t false (IntKind.i64.wrap ((u : Int) + 1)))
    (A := (ilt (u : Int) n = true) ∧ InN u n ∧ RdL (rH x y n l m g) 5 u v ∧ InI v n ∧ RdG (rH x y n l m g) v false ∧ LP x y l m n t u g false ∧ Dn .normal (eU n t false (IntKind.i64.wrap ((u : Int) + 1))) (rH x y n l m g)) TY_ok mixed ok4 (Nat.le_of_ble_eq_true rfl) (rH_closed x y n l m g) rfl ⟨h1, h2, h3, h4, h5, h6, dn _ _ _⟩ (by kernel_rfl)
theorem uYes (h1 : ilt (u : Int) n = true) (h2 : InN u n) (h3 : RdL (rH x y n l m g) 5 u v) (h4 : InI v n) (h5 : RdG (rH x y n l m g) v false) (h6 : LP x y l m n t u g true) (h7 : WrG (rH x y n l m g) v (rH x y n l m g2)) : CU x y l m n t g false u .normal (eU n t true (IntKind.i64.wrap ((u : Int) + 1))) g2 :=
  comes_run (S := { dir := dd [((17, 5), knowD true), ((19, 3), ixD), ((19, 4), ldC [.int .i64 v]), ((19, 5), ixD), ((19, 6), ldC [.bool false]), ((25, 3), ixD), ((25, 4), ldC [.int .i64 v]), ((25, 5), ixD), ((25, 6), stD (rH x y n l m g2))], know := kk [], loop := loops [(6, lpD tP (eU n t true u) (rH x y n l m g))] }) (k := 60) (ts := tU) (junk := []) (h1 := rH x y n l m g2) (l0 := eU n t true (IntKind.i64.wrap ((u : Int) + 1)))
    (A := (ilt (u : Int) n = true) ∧ InN u n ∧ RdL (rH x y n l m g) 5 u v ∧ InI v n ∧ RdG (rH x y n l m g) v false ∧ LP x y l m n t u g true ∧ InN u n ∧ RdL (rH x y n l m g) 5 u v ∧ InI v n ∧ WrG (rH x y n l m g) v (rH x y n l m g2) ∧ Dn .normal (eU n t true (IntKind.i64.wrap ((u : Int) + 1))) (rH x y n l m g2)) TY_ok mixed ok4 (Nat.le_of_ble_eq_true rfl) (rH_closed x y n l m g2) rfl ⟨h1, h2, h3, h4, h5, h6, h2, h3, h4, h7, dn _ _ _⟩ (by kernel_rfl)
theorem uEndT (h1 : ilt (u : Int) n = true) : CU x y l m n t g true u (.exit 4) (eV n t true) g :=
  comes_run (S := { dir := dd [((17, 5), knowD true)], know := kk [], loop := noloop }) (k := 60) (ts := tV) (junk := []) (h1 := rH x y n l m g) (l0 := eV n t true) (A := (ilt (u : Int) n = true) ∧ Dn (.exit 4) (eV n t true) (rH x y n l m g)) TY_ok mixed ok4 (Nat.le_of_ble_eq_true rfl) (rH_closed x y n l m g) rfl ⟨h1, dn _ _ _⟩ (by kernel_rfl)
theorem uEndF (h1 : ilt (u : Int) n = false) : CU x y l m n t g b u (.exit 4) (eV n t b) g :=
  comes_run (S := { dir := dd [((17, 5), knowD false)], know := kk [], loop := noloop }) (k := 60) (ts := tV) (junk := []) (h1 := rH x y n l m g) (l0 := eV n t b) (A := (ilt (u : Int) n = false) ∧ Dn (.exit 4) (eV n t b) (rH x y n l m g)) TY_ok mixed ok4 (Nat.le_of_ble_eq_true rfl) (rH_closed x y n l m g) rfl ⟨h1, dn _ _ _⟩ (by kernel_rfl)

abbrev LU (x y l m : List Int) (n t : Nat) (g g2 : Nat → Bool) : Prop := (obs Tryz.prog TY none ([], true) 112).loop 2 (fb Tryz.f25 4) (eU n t false 0) (rH x y n l m g) .normal (eV n t true) (rH x y n l m g2)
theorem find_least {P : Nat → Bool} {n u : Nat} (h : (List.range n).find? P = some u) : u < n ∧ P u = true ∧ ∀ j, j < u → P j = false := by
  rw [List.find?_range_eq_some] at h
  exact ⟨List.mem_range.1 h.2.1, h.1, fun j hj => by simpa using h.2.2 j hj⟩
theorem loopU (hn : n ≤ 1000) (lx : x.length = 20 * n) (ly : y.length = 20 * n) (hx : chk n x = 0) (hy : chk n y = 0) (ht : t < n) {w : Nat} (hw : fu x y n g t = some w) : LU x y l (partsL y n) n t g (fset g (labN y n w) true) := by
  have hfb : fb Tryz.f25 4 = .block 4 (.loop (lb Tryz.f25 4)) := by kernel_rfl
  obtain ⟨hwn, hw1, hw2⟩ := find_least hw
  simp only [Bool.and_eq_true, Bool.not_eq_true'] at hw1
  have lm : (partsL y n).length = n := (parts_spec hy n (Nat.le_refl _)).len
  have rd : ∀ u, u < n → RdL (rH x y n l (partsL y n) g) 5 u (cel (partsL y n) u) := fun u hu => rd_int (w := true) rfl (by omega)
  have inl' : ∀ u, u < n → InI (cel (partsL y n) u) n := fun u hu => parts_lab hy hu
  have rg : ∀ u, u < n → RdG (rH x y n l (partsL y n) g) (cel (partsL y n) u) (g (labN y n u)) := fun u hu => rd_bls (b := 6) (w := true) rfl (by have := parts_lab hy hu; omega)
  refine comes_loop hfb rfl (fun u : Nat => eU n t (decide (u = w + 1)) u) (fun u => if u = w + 1 then rH x y n l (partsL y n) (fset g (labN y n w) true) else rH x y n l (partsL y n) g) (fun u => u ≤ w + 1) (fun u => n + 1 - u) 0 (by omega) (by simp) (by simp) ?_
  intro u hu
  by_cases h4 : u ≤ w
  · have e1 : decide (u = w + 1) = false := by simp; omega
    have a1 : ilt (u : Int) n = true := by rw [ilt_eq]; simp; omega
    have a2 : InN u n := ⟨by omega, by omega⟩
    rw [e1, if_neg (show ¬ u = w + 1 by omega)]
    by_cases h5 : u = w
    · subst h5
      have hg := rg u hwn
      rw [hw1.1] at hg
      have hl := loopP (l := l) (m := partsL y n) (g := g) hn lx ly hx hy ht hwn
      rw [hw1.2] at hl
      have hwr : WrG (rH x y n l (partsL y n) g) (cel (partsL y n) u) (rH x y n l (partsL y n) (fset g (labN y n u) true)) := wr_bls (b := 6) rfl (by have := parts_lab hy hwn; omega)
      have h := uYes (t := t) a1 a2 (rd u hwn) (inl' u hwn) hg hl hwr
      rw [wrap_succ (by omega)] at h
      refine .inl ⟨u + 1, by omega, by omega, ?_⟩
      rw [decide_eq_true rfl, if_pos rfl]
      exact h
    · have hj := hw2 u (by omega)
      have e2 : decide (u + 1 = w + 1) = false := by simp; omega
      refine .inl ⟨u + 1, by omega, by omega, ?_⟩
      rw [e2, if_neg (show ¬ u + 1 = w + 1 by omega)]
      cases hg : g (labN y n u) with
      | true =>
        have hgr := rg u (by omega)
        rw [hg] at hgr
        have h := uUsed (t := t) a1 a2 (rd u (by omega)) (inl' u (by omega)) hgr
        rwa [wrap_succ (by omega)] at h
      | false =>
        have hgr := rg u (by omega)
        rw [hg] at hgr
        rw [hg] at hj
        have hfp : fp x y n t u = false := by simpa using hj
        have hl := loopP (l := l) (m := partsL y n) (g := g) hn lx ly hx hy ht (show u < n by omega)
        rw [hfp] at hl
        have h := uNo (t := t) a1 a2 (rd u (by omega)) (inl' u (by omega)) hgr hl
        rwa [wrap_succ (by omega)] at h
  · have : u = w + 1 := by omega
    subst this
    rw [decide_eq_true rfl, if_pos rfl]
    by_cases h5 : w + 1 < n
    · exact .inr (.inl ⟨rfl, uEndT (by rw [ilt_eq]; simp; omega)⟩)
    · exact .inr (.inl ⟨rfl, uEndF (by rw [ilt_eq]; simp; omega)⟩)

-- is it the first of its part?
abbrev CK (x y l m : List Int) (n t : Nat) (g : Nat → Bool) (b : Bool) (k : Nat) (ax : AX) (e : List (Nat × Value)) : Prop := Comes none ([], true) Tryz.prog 112 2 (lb Tryz.f25 2) (eK n t b k) (rH x y n l m g) ax e (rH x y n l m g)
theorem kT (h1 : ilt (k : Int) t = true) (h2 : InN k n) (h3 : RdL (rH x y n l m g) 4 k v1) (h4 : InN t n) (h5 : RdL (rH x y n l m g) 4 t v2) : CK x y l m n t g true k .normal (eK n t (v1 != v2) (IntKind.i64.wrap ((k : Int) + 1))) :=
  comes_run (S := { dir := dd [((13, 4), ixD), ((13, 5), ldC [.int .i64 v1]), ((13, 8), ixD), ((13, 9), ldC [.int .i64 v2])], know := kk [(54, true)], loop := noloop }) (k := 60) (ts := tK) (junk := []) (h1 := rH x y n l m g) (l0 := eK n t (v1 != v2) (IntKind.i64.wrap ((k : Int) + 1)))
    (A := (ilt (k : Int) t = true) ∧ InN k n ∧ RdL (rH x y n l m g) 4 k v1 ∧ InN t n ∧ RdL (rH x y n l m g) 4 t v2 ∧ Dn .normal (eK n t (v1 != v2) (IntKind.i64.wrap ((k : Int) + 1))) (rH x y n l m g)) TY_ok mixed ok2 (Nat.le_of_ble_eq_true rfl) (rH_closed x y n l m g) rfl ⟨h1, h2, h3, h4, h5, dn _ _ _⟩ (by kernel_rfl)
theorem kF (h1 : ilt (k : Int) t = true) : CK x y l m n t g false k .normal (eK n t false (IntKind.i64.wrap ((k : Int) + 1))) :=
  comes_run (S := { dir := dd [], know := kk [(54, true)], loop := noloop }) (k := 60) (ts := tK) (junk := []) (h1 := rH x y n l m g) (l0 := eK n t false (IntKind.i64.wrap ((k : Int) + 1)))
    (A := (ilt (k : Int) t = true) ∧ Dn .normal (eK n t false (IntKind.i64.wrap ((k : Int) + 1))) (rH x y n l m g)) TY_ok mixed ok2 (Nat.le_of_ble_eq_true rfl) (rH_closed x y n l m g) rfl ⟨h1, dn _ _ _⟩ (by kernel_rfl)
theorem kEnd (h1 : ilt (k : Int) t = false) : CK x y l m n t g b k (.exit 2) (eW n t b) :=
  comes_run (S := { dir := dd [], know := kk [(54, false)], loop := noloop }) (k := 60) (ts := tW) (junk := []) (h1 := rH x y n l m g) (l0 := eW n t b) (A := (ilt (k : Int) t = false) ∧ Dn (.exit 2) (eW n t b) (rH x y n l m g)) TY_ok mixed ok2 (Nat.le_of_ble_eq_true rfl) (rH_closed x y n l m g) rfl ⟨h1, dn _ _ _⟩ (by kernel_rfl)
abbrev LK (x y l m : List Int) (n t : Nat) (g : Nat → Bool) (b : Bool) : Prop := (obs Tryz.prog TY none ([], true) 112).loop 2 (fb Tryz.f25 2) (eK n t true 0) (rH x y n l m g) .normal (eW n t b) (rH x y n l m g)
theorem loopK (hn : n ≤ 1000) (hx : chk n x = 0) (ht : t < n) : LK x y (partsL x n) m n t g (isFst x n t) := by
  have hfb : fb Tryz.f25 2 = .block 2 (.loop (lb Tryz.f25 2)) := by kernel_rfl
  have ll : (partsL x n).length = n := (parts_spec hx n (Nat.le_refl _)).len
  refine comes_loop hfb rfl (fun k : Nat => eK n t (fstA x n t k) k) (fun _ => rH x y n (partsL x n) m g) (fun k => k ≤ t) (fun k => t - k) 0 (by omega) rfl rfl ?_
  intro k hk
  by_cases h4 : k < t
  · have a1 : ilt (k : Int) t = true := by rw [ilt_eq]; simp; omega
    refine .inl ⟨k + 1, by omega, by omega, ?_⟩
    simp only [fstA]
    cases hf : fstA x n t k with
    | true =>
      have h := kT (x := x) (y := y) (m := m) (g := g) a1 (⟨by omega, by omega⟩ : InN k n) (rd_int (x := partsL x n) (w := true) rfl (by omega)) (⟨by omega, by omega⟩ : InN t n) (rd_int (x := partsL x n) (w := true) rfl (by omega))
      rw [wrap_succ (by omega)] at h
      rw [Bool.true_and]
      exact h
    | false =>
      have h := kF (x := x) (y := y) (l := partsL x n) (m := m) (n := n) (g := g) a1
      rw [wrap_succ (by omega)] at h
      rw [Bool.false_and]
      exact h
  · have : k = t := by omega
    subst this
    exact .inr (.inl ⟨rfl, kEnd (by rw [ilt_eq]; simp)⟩)

-- all tetrahedra
abbrev CT (x y l m : List Int) (n : Nat) (g : Nat → Bool) (t : Nat) (ax : AX) (e : List (Nat × Value)) (g2 : Nat → Bool) : Prop := Comes none ([], true) Tryz.prog 112 2 (lb Tryz.f25 0) (eT n t) (rH x y n l m g) ax e (rH x y n l m g2)
theorem tSkip (h1 : ilt (t : Int) n = true) (h2 : LK x y l m n t g false) : CT x y l m n g t .normal (eT n (IntKind.i64.wrap ((t : Int) + 1))) g :=
  comes_run (S := { dir := dd [], know := kk [(49, true)], loop := loops [(2, lpD tK (eW n t false) (rH x y n l m g))] }) (k := 60) (ts := tT) (junk := []) (h1 := rH x y n l m g) (l0 := eT n (IntKind.i64.wrap ((t : Int) + 1)))
    (A := (ilt (t : Int) n = true) ∧ LK x y l m n t g false ∧ Dn .normal (eT n (IntKind.i64.wrap ((t : Int) + 1))) (rH x y n l m g)) TY_ok mixed ok0 (Nat.le_of_ble_eq_true rfl) (rH_closed x y n l m g) rfl ⟨h1, h2, dn _ _ _⟩ (by kernel_rfl)
theorem tFirst (h1 : ilt (t : Int) n = true) (h2 : LK x y l m n t g true) (h3 : LU x y l m n t g g2) : CT x y l m n g t .normal (eT n (IntKind.i64.wrap ((t : Int) + 1))) g2 :=
  comes_run (S := { dir := dd [], know := kk [(49, true)], loop := loops [(2, lpD tK (eW n t true) (rH x y n l m g)), (4, lpD tU (eV n t true) (rH x y n l m g2))] }) (k := 60) (ts := tT) (junk := []) (h1 := rH x y n l m g2) (l0 := eT n (IntKind.i64.wrap ((t : Int) + 1)))
    (A := (ilt (t : Int) n = true) ∧ LK x y l m n t g true ∧ LU x y l m n t g g2 ∧ Dn .normal (eT n (IntKind.i64.wrap ((t : Int) + 1))) (rH x y n l m g2)) TY_ok mixed ok0 (Nat.le_of_ble_eq_true rfl) (rH_closed x y n l m g2) rfl ⟨h1, h2, h3, dn _ _ _⟩ (by kernel_rfl)
theorem tEnd (h1 : ilt (t : Int) n = false) : CT x y l m n g t (.exit 0) [] g :=
  comes_run (S := { dir := dd [], know := kk [(49, false)], loop := noloop }) (k := 60) (ts := []) (junk := []) (h1 := rH x y n l m g) (l0 := []) (A := (ilt (t : Int) n = false) ∧ Dn (.exit 0) [] (rH x y n l m g)) TY_ok mixed ok0 (Nat.le_of_ble_eq_true rfl) (rH_closed x y n l m g) rfl ⟨h1, dn _ _ _⟩ (by kernel_rfl)
abbrev LT (x y l m : List Int) (n : Nat) (g2 : Nat → Bool) : Prop := (obs Tryz.prog TY none ([], true) 112).loop 2 (fb Tryz.f25 0) (eT n 0) (rH x y n l m (fun _ => false)) .normal [] (rH x y n l m g2)
theorem loopT {R : Nat → Nat → Pm → Prop} (hn : n ≤ 1000) (lx : x.length = 20 * n) (ly : y.length = 20 * n) (hx : chk n x = 0) (hy : chk n y = 0) (L : Loc2 x n y n R) (hall : ∀ v, v < n → ∃ w q, R v w q) : LT x y (partsL x n) (partsL y n) n (rst x y n n) := by
  have hfb : fb Tryz.f25 0 = .block 0 (.loop (lb Tryz.f25 0)) := by kernel_rfl
  refine comes_loop hfb rfl (fun t : Nat => eT n t) (fun t => rH x y n (partsL x n) (partsL y n) (rst x y n t)) (fun t => t ≤ n) (fun t => n - t) 0 (by omega) rfl rfl ?_
  intro t ht
  by_cases h4 : t < n
  · have a1 : ilt (t : Int) n = true := by rw [ilt_eq]; simp; omega
    have hk := loopK (y := y) (m := partsL y n) (g := rst x y n t) hn hx h4
    refine .inl ⟨t + 1, by omega, by omega, ?_⟩
    cases hf : isFst x n t with
    | false =>
      rw [hf] at hk
      have e : rst x y n (t + 1) = rst x y n t := by simp only [rst]; rw [if_neg (by rw [hf]; simp)]
      rw [e]
      have h := tSkip a1 hk
      rwa [wrap_succ (by omega)] at h
    | true =>
      rw [hf] at hk
      obtain ⟨w, hw⟩ := fu_some hx hy L hall h4 hf
      have e : rst x y n (t + 1) = fset (rst x y n t) (labN y n w) true := by
        conv => lhs; simp only [rst]
        rw [if_pos hf, hw]
      rw [e]
      have h := tFirst a1 hk (loopU hn lx ly hx hy h4 hw)
      rwa [wrap_succ (by omega)] at h
  · have : t = n := by omega
    subst this
    exact .inr (.inl ⟨rfl, tEnd (by rw [ilt_eq]; simp)⟩)
end

def bH (x y : List Int) (n : Nat) : Heap := [some ⟨ints x, false⟩, some ⟨ints y, false⟩, some ⟨[gS 0 n], true⟩, some ⟨[gS 1 n], true⟩]
def Mk (x y : List Int) (n : Nat) : Prop := aMakeSlice TY 70 (.int .i64 n) (.int .i64 n) (bH x y n ++ [some ⟨ints (partsL x n), true⟩] ++ [some ⟨ints (partsL y n), true⟩]) = some (oS 6 n, rH x y n (partsL x n) (partsL y n) (fun _ => false))
end RM

/-- THE CONTRACT of Renumbered, where there is a renumbering. -/
theorem renumbered_sum {x y : List Int} {n : Nat} {R : Nat → Nat → Pm → Prop} (hn : n ≤ 1000) (lx : x.length = 20 * n) (ly : y.length = 20 * n) (hx : chk n x = 0) (hy : chk n y = 0) (L : Loc2 x n y n R) (hall : ∀ v, v < n → ∃ w q, R v w q) :
    Sum Tryz.prog 25 [gV 0 n, gV 1 n] [some ⟨ints x, false⟩, some ⟨ints y, false⟩] fun o _ => o = .ret (.bool true) := by
  have g1 : RM.Gv 10 [gV 0 n] (RM.bH x y n) (.int .i64 0) (RM.bH x y n) := gives_one (hx ▸ rcheck_sum lx) rfl (w := false) rfl
  have g2 : RM.Gv 10 [gV 1 n] (RM.bH x y n) (.int .i64 0) (RM.bH x y n) := gives_one (hy ▸ rcheck_sum ly) rfl (w := false) rfl
  have g3 : RM.Gv 51 [gV 0 n] (RM.bH x y n) (PV.pRes (oS 4 n) 0) (RM.bH x y n ++ [some ⟨ints (partsL x n), true⟩]) := gives_one_any (rparts_ok hn lx hx) (w := false) rfl rfl
  have g4 : RM.Gv 51 [gV 1 n] (RM.bH x y n ++ [some ⟨ints (partsL x n), true⟩]) (PV.pRes (oS 5 n) 0) (RM.bH x y n ++ [some ⟨ints (partsL x n), true⟩] ++ [some ⟨ints (partsL y n), true⟩]) := gives_one_any (rparts_ok hn ly hy) (w := false) rfl rfl
  have a1 : ((n : Int) != (n : Int)) = false := by simp
  exact tFun_sum (S := { dir := dd [((1, 8), knowD false), ((1, 9), ansD (.int .i64 0) id), ((1, 14), ansD (.int .i64 0) id), ((3, 1), (none, .ans fun _ _ => (PV.pRes (oS 4 n) 0, RM.bH x y n ++ [some ⟨ints (partsL x n), true⟩]))), ((4, 1), (none, .ans fun _ _ => (PV.pRes (oS 5 n) 0, RM.bH x y n ++ [some ⟨ints (partsL x n), true⟩] ++ [some ⟨ints (partsL y n), true⟩]))), ((5, 2), (none, .op fun _ _ => (oS 6 n, RM.rH x y n (partsL x n) (partsL y n) (fun _ => false))))], know := kk [], loop := loops [(0, RM.lpD RM.tT [] (RM.rH x y n (partsL x n) (partsL y n) (rst x y n n)))] }) (k := 60) TY_ok mixed fn25_ok
    (A := (((n : Int) != (n : Int)) = false) ∧ RM.Gv 10 [gV 0 n] (RM.bH x y n) (.int .i64 0) (RM.bH x y n) ∧ RM.Gv 10 [gV 1 n] (RM.bH x y n) (.int .i64 0) (RM.bH x y n) ∧ RM.Gv 51 [gV 0 n] (RM.bH x y n) (PV.pRes (oS 4 n) 0) (RM.bH x y n ++ [some ⟨ints (partsL x n), true⟩]) ∧
      RM.Gv 51 [gV 1 n] (RM.bH x y n ++ [some ⟨ints (partsL x n), true⟩]) (PV.pRes (oS 5 n) 0) (RM.bH x y n ++ [some ⟨ints (partsL x n), true⟩] ++ [some ⟨ints (partsL y n), true⟩]) ∧ RM.Mk x y n ∧ RM.LT x y (partsL x n) (partsL y n) n (rst x y n n) ∧ AOut.ret (.bool true) = .ret (.bool true))
    ⟨a1, g1, g2, g3, g4, mk70 hn, RM.loopT hn lx ly hx hy L hall, rfl⟩ (by kernel_rfl)
end Go.Ab
