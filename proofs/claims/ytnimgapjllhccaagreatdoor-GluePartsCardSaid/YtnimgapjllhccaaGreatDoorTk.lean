/- What the laws share: sane, small at one gluing. Conditions: none beyond the given model and program. -/
import Derived.Test.YtnimgapjllhccaaGreatDoorPv
import Derived.Test.YtnimgapjllhccaaGreatDoorSb
namespace Go.Ab
open Go.Proofs

theorem sane_gives (h : Heap) : Gives Tryz.prog 8 [] h (.ret (.bool true)) h ∧ ∃ x, h = h ++ x :=
  ⟨.inr ⟨_, sane_sum (roH h), fun o h2 hr => .inl ⟨.bool true, hr.1, rfl, rfl, rfl⟩⟩, [], by simp⟩

-- small at one gluing
namespace S1
def H (n : Nat) : Heap := [some ⟨[gS 1 n], false⟩, none]
theorem H_closed (n : Nat) : closedH 2 (H n) := by
  intro b hb
  simp only [H, List.mem_cons, List.not_mem_nil, or_false, reduceCtorEq, Option.some.injEq] at hb
  subst hb
  exact belowL_sub _ rfl
def eT (i : Nat) : List (Nat × Value) := [(0, .slice (some ⟨0, 0, none⟩) 1 1), (3, .int .i64 i)]
theorem ok0 : codeOk 17 (lb Tryz.f9 0) = true := by kernel_rfl
def B (n i : Nat) (ax : AX) (l : List (Nat × Value)) : Prop := Comes none ([], true) Tryz.prog 17 2 (lb Tryz.f9 0) (eT i) (H n) ax l (H n)
def eF : List (Nat × Value) := [(2, .bool false)]
theorem b0s {n : Nat} (h : ilt 12 (n : Int) = false) : B n 0 .normal (eT 1) :=
  comes_run (S := { dir := dd [], know := kk [(16, false)], loop := noloop }) (k := 60) (ts := [0, 3]) (junk := []) (A := ilt 12 (n : Int) = false ∧ Dn .normal (eT 1) (H n)) TY_ok mixed ok0 (Nat.le_refl _) (H_closed n) rfl ⟨h, dn _ _ _⟩ (by kernel_rfl)
theorem b0b {n : Nat} (h : ilt 12 (n : Int) = true) : B n 0 .ret eF :=
  comes_run (S := { dir := dd [], know := kk [(16, true)], loop := noloop }) (k := 60) (ts := [2]) (junk := []) (A := ilt 12 (n : Int) = true ∧ Dn .ret eF (H n)) TY_ok mixed ok0 (Nat.le_refl _) (H_closed n) rfl ⟨h, dn _ _ _⟩ (by kernel_rfl)
theorem b2 {n : Nat} : B n 1 (.exit 0) [] :=
  comes_run (S := { dir := dd [], know := kk [], loop := noloop }) (k := 60) (ts := []) (junk := []) (A := Dn (.exit 0) [] (H n)) TY_ok mixed ok0 (Nat.le_refl _) (H_closed n) rfl (dn _ _ _) (by kernel_rfl)
theorem loop_ok (n : Nat) : (n ≤ 12 → (obs Tryz.prog TY none ([], true) 17).loop 2 (fb Tryz.f9 0) (eT 0) (H n) .normal [] (H n)) ∧
    (¬ n ≤ 12 → (obs Tryz.prog TY none ([], true) 17).loop 2 (fb Tryz.f9 0) (eT 0) (H n) .ret eF (H n)) := by
  have hfb : fb Tryz.f9 0 = .block 0 (.loop (lb Tryz.f9 0)) := by kernel_rfl
  refine ⟨fun h => ?_, fun h => ?_⟩
  · refine comes_loop hfb rfl (fun t => eT t) (fun _ => H n) (fun t => t ≤ 1) (fun t => 1 - t) 0 (by omega) rfl rfl ?_
    intro t ht
    have : t = 0 ∨ t = 1 := by omega
    rcases this with rfl | rfl
    · exact .inl ⟨1, by omega, by omega, b0s (by rw [ilt_eq]; simp; omega)⟩
    · exact .inr (.inl ⟨rfl, b2⟩)
  · refine comes_loop hfb rfl (fun t => eT t) (fun _ => H n) (fun t => t = 0) (fun t => 1 - t) 0 rfl rfl rfl ?_
    rintro t rfl
    exact .inr (.inr ⟨rfl, b0b (by rw [ilt_eq]; simp; omega)⟩)
end S1
theorem small1_sum (n : Nat) : Sum Tryz.prog 9 [.slice (some ⟨0, 0, none⟩) 1 1] (S1.H n) fun o _ => o = .ret (.bool (decide (n ≤ 12))) := by
  by_cases h : n ≤ 12
  · rw [show decide (n ≤ 12) = true by simpa using h]
    exact tFun_sum (S := { dir := dd [], know := kk [], loop := loops [(0, ([0, 3], fun _ _ => (.normal, [], S1.H n)))] }) (k := 60) TY_ok mixed fn9_ok
      (A := (obs Tryz.prog TY none ([], true) 17).loop 2 (fb Tryz.f9 0) (S1.eT 0) (S1.H n) .normal [] (S1.H n) ∧ AOut.ret (.bool true) = .ret (.bool true)) ⟨(S1.loop_ok n).1 h, rfl⟩ (by kernel_rfl)
  · rw [show decide (n ≤ 12) = false by simpa using h]
    exact tFun_sum (S := { dir := dd [], know := kk [], loop := loops [(0, ([0, 3], fun _ _ => (.ret, S1.eF, S1.H n)))] }) (k := 60) TY_ok mixed fn9_ok
      (A := (obs Tryz.prog TY none ([], true) 17).loop 2 (fb Tryz.f9 0) (S1.eT 0) (S1.H n) .ret S1.eF (S1.H n) ∧ AOut.ret (.bool false) = .ret (.bool false)) ⟨(S1.loop_ok n).2 h, rfl⟩ (by kernel_rfl)

namespace TL
abbrev Gv (f : FuncId) (xs : List Value) (h : Heap) (v : Value) (h' : Heap) : Prop := Gives Tryz.prog f xs h (.ret v) h' ∧ ∃ x, h' = h ++ x
def an (v : Value) (h : Heap) : Option Bool × Td := (none, .ans fun _ _ => (v, h))
def nB (z : List Int) : Option Blk := some ⟨ints z, true⟩
def cB (v : Value) : Option Blk := some ⟨[v], true⟩
end TL
end Go.Ab
