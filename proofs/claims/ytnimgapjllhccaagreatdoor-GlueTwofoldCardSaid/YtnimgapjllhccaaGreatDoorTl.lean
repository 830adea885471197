/- The law GlueTwofold returns true over every heap that shows its argument. Conditions: none beyond the given model and program. -/
import Derived.Test.YtnimgapjllhccaaGreatDoorTp
import Derived.Test.YtnimgapjllhccaaGreatDoorSb
import Derived.Test.YtnimgapjllhccaaGreatDoorPl
namespace Go.Ab
open Go.Proofs

theorem fn3_ok : Tryz.prog.funcs[3]? = some Tryz.f3 ∧ (Tryz.f3.name == "runtime.NumGoroutine") = false ∧ ∀ c, Tryz.f3.body = some c → codeOk Tryz.f3.ntmps c = true :=
  ⟨Tryz.func3, by kernel_rfl, codeOk_of (by kernel_rfl)⟩
theorem sane_gives (h : Heap) : Gives Tryz.prog 8 [] h (.ret (.bool true)) h ∧ ∃ x, h = h ++ x :=
  ⟨.inr ⟨_, sane_sum (roH h), fun o h2 hr => .inl ⟨.bool true, hr.1, rfl, rfl, rfl⟩⟩, [], by simp⟩

-- small at one gluing
namespace S1
def H (n : Nat) : Heap := [some ⟨[gS 1 n], false⟩, none]
theorem H_closed (n : Nat) : closedH 2 (H n) := by
  intro b hb
  simp only [H, List.mem_cons, List.not_mem_nil, or_false, reduceCtorEq, Option.some.injEq] at hb
  subst hb
  exact belowL_sub _ rfl
def eT (i : Nat) : List (Nat × Value) := [(0, .slice (some ⟨0, 0, none⟩) 1 1), (3, .int .i64 i)]
theorem ok0 : codeOk 17 (lb Tryz.f9 0) = true := by kernel_rfl
def B (n i : Nat) (ax : AX) (l : List (Nat × Value)) : Prop := Comes none ([], true) Tryz.prog 17 2 (lb Tryz.f9 0) (eT i) (H n) ax l (H n)
def eF : List (Nat × Value) := [(2, .bool false)]
theorem b0s {n : Nat} (h : ilt 12 (n : Int) = false) : B n 0 .normal (eT 1) :=
  comes_run (S := { dir := dd [], know := kk [(16, false)], loop := noloop }) (k := 60) (ts := [0, 3]) (junk := []) (A := ilt 12 (n : Int) = false ∧ Dn .normal (eT 1) (H n)) TY_ok mixed ok0 (Nat.le_refl _) (H_closed n) rfl ⟨h, dn _ _ _⟩ (by kernel_rfl)
theorem b0b {n : Nat} (h : ilt 12 (n : Int) = true) : B n 0 .ret eF :=
  comes_run (S := { dir := dd [], know := kk [(16, true)], loop := noloop }) (k := 60) (ts := [2]) (junk := []) (A := ilt 12 (n : Int) = true ∧ Dn .ret eF (H n)) TY_ok mixed ok0 (Nat.le_refl _) (H_closed n) rfl ⟨h, dn _ _ _⟩ (by kernel_rfl)
theorem b2 {n : Nat} : B n 1 (.exit 0) [] :=
  comes_run (S := { dir := dd [], know := kk [], loop := noloop }) (k := 60) (ts := []) (junk := []) (A := Dn (.exit 0) [] (H n)) TY_ok mixed ok0 (Nat.le_refl _) (H_closed n) rfl (dn _ _ _) (by kernel_rfl)
theorem loop_ok (n : Nat) : (n ≤ 12 → (obs Tryz.prog TY none ([], true) 17).loop 2 (fb Tryz.f9 0) (eT 0) (H n) .normal [] (H n)) ∧
    (¬ n ≤ 12 → (obs Tryz.prog TY none ([], true) 17).loop 2 (fb Tryz.f9 0) (eT 0) (H n) .ret eF (H n)) := by
  have hfb : fb Tryz.f9 0 = .block 0 (.loop (lb Tryz.f9 0)) := by kernel_rfl
  refine ⟨fun h => ?_, fun h => ?_⟩
  · refine comes_loop hfb rfl (fun t => eT t) (fun _ => H n) (fun t => t ≤ 1) (fun t => 1 - t) 0 (by omega) rfl rfl ?_
    intro t ht
    have : t = 0 ∨ t = 1 := by omega
    rcases this with rfl | rfl
    · exact .inl ⟨1, by omega, by omega, b0s (by rw [ilt_eq]; simp; omega)⟩
    · exact .inr (.inl ⟨rfl, b2⟩)
  · refine comes_loop hfb rfl (fun t => eT t) (fun _ => H n) (fun t => t = 0) (fun t => 1 - t) 0 rfl rfl rfl ?_
    rintro t rfl
    exact .inr (.inr ⟨rfl, b0b (by rw [ilt_eq]; simp; omega)⟩)
end S1
theorem small1_sum (n : Nat) : Sum Tryz.prog 9 [.slice (some ⟨0, 0, none⟩) 1 1] (S1.H n) fun o _ => o = .ret (.bool (decide (n ≤ 12))) := by
  by_cases h : n ≤ 12
  · rw [show decide (n ≤ 12) = true by simpa using h]
    exact tFun_sum (S := { dir := dd [], know := kk [], loop := loops [(0, ([0, 3], fun _ _ => (.normal, [], S1.H n)))] }) (k := 60) TY_ok mixed fn9_ok
      (A := (obs Tryz.prog TY none ([], true) 17).loop 2 (fb Tryz.f9 0) (S1.eT 0) (S1.H n) .normal [] (S1.H n) ∧ AOut.ret (.bool true) = .ret (.bool true)) ⟨(S1.loop_ok n).1 h, rfl⟩ (by kernel_rfl)
  · rw [show decide (n ≤ 12) = false by simpa using h]
    exact tFun_sum (S := { dir := dd [], know := kk [], loop := loops [(0, ([0, 3], fun _ _ => (.ret, S1.eF, S1.H n)))] }) (k := 60) TY_ok mixed fn9_ok
      (A := (obs Tryz.prog TY none ([], true) 17).loop 2 (fb Tryz.f9 0) (S1.eT 0) (S1.H n) .ret S1.eF (S1.H n) ∧ AOut.ret (.bool false) = .ret (.bool false)) ⟨(S1.loop_ok n).2 h, rfl⟩ (by kernel_rfl)

-- a result that is a list of no tetrahedra
theorem vrel_empty {m : Map} {b z : Nat} {w : Value} (h : VRel m (.slice (some ⟨b, 0, none⟩) 0 0) w) : VRel m (.slice (some ⟨b, 0, none⟩) 0 z) w := by
  cases h with
  | slice i o n z c L hL hn hz hc => omega
  | sliceNil i o z => exact .sliceNil _ _ _
  | slice0 i o z a => exact .slice0 _ _ _ _
theorem vrel_gNo {m : Map} {v' : Value} (h : VRel m GU.gNo v') : VRel m (gRes 0 0 0) v' := by
  unfold GU.gNo at h
  cases h with
  | tuple _ xs' h1 h2 =>
    have hs : VRels m [.agg ⟨[sE]⟩, .int .i64 0] xs' := ⟨h1, h2⟩
    obtain ⟨v0, r0, rfl, a1, hs⟩ := hs.cons_inv
    obtain ⟨v1, r1, rfl, a2, hs⟩ := hs.cons_inv
    obtain rfl := hs.nil_inv
    cases a1 with
    | agg _ ys h3 h4 =>
      have hy : VRels m [sE] ys := ⟨h3, h4⟩
      obtain ⟨w, r, rfl, a3, hy⟩ := hy.cons_inv
      obtain rfl := hy.nil_inv
      have b1 : VRel m (gV 0 0) (.agg ⟨[w]⟩) := by
        have hz : VRels m [gS 0 0] [w] := .cons (vrel_empty a3) (.nil _)
        exact .agg _ _ hz.1 hz.2
      have hz : VRels m [gV 0 0, .int .i64 0] [.agg ⟨[w]⟩, v1] := .cons b1 (.cons a2 (.nil _))
      exact .tuple _ _ hz.1 hz.2
theorem Sum.gNo {f : FuncId} {xs : List Value} {h : Heap} (hs : Sum Tryz.prog f xs h fun o h2 => o = .ret GU.gNo ∧ h2 = h) : Sum Tryz.prog f xs h fun o h2 => o = .ret (gRes 0 0 0) ∧ h2 = h := by
  refine ⟨hs.1, fun m w args' rel hv => (hs.2 m w args' rel hv).mono ?_⟩
  rintro en w' ⟨m', out, h', ⟨rfl, rfl⟩, hout, tr⟩
  refine ⟨m', .ret (gRes 0 0 0), h', ⟨rfl, rfl⟩, ?_, tr⟩
  cases en <;> simp only [OutRel] at hout ⊢
  exact vrel_gNo hout
theorem gives_one_same {f : FuncId} {x : List Int} {n b : Nat} {h : Heap} {w : Bool} {v v' : Value} (hs : Sum Tryz.prog f [gV 0 n] [some ⟨ints x, false⟩] fun o h2 => o = .ret v ∧ h2 = [some ⟨ints x, false⟩]) (hb : hblk h b = some ⟨ints x, w⟩) (hv : ren (backF [some b] h.length) v = v') :
    Gives Tryz.prog f [gV b n] h (.ret v') h ∧ ∃ y, h = h ++ y := by
  have := gives_new (new := []) (hs.mono fun o h2 hr => ⟨hr.1, by rw [hr.2]; simp⟩) rfl (emb_one hb) (xs := [gV b n]) ⟨_, _, rfl, sub_gV rfl, rfl⟩
  rw [hv, List.map_nil, List.append_nil] at this
  exact this

namespace TL
abbrev Gv (f : FuncId) (xs : List Value) (h : Heap) (v : Value) (h' : Heap) : Prop := Gives Tryz.prog f xs h (.ret v) h' ∧ ∃ x, h' = h ++ x
def an (v : Value) (h : Heap) : Option Bool × Td := (none, .ans fun _ _ => (v, h))
def nB (z : List Int) : Option Blk := some ⟨ints z, true⟩
def cB (v : Value) : Option Blk := some ⟨[v], true⟩
def h0 (x : List Int) (n : Nat) : Heap := [some ⟨ints x, false⟩, some ⟨[gS 0 n], true⟩]
def hX (x : List Int) (n : Nat) : Heap := [some ⟨ints x, false⟩, some ⟨[gS 0 n], true⟩, some ⟨[gS 0 n], true⟩]
abbrev smA : Value := .slice (some ⟨2, 0, none⟩) 1 1
theorem small_gives {x : List Int} {n : Nat} {r : Bool} (hr : decide (n ≤ 12) = r) : Gv 9 [smA] (hX x n) (.bool r) (hX x n) := by
  subst hr
  refine gives_plain (s := [some 2, some 0]) (small1_sum n) rfl ⟨rfl, ?_, ?_⟩ ⟨_, _, rfl, .inr ⟨2, rfl, rfl⟩, rfl⟩ rfl
  · intro i b2 hi
    match i with
    | 0 => simp [hblk, S1.H] at hi; subst hi; exact .inl ⟨2, ⟨[gS 0 n], false⟩, rfl, rfl, ⟨_, _, rfl, sub_gS rfl, rfl⟩, fun hh => by cases hh⟩
    | 1 => simp [hblk, S1.H] at hi
    | i + 2 => simp [hblk, S1.H] at hi
  · intro i j k b2 b2' _ hi ho
    match i with
    | 0 => simp [hblk, S1.H] at hi; subst hi; cases ho
    | 1 => simp [hblk, S1.H] at hi
    | i + 2 => simp [hblk, S1.H] at hi
theorem runSmall {x : List Int} {n : Nat} (g1 : Gv 8 [] (h0 x n) (.bool true) (h0 x n)) (g2 : Gv 9 [smA] (hX x n) (.bool false) (hX x n)) : Sum Tryz.prog 3 [gV 0 n] [some ⟨ints x, false⟩] fun out _ => out = .ret (.bool true) :=
  tFun_sum (S := { dir := dd [((1, 0), ansD (.bool true) id), ((3, 2), ansD (.bool false) id)], know := kk [], loop := noloop }) (k := 60) TY_ok mixed fn3_ok
    (A := Gv 8 [] (h0 x n) (.bool true) (h0 x n) ∧ Gv 9 [smA] (hX x n) (.bool false) (hX x n) ∧ AOut.ret (.bool true) = .ret (.bool true)) ⟨g1, g2, rfl⟩ (by kernel_rfl)
theorem runBad {x : List Int} {n : Nat} (g1 : Gv 8 [] (h0 x n) (.bool true) (h0 x n)) (g2 : Gv 9 [smA] (hX x n) (.bool true) (hX x n)) (g3 : Gv 10 [gV 0 n] (hX x n) (.int .i64 7) (hX x n)) : Sum Tryz.prog 3 [gV 0 n] [some ⟨ints x, false⟩] fun out _ => out = .ret (.bool true) :=
  tFun_sum (S := { dir := dd [((1, 0), ansD (.bool true) id), ((3, 2), ansD (.bool true) id), ((3, 6), ansD (.int .i64 7) id)], know := kk [], loop := noloop }) (k := 60) TY_ok mixed fn3_ok
    (A := Gv 8 [] (h0 x n) (.bool true) (h0 x n) ∧ Gv 9 [smA] (hX x n) (.bool true) (hX x n) ∧ Gv 10 [gV 0 n] (hX x n) (.int .i64 7) (hX x n) ∧ AOut.ret (.bool true) = .ret (.bool true)) ⟨g1, g2, g3, rfl⟩ (by kernel_rfl)

-- the double has no free faces
def hL (x zt zd : List Int) (n m : Nat) : Heap := [some ⟨ints x, false⟩, some ⟨[gS 0 n], true⟩, some ⟨[gS 0 n], true⟩, nB zt, cB (gS 3 m), nB zd, cB (gS 5 m)]
theorem hL_closed (x zt zd : List Int) (n m : Nat) : closedH 7 (hL x zt zd n m) :=
  closedH_cons (subL_plain _ _ (ints_plain x)) (closedH_cons (belowL_sub _ rfl) (closedH_cons (belowL_sub _ rfl) (closedH_cons (subL_plain _ _ (ints_plain zt)) (closedH_cons (belowL_sub _ rfl) (closedH_cons (subL_plain _ _ (ints_plain zd)) (closedH_cons (belowL_sub _ rfl) closedH_nil))))))
def eL (i : Int) : List (Nat × Value) := [(1, pt 1), (3, pt 4), (5, pt 6), (7, it i)]
def eM : List (Nat × Value) := [(1, pt 1), (3, pt 4), (5, pt 6)]
theorem ok0 : codeOk 150 (lb Tryz.f3 0) = true := by kernel_rfl
def RdC (h : Heap) (i f : Nat) (zd : List Int) : Prop := readCells h ⟨5, 0 + i * 20 + f * 5 + 0, none⟩ 1 = some [.int .i64 (cel zd (0 + i * 20 + f * 5 + 0))]
def RdK (i f : Nat) (zd : List Int) : Prop := ilt (cel zd (0 + i * 20 + f * 5 + 0)) 0 = false
abbrev CL (x zt zd : List Int) (n m i : Nat) (ax : AX) (l : List (Nat × Value)) : Prop := Comes none ([], true) Tryz.prog 150 1 (lb Tryz.f3 0) (eL i) (hL x zt zd n m) ax l (hL x zt zd n m)
theorem lStep {x zt zd : List Int} {n m i : Nat} (h1 : ilt (i : Int) m = true) (h2 : InN i m) (r : ∀ f, f < 4 → RdC (hL x zt zd n m) i f zd) (k : ∀ f, f < 4 → RdK i f zd) : CL x zt zd n m i .normal (eL (IntKind.i64.wrap ((i : Int) + 1))) :=
  comes_run (S := { dir := dd [((15, 4), ixD), ((15, 7), (none, .ld fun _ a => [.int .i64 (cel zd a.off)]))], know := kk [(61, true), (76, false)], loop := noloop }) (k := 90) (ts := [1, 3, 5, 7]) (junk := []) (h1 := hL x zt zd n m) (l0 := eL (IntKind.i64.wrap ((i : Int) + 1)))
    (A := (ilt (i : Int) m = true) ∧ InN i m ∧ RdC (hL x zt zd n m) i 0 zd ∧ RdK i 0 zd ∧ InN i m ∧ RdC (hL x zt zd n m) i 1 zd ∧ RdK i 1 zd ∧ InN i m ∧ RdC (hL x zt zd n m) i 2 zd ∧ RdK i 2 zd ∧ InN i m ∧ RdC (hL x zt zd n m) i 3 zd ∧ RdK i 3 zd ∧ Dn .normal (eL (IntKind.i64.wrap ((i : Int) + 1))) (hL x zt zd n m))
    TY_ok mixed ok0 (Nat.le_of_ble_eq_true rfl) (hL_closed x zt zd n m) rfl ⟨h1, h2, r 0 (by omega), k 0 (by omega), h2, r 1 (by omega), k 1 (by omega), h2, r 2 (by omega), k 2 (by omega), h2, r 3 (by omega), k 3 (by omega), dn _ _ _⟩ (by kernel_rfl)
theorem lEnd {x zt zd : List Int} {n m i : Nat} (h1 : ilt (i : Int) m = false) : CL x zt zd n m i (.exit 0) eM :=
  comes_run (S := { dir := dd [], know := kk [(61, false)], loop := noloop }) (k := 60) (ts := [1, 3, 5]) (junk := []) (h1 := hL x zt zd n m) (l0 := eM) (A := (ilt (i : Int) m = false) ∧ Dn (.exit 0) eM (hL x zt zd n m)) TY_ok mixed ok0 (Nat.le_of_ble_eq_true rfl) (hL_closed x zt zd n m) rfl ⟨h1, dn _ _ _⟩ (by kernel_rfl)
abbrev LL (x zt zd : List Int) (n m : Nat) : Prop := (obs Tryz.prog TY none ([], true) 150).loop 1 (fb Tryz.f3 0) (eL 0) (hL x zt zd n m) .normal eM (hL x zt zd n m)
theorem loopL {x zt zd : List Int} {n m : Nat} (hm : m ≤ 1000) (hz : zd.length = 20 * m) (hfull : ∀ t f, t < m → f < 4 → 0 ≤ (fc zd t f).u) : LL x zt zd n m := by
  have hfb : fb Tryz.f3 0 = .block 0 (.loop (lb Tryz.f3 0)) := by kernel_rfl
  refine comes_loop hfb rfl (fun i : Nat => eL i) (fun _ => hL x zt zd n m) (fun i => i ≤ m) (fun i => m - i) 0 (by omega) rfl rfl ?_
  intro i hi
  by_cases h4 : i < m
  · have h := lStep (x := x) (zt := zt) (n := n) (by rw [ilt_eq]; simp; omega) ⟨by omega, by omega⟩ (fun f hf => rd_cell (x := zd) (w := true) rfl (by omega)) (fun f hf => by
      unfold RdK
      have := hfull i f h4 hf
      rw [show 0 + i * 20 + f * 5 + 0 = 20 * i + 5 * f by omega]
      exact ilt_nonneg.2 this)
    rw [wrap_succ (by omega)] at h
    exact .inl ⟨i + 1, by omega, by omega, h⟩
  · have : i = m := by omega
    subst this
    exact .inr (.inl ⟨rfl, lEnd (by rw [ilt_eq]; simp)⟩)

theorem runYM {x zt zd o1 o2 o3 l1 l2 : List Int} {n m : Nat} {c1 : Int} (g0 : Gv 8 [] (h0 x n) (.bool true) (h0 x n)) (g1 : Gv 9 [smA] (hX x n) (.bool true) (hX x n)) (g2 : Gv 10 [gV 0 n] (hX x n) (.int .i64 0) (hX x n)) (g3 : Gv 11 [gV 0 n] (hX x n) (gRes 3 m 0) (hX x n ++ [nB zt])) (g4 : Gv 12 [gV 0 n] (hX x n ++ [nB zt, cB (gS 3 m)]) (gRes 5 m 0) (hX x n ++ [nB zt, cB (gS 3 m), nB zd])) (g5 : Gv 13 [gV 3 m] (hX x n ++ [nB zt, cB (gS 3 m), nB zd, cB (gS 5 m)]) (.int .i64 0) (hX x n ++ [nB zt, cB (gS 3 m), nB zd, cB (gS 5 m)])) (g6 : Gv 13 [gV 5 m] (hX x n ++ [nB zt, cB (gS 3 m), nB zd, cB (gS 5 m)]) (.int .i64 0) (hX x n ++ [nB zt, cB (gS 3 m), nB zd, cB (gS 5 m)])) (g7 : LL x zt zd n m) (g8 : Gv 14 [gV 0 n] (hX x n ++ [nB zt, cB (gS 3 m), nB zd, cB (gS 5 m)]) (OR.oRes (oS 7 n) true 0) (hX x n ++ [nB zt, cB (gS 3 m), nB zd, cB (gS 5 m), nB o1])) (g9 : Gv 14 [gV 3 m] (hX x n ++ [nB zt, cB (gS 3 m), nB zd, cB (gS 5 m), nB o1]) (OR.oRes (oS 8 m) true 0) (hX x n ++ [nB zt, cB (gS 3 m), nB zd, cB (gS 5 m), nB o1, nB o2])) (g10 : Gv 14 [gV 5 m] (hX x n ++ [nB zt, cB (gS 3 m), nB zd, cB (gS 5 m), nB o1, nB o2]) (OR.oRes (oS 9 m) true 0) (hX x n ++ [nB zt, cB (gS 3 m), nB zd, cB (gS 5 m), nB o1, nB o2, nB o3])) (g11 : Gv 15 [gV 0 n] (hX x n ++ [nB zt, cB (gS 3 m), nB zd, cB (gS 5 m), nB o1, nB o2, nB o3]) (PV.pRes (oS 10 n) 0) (hX x n ++ [nB zt, cB (gS 3 m), nB zd, cB (gS 5 m), nB o1, nB o2, nB o3, nB l1])) (g12 : Gv 15 [gV 3 m] (hX x n ++ [nB zt, cB (gS 3 m), nB zd, cB (gS 5 m), nB o1, nB o2, nB o3, nB l1]) (PV.pRes (oS 11 m) 0) (hX x n ++ [nB zt, cB (gS 3 m), nB zd, cB (gS 5 m), nB o1, nB o2, nB o3, nB l1, nB l2])) (g13 : Gv 16 [oS 10 n] (hX x n ++ [nB zt, cB (gS 3 m), nB zd, cB (gS 5 m), nB o1, nB o2, nB o3, nB l1, nB l2]) (.int .i64 c1) (hX x n ++ [nB zt, cB (gS 3 m), nB zd, cB (gS 5 m), nB o1, nB o2, nB o3, nB l1, nB l2])) (g14 : (c1 != 1) = true) : Sum Tryz.prog 3 [gV 0 n] [some ⟨ints x, false⟩] fun out _ => out = .ret (.bool true) :=
  tFun_sum (S := { dir := dd [((1, 0), ansD (.bool true) id), ((3, 2), ansD (.bool true) id), ((3, 6), ansD (.int .i64 0) id), ((5, 1), an (gRes 3 m 0) (hX x n ++ [nB zt])), ((6, 1), an (gRes 5 m 0) (hX x n ++ [nB zt, cB (gS 3 m), nB zd])), ((7, 8), an (.int .i64 0) (hX x n ++ [nB zt, cB (gS 3 m), nB zd, cB (gS 5 m)])), ((7, 13), an (.int .i64 0) (hX x n ++ [nB zt, cB (gS 3 m), nB zd, cB (gS 5 m)])), ((17, 1), an (OR.oRes (oS 7 n) true 0) (hX x n ++ [nB zt, cB (gS 3 m), nB zd, cB (gS 5 m), nB o1])), ((18, 1), an (OR.oRes (oS 8 m) true 0) (hX x n ++ [nB zt, cB (gS 3 m), nB zd, cB (gS 5 m), nB o1, nB o2])), ((19, 1), an (OR.oRes (oS 9 m) true 0) (hX x n ++ [nB zt, cB (gS 3 m), nB zd, cB (gS 5 m), nB o1, nB o2, nB o3])), ((22, 1), an (PV.pRes (oS 10 n) 0) (hX x n ++ [nB zt, cB (gS 3 m), nB zd, cB (gS 5 m), nB o1, nB o2, nB o3, nB l1])), ((23, 1), an (PV.pRes (oS 11 m) 0) (hX x n ++ [nB zt, cB (gS 3 m), nB zd, cB (gS 5 m), nB o1, nB o2, nB o3, nB l1, nB l2])), ((26, 1), an (.int .i64 c1) (hX x n ++ [nB zt, cB (gS 3 m), nB zd, cB (gS 5 m), nB o1, nB o2, nB o3, nB l1, nB l2])), ((26, 4), knowD true)], know := kk [], loop := loops [(0, ([1, 3, 5, 7], fun _ _ => (.normal, eM, hL x zt zd n m)))] }) (k := 90) TY_ok mixed fn3_ok
    (A := (Gv 8 [] (h0 x n) (.bool true) (h0 x n)) ∧ (Gv 9 [smA] (hX x n) (.bool true) (hX x n)) ∧ (Gv 10 [gV 0 n] (hX x n) (.int .i64 0) (hX x n)) ∧ (Gv 11 [gV 0 n] (hX x n) (gRes 3 m 0) (hX x n ++ [nB zt])) ∧ (Gv 12 [gV 0 n] (hX x n ++ [nB zt, cB (gS 3 m)]) (gRes 5 m 0) (hX x n ++ [nB zt, cB (gS 3 m), nB zd])) ∧ (Gv 13 [gV 3 m] (hX x n ++ [nB zt, cB (gS 3 m), nB zd, cB (gS 5 m)]) (.int .i64 0) (hX x n ++ [nB zt, cB (gS 3 m), nB zd, cB (gS 5 m)])) ∧ (Gv 13 [gV 5 m] (hX x n ++ [nB zt, cB (gS 3 m), nB zd, cB (gS 5 m)]) (.int .i64 0) (hX x n ++ [nB zt, cB (gS 3 m), nB zd, cB (gS 5 m)])) ∧ (LL x zt zd n m) ∧ (Gv 14 [gV 0 n] (hX x n ++ [nB zt, cB (gS 3 m), nB zd, cB (gS 5 m)]) (OR.oRes (oS 7 n) true 0) (hX x n ++ [nB zt, cB (gS 3 m), nB zd, cB (gS 5 m), nB o1])) ∧ (Gv 14 [gV 3 m] (hX x n ++ [nB zt, cB (gS 3 m), nB zd, cB (gS 5 m), nB o1]) (OR.oRes (oS 8 m) true 0) (hX x n ++ [nB zt, cB (gS 3 m), nB zd, cB (gS 5 m), nB o1, nB o2])) ∧ (Gv 14 [gV 5 m] (hX x n ++ [nB zt, cB (gS 3 m), nB zd, cB (gS 5 m), nB o1, nB o2]) (OR.oRes (oS 9 m) true 0) (hX x n ++ [nB zt, cB (gS 3 m), nB zd, cB (gS 5 m), nB o1, nB o2, nB o3])) ∧ (Gv 15 [gV 0 n] (hX x n ++ [nB zt, cB (gS 3 m), nB zd, cB (gS 5 m), nB o1, nB o2, nB o3]) (PV.pRes (oS 10 n) 0) (hX x n ++ [nB zt, cB (gS 3 m), nB zd, cB (gS 5 m), nB o1, nB o2, nB o3, nB l1])) ∧ (Gv 15 [gV 3 m] (hX x n ++ [nB zt, cB (gS 3 m), nB zd, cB (gS 5 m), nB o1, nB o2, nB o3, nB l1]) (PV.pRes (oS 11 m) 0) (hX x n ++ [nB zt, cB (gS 3 m), nB zd, cB (gS 5 m), nB o1, nB o2, nB o3, nB l1, nB l2])) ∧ (Gv 16 [oS 10 n] (hX x n ++ [nB zt, cB (gS 3 m), nB zd, cB (gS 5 m), nB o1, nB o2, nB o3, nB l1, nB l2]) (.int .i64 c1) (hX x n ++ [nB zt, cB (gS 3 m), nB zd, cB (gS 5 m), nB o1, nB o2, nB o3, nB l1, nB l2])) ∧ ((c1 != 1) = true) ∧ AOut.ret (.bool true) = .ret (.bool true)) ⟨g0, g1, g2, g3, g4, g5, g6, g7, g8, g9, g10, g11, g12, g13, g14, rfl⟩ (by kernel_rfl)

theorem runYO {x zt zd o1 o2 o3 l1 l2 : List Int} {n m : Nat} {c1 c2 : Int} (g0 : Gv 8 [] (h0 x n) (.bool true) (h0 x n)) (g1 : Gv 9 [smA] (hX x n) (.bool true) (hX x n)) (g2 : Gv 10 [gV 0 n] (hX x n) (.int .i64 0) (hX x n)) (g3 : Gv 11 [gV 0 n] (hX x n) (gRes 3 m 0) (hX x n ++ [nB zt])) (g4 : Gv 12 [gV 0 n] (hX x n ++ [nB zt, cB (gS 3 m)]) (gRes 5 m 0) (hX x n ++ [nB zt, cB (gS 3 m), nB zd])) (g5 : Gv 13 [gV 3 m] (hX x n ++ [nB zt, cB (gS 3 m), nB zd, cB (gS 5 m)]) (.int .i64 0) (hX x n ++ [nB zt, cB (gS 3 m), nB zd, cB (gS 5 m)])) (g6 : Gv 13 [gV 5 m] (hX x n ++ [nB zt, cB (gS 3 m), nB zd, cB (gS 5 m)]) (.int .i64 0) (hX x n ++ [nB zt, cB (gS 3 m), nB zd, cB (gS 5 m)])) (g7 : LL x zt zd n m) (g8 : Gv 14 [gV 0 n] (hX x n ++ [nB zt, cB (gS 3 m), nB zd, cB (gS 5 m)]) (OR.oRes (oS 7 n) true 0) (hX x n ++ [nB zt, cB (gS 3 m), nB zd, cB (gS 5 m), nB o1])) (g9 : Gv 14 [gV 3 m] (hX x n ++ [nB zt, cB (gS 3 m), nB zd, cB (gS 5 m), nB o1]) (OR.oRes (oS 8 m) true 0) (hX x n ++ [nB zt, cB (gS 3 m), nB zd, cB (gS 5 m), nB o1, nB o2])) (g10 : Gv 14 [gV 5 m] (hX x n ++ [nB zt, cB (gS 3 m), nB zd, cB (gS 5 m), nB o1, nB o2]) (OR.oRes (oS 9 m) true 0) (hX x n ++ [nB zt, cB (gS 3 m), nB zd, cB (gS 5 m), nB o1, nB o2, nB o3])) (g11 : Gv 15 [gV 0 n] (hX x n ++ [nB zt, cB (gS 3 m), nB zd, cB (gS 5 m), nB o1, nB o2, nB o3]) (PV.pRes (oS 10 n) 0) (hX x n ++ [nB zt, cB (gS 3 m), nB zd, cB (gS 5 m), nB o1, nB o2, nB o3, nB l1])) (g12 : Gv 15 [gV 3 m] (hX x n ++ [nB zt, cB (gS 3 m), nB zd, cB (gS 5 m), nB o1, nB o2, nB o3, nB l1]) (PV.pRes (oS 11 m) 0) (hX x n ++ [nB zt, cB (gS 3 m), nB zd, cB (gS 5 m), nB o1, nB o2, nB o3, nB l1, nB l2])) (g13 : Gv 16 [oS 10 n] (hX x n ++ [nB zt, cB (gS 3 m), nB zd, cB (gS 5 m), nB o1, nB o2, nB o3, nB l1, nB l2]) (.int .i64 c1) (hX x n ++ [nB zt, cB (gS 3 m), nB zd, cB (gS 5 m), nB o1, nB o2, nB o3, nB l1, nB l2])) (g14 : (c1 != 1) = false) (g15 : Gv 16 [oS 11 m] (hX x n ++ [nB zt, cB (gS 3 m), nB zd, cB (gS 5 m), nB o1, nB o2, nB o3, nB l1, nB l2]) (.int .i64 c2) (hX x n ++ [nB zt, cB (gS 3 m), nB zd, cB (gS 5 m), nB o1, nB o2, nB o3, nB l1, nB l2])) (g16 : (c2 == 2) = true) : Sum Tryz.prog 3 [gV 0 n] [some ⟨ints x, false⟩] fun out _ => out = .ret (.bool true) :=
  tFun_sum (S := { dir := dd [((1, 0), ansD (.bool true) id), ((3, 2), ansD (.bool true) id), ((3, 6), ansD (.int .i64 0) id), ((5, 1), an (gRes 3 m 0) (hX x n ++ [nB zt])), ((6, 1), an (gRes 5 m 0) (hX x n ++ [nB zt, cB (gS 3 m), nB zd])), ((7, 8), an (.int .i64 0) (hX x n ++ [nB zt, cB (gS 3 m), nB zd, cB (gS 5 m)])), ((7, 13), an (.int .i64 0) (hX x n ++ [nB zt, cB (gS 3 m), nB zd, cB (gS 5 m)])), ((17, 1), an (OR.oRes (oS 7 n) true 0) (hX x n ++ [nB zt, cB (gS 3 m), nB zd, cB (gS 5 m), nB o1])), ((18, 1), an (OR.oRes (oS 8 m) true 0) (hX x n ++ [nB zt, cB (gS 3 m), nB zd, cB (gS 5 m), nB o1, nB o2])), ((19, 1), an (OR.oRes (oS 9 m) true 0) (hX x n ++ [nB zt, cB (gS 3 m), nB zd, cB (gS 5 m), nB o1, nB o2, nB o3])), ((22, 1), an (PV.pRes (oS 10 n) 0) (hX x n ++ [nB zt, cB (gS 3 m), nB zd, cB (gS 5 m), nB o1, nB o2, nB o3, nB l1])), ((23, 1), an (PV.pRes (oS 11 m) 0) (hX x n ++ [nB zt, cB (gS 3 m), nB zd, cB (gS 5 m), nB o1, nB o2, nB o3, nB l1, nB l2])), ((26, 1), an (.int .i64 c1) (hX x n ++ [nB zt, cB (gS 3 m), nB zd, cB (gS 5 m), nB o1, nB o2, nB o3, nB l1, nB l2])), ((26, 4), knowD false), ((26, 7), an (.int .i64 c2) (hX x n ++ [nB zt, cB (gS 3 m), nB zd, cB (gS 5 m), nB o1, nB o2, nB o3, nB l1, nB l2])), ((26, 12), knowD true)], know := kk [], loop := loops [(0, ([1, 3, 5, 7], fun _ _ => (.normal, eM, hL x zt zd n m)))] }) (k := 90) TY_ok mixed fn3_ok
    (A := (Gv 8 [] (h0 x n) (.bool true) (h0 x n)) ∧ (Gv 9 [smA] (hX x n) (.bool true) (hX x n)) ∧ (Gv 10 [gV 0 n] (hX x n) (.int .i64 0) (hX x n)) ∧ (Gv 11 [gV 0 n] (hX x n) (gRes 3 m 0) (hX x n ++ [nB zt])) ∧ (Gv 12 [gV 0 n] (hX x n ++ [nB zt, cB (gS 3 m)]) (gRes 5 m 0) (hX x n ++ [nB zt, cB (gS 3 m), nB zd])) ∧ (Gv 13 [gV 3 m] (hX x n ++ [nB zt, cB (gS 3 m), nB zd, cB (gS 5 m)]) (.int .i64 0) (hX x n ++ [nB zt, cB (gS 3 m), nB zd, cB (gS 5 m)])) ∧ (Gv 13 [gV 5 m] (hX x n ++ [nB zt, cB (gS 3 m), nB zd, cB (gS 5 m)]) (.int .i64 0) (hX x n ++ [nB zt, cB (gS 3 m), nB zd, cB (gS 5 m)])) ∧ (LL x zt zd n m) ∧ (Gv 14 [gV 0 n] (hX x n ++ [nB zt, cB (gS 3 m), nB zd, cB (gS 5 m)]) (OR.oRes (oS 7 n) true 0) (hX x n ++ [nB zt, cB (gS 3 m), nB zd, cB (gS 5 m), nB o1])) ∧ (Gv 14 [gV 3 m] (hX x n ++ [nB zt, cB (gS 3 m), nB zd, cB (gS 5 m), nB o1]) (OR.oRes (oS 8 m) true 0) (hX x n ++ [nB zt, cB (gS 3 m), nB zd, cB (gS 5 m), nB o1, nB o2])) ∧ (Gv 14 [gV 5 m] (hX x n ++ [nB zt, cB (gS 3 m), nB zd, cB (gS 5 m), nB o1, nB o2]) (OR.oRes (oS 9 m) true 0) (hX x n ++ [nB zt, cB (gS 3 m), nB zd, cB (gS 5 m), nB o1, nB o2, nB o3])) ∧ (Gv 15 [gV 0 n] (hX x n ++ [nB zt, cB (gS 3 m), nB zd, cB (gS 5 m), nB o1, nB o2, nB o3]) (PV.pRes (oS 10 n) 0) (hX x n ++ [nB zt, cB (gS 3 m), nB zd, cB (gS 5 m), nB o1, nB o2, nB o3, nB l1])) ∧ (Gv 15 [gV 3 m] (hX x n ++ [nB zt, cB (gS 3 m), nB zd, cB (gS 5 m), nB o1, nB o2, nB o3, nB l1]) (PV.pRes (oS 11 m) 0) (hX x n ++ [nB zt, cB (gS 3 m), nB zd, cB (gS 5 m), nB o1, nB o2, nB o3, nB l1, nB l2])) ∧ (Gv 16 [oS 10 n] (hX x n ++ [nB zt, cB (gS 3 m), nB zd, cB (gS 5 m), nB o1, nB o2, nB o3, nB l1, nB l2]) (.int .i64 c1) (hX x n ++ [nB zt, cB (gS 3 m), nB zd, cB (gS 5 m), nB o1, nB o2, nB o3, nB l1, nB l2])) ∧ ((c1 != 1) = false) ∧ (Gv 16 [oS 11 m] (hX x n ++ [nB zt, cB (gS 3 m), nB zd, cB (gS 5 m), nB o1, nB o2, nB o3, nB l1, nB l2]) (.int .i64 c2) (hX x n ++ [nB zt, cB (gS 3 m), nB zd, cB (gS 5 m), nB o1, nB o2, nB o3, nB l1, nB l2])) ∧ ((c2 == 2) = true) ∧ AOut.ret (.bool true) = .ret (.bool true)) ⟨g0, g1, g2, g3, g4, g5, g6, g7, g8, g9, g10, g11, g12, g13, g14, g15, g16, rfl⟩ (by kernel_rfl)

theorem runNM {x zt zd o2 l1 l2 : List Int} {n m : Nat} {c1 : Int} (g0 : Gv 8 [] (h0 x n) (.bool true) (h0 x n)) (g1 : Gv 9 [smA] (hX x n) (.bool true) (hX x n)) (g2 : Gv 10 [gV 0 n] (hX x n) (.int .i64 0) (hX x n)) (g3 : Gv 11 [gV 0 n] (hX x n) (gRes 3 m 0) (hX x n ++ [nB zt])) (g4 : Gv 12 [gV 0 n] (hX x n ++ [nB zt, cB (gS 3 m)]) (gRes 5 m 0) (hX x n ++ [nB zt, cB (gS 3 m), nB zd])) (g5 : Gv 13 [gV 3 m] (hX x n ++ [nB zt, cB (gS 3 m), nB zd, cB (gS 5 m)]) (.int .i64 0) (hX x n ++ [nB zt, cB (gS 3 m), nB zd, cB (gS 5 m)])) (g6 : Gv 13 [gV 5 m] (hX x n ++ [nB zt, cB (gS 3 m), nB zd, cB (gS 5 m)]) (.int .i64 0) (hX x n ++ [nB zt, cB (gS 3 m), nB zd, cB (gS 5 m)])) (g7 : LL x zt zd n m) (g8 : Gv 14 [gV 0 n] (hX x n ++ [nB zt, cB (gS 3 m), nB zd, cB (gS 5 m)]) (OR.oRes (.slice none 0 0) false 0) (hX x n ++ [nB zt, cB (gS 3 m), nB zd, cB (gS 5 m)])) (g9 : Gv 14 [gV 3 m] (hX x n ++ [nB zt, cB (gS 3 m), nB zd, cB (gS 5 m)]) (OR.oRes (oS 7 m) true 0) (hX x n ++ [nB zt, cB (gS 3 m), nB zd, cB (gS 5 m), nB o2])) (g10 : Gv 14 [gV 5 m] (hX x n ++ [nB zt, cB (gS 3 m), nB zd, cB (gS 5 m), nB o2]) (OR.oRes (.slice none 0 0) false 0) (hX x n ++ [nB zt, cB (gS 3 m), nB zd, cB (gS 5 m), nB o2])) (g11 : Gv 15 [gV 0 n] (hX x n ++ [nB zt, cB (gS 3 m), nB zd, cB (gS 5 m), nB o2]) (PV.pRes (oS 8 n) 0) (hX x n ++ [nB zt, cB (gS 3 m), nB zd, cB (gS 5 m), nB o2, nB l1])) (g12 : Gv 15 [gV 3 m] (hX x n ++ [nB zt, cB (gS 3 m), nB zd, cB (gS 5 m), nB o2, nB l1]) (PV.pRes (oS 9 m) 0) (hX x n ++ [nB zt, cB (gS 3 m), nB zd, cB (gS 5 m), nB o2, nB l1, nB l2])) (g13 : Gv 16 [oS 8 n] (hX x n ++ [nB zt, cB (gS 3 m), nB zd, cB (gS 5 m), nB o2, nB l1, nB l2]) (.int .i64 c1) (hX x n ++ [nB zt, cB (gS 3 m), nB zd, cB (gS 5 m), nB o2, nB l1, nB l2])) (g14 : (c1 != 1) = true) : Sum Tryz.prog 3 [gV 0 n] [some ⟨ints x, false⟩] fun out _ => out = .ret (.bool true) :=
  tFun_sum (S := { dir := dd [((1, 0), ansD (.bool true) id), ((3, 2), ansD (.bool true) id), ((3, 6), ansD (.int .i64 0) id), ((5, 1), an (gRes 3 m 0) (hX x n ++ [nB zt])), ((6, 1), an (gRes 5 m 0) (hX x n ++ [nB zt, cB (gS 3 m), nB zd])), ((7, 8), an (.int .i64 0) (hX x n ++ [nB zt, cB (gS 3 m), nB zd, cB (gS 5 m)])), ((7, 13), an (.int .i64 0) (hX x n ++ [nB zt, cB (gS 3 m), nB zd, cB (gS 5 m)])), ((17, 1), an (OR.oRes (.slice none 0 0) false 0) (hX x n ++ [nB zt, cB (gS 3 m), nB zd, cB (gS 5 m)])), ((18, 1), an (OR.oRes (oS 7 m) true 0) (hX x n ++ [nB zt, cB (gS 3 m), nB zd, cB (gS 5 m), nB o2])), ((19, 1), an (OR.oRes (.slice none 0 0) false 0) (hX x n ++ [nB zt, cB (gS 3 m), nB zd, cB (gS 5 m), nB o2])), ((22, 1), an (PV.pRes (oS 8 n) 0) (hX x n ++ [nB zt, cB (gS 3 m), nB zd, cB (gS 5 m), nB o2, nB l1])), ((23, 1), an (PV.pRes (oS 9 m) 0) (hX x n ++ [nB zt, cB (gS 3 m), nB zd, cB (gS 5 m), nB o2, nB l1, nB l2])), ((26, 1), an (.int .i64 c1) (hX x n ++ [nB zt, cB (gS 3 m), nB zd, cB (gS 5 m), nB o2, nB l1, nB l2])), ((26, 4), knowD true)], know := kk [], loop := loops [(0, ([1, 3, 5, 7], fun _ _ => (.normal, eM, hL x zt zd n m)))] }) (k := 90) TY_ok mixed fn3_ok
    (A := (Gv 8 [] (h0 x n) (.bool true) (h0 x n)) ∧ (Gv 9 [smA] (hX x n) (.bool true) (hX x n)) ∧ (Gv 10 [gV 0 n] (hX x n) (.int .i64 0) (hX x n)) ∧ (Gv 11 [gV 0 n] (hX x n) (gRes 3 m 0) (hX x n ++ [nB zt])) ∧ (Gv 12 [gV 0 n] (hX x n ++ [nB zt, cB (gS 3 m)]) (gRes 5 m 0) (hX x n ++ [nB zt, cB (gS 3 m), nB zd])) ∧ (Gv 13 [gV 3 m] (hX x n ++ [nB zt, cB (gS 3 m), nB zd, cB (gS 5 m)]) (.int .i64 0) (hX x n ++ [nB zt, cB (gS 3 m), nB zd, cB (gS 5 m)])) ∧ (Gv 13 [gV 5 m] (hX x n ++ [nB zt, cB (gS 3 m), nB zd, cB (gS 5 m)]) (.int .i64 0) (hX x n ++ [nB zt, cB (gS 3 m), nB zd, cB (gS 5 m)])) ∧ (LL x zt zd n m) ∧ (Gv 14 [gV 0 n] (hX x n ++ [nB zt, cB (gS 3 m), nB zd, cB (gS 5 m)]) (OR.oRes (.slice none 0 0) false 0) (hX x n ++ [nB zt, cB (gS 3 m), nB zd, cB (gS 5 m)])) ∧ (Gv 14 [gV 3 m] (hX x n ++ [nB zt, cB (gS 3 m), nB zd, cB (gS 5 m)]) (OR.oRes (oS 7 m) true 0) (hX x n ++ [nB zt, cB (gS 3 m), nB zd, cB (gS 5 m), nB o2])) ∧ (Gv 14 [gV 5 m] (hX x n ++ [nB zt, cB (gS 3 m), nB zd, cB (gS 5 m), nB o2]) (OR.oRes (.slice none 0 0) false 0) (hX x n ++ [nB zt, cB (gS 3 m), nB zd, cB (gS 5 m), nB o2])) ∧ (Gv 15 [gV 0 n] (hX x n ++ [nB zt, cB (gS 3 m), nB zd, cB (gS 5 m), nB o2]) (PV.pRes (oS 8 n) 0) (hX x n ++ [nB zt, cB (gS 3 m), nB zd, cB (gS 5 m), nB o2, nB l1])) ∧ (Gv 15 [gV 3 m] (hX x n ++ [nB zt, cB (gS 3 m), nB zd, cB (gS 5 m), nB o2, nB l1]) (PV.pRes (oS 9 m) 0) (hX x n ++ [nB zt, cB (gS 3 m), nB zd, cB (gS 5 m), nB o2, nB l1, nB l2])) ∧ (Gv 16 [oS 8 n] (hX x n ++ [nB zt, cB (gS 3 m), nB zd, cB (gS 5 m), nB o2, nB l1, nB l2]) (.int .i64 c1) (hX x n ++ [nB zt, cB (gS 3 m), nB zd, cB (gS 5 m), nB o2, nB l1, nB l2])) ∧ ((c1 != 1) = true) ∧ AOut.ret (.bool true) = .ret (.bool true)) ⟨g0, g1, g2, g3, g4, g5, g6, g7, g8, g9, g10, g11, g12, g13, g14, rfl⟩ (by kernel_rfl)

theorem runNO {x zt zd o2 l1 l2 : List Int} {n m : Nat} {c1 c2 : Int} (g0 : Gv 8 [] (h0 x n) (.bool true) (h0 x n)) (g1 : Gv 9 [smA] (hX x n) (.bool true) (hX x n)) (g2 : Gv 10 [gV 0 n] (hX x n) (.int .i64 0) (hX x n)) (g3 : Gv 11 [gV 0 n] (hX x n) (gRes 3 m 0) (hX x n ++ [nB zt])) (g4 : Gv 12 [gV 0 n] (hX x n ++ [nB zt, cB (gS 3 m)]) (gRes 5 m 0) (hX x n ++ [nB zt, cB (gS 3 m), nB zd])) (g5 : Gv 13 [gV 3 m] (hX x n ++ [nB zt, cB (gS 3 m), nB zd, cB (gS 5 m)]) (.int .i64 0) (hX x n ++ [nB zt, cB (gS 3 m), nB zd, cB (gS 5 m)])) (g6 : Gv 13 [gV 5 m] (hX x n ++ [nB zt, cB (gS 3 m), nB zd, cB (gS 5 m)]) (.int .i64 0) (hX x n ++ [nB zt, cB (gS 3 m), nB zd, cB (gS 5 m)])) (g7 : LL x zt zd n m) (g8 : Gv 14 [gV 0 n] (hX x n ++ [nB zt, cB (gS 3 m), nB zd, cB (gS 5 m)]) (OR.oRes (.slice none 0 0) false 0) (hX x n ++ [nB zt, cB (gS 3 m), nB zd, cB (gS 5 m)])) (g9 : Gv 14 [gV 3 m] (hX x n ++ [nB zt, cB (gS 3 m), nB zd, cB (gS 5 m)]) (OR.oRes (oS 7 m) true 0) (hX x n ++ [nB zt, cB (gS 3 m), nB zd, cB (gS 5 m), nB o2])) (g10 : Gv 14 [gV 5 m] (hX x n ++ [nB zt, cB (gS 3 m), nB zd, cB (gS 5 m), nB o2]) (OR.oRes (.slice none 0 0) false 0) (hX x n ++ [nB zt, cB (gS 3 m), nB zd, cB (gS 5 m), nB o2])) (g11 : Gv 15 [gV 0 n] (hX x n ++ [nB zt, cB (gS 3 m), nB zd, cB (gS 5 m), nB o2]) (PV.pRes (oS 8 n) 0) (hX x n ++ [nB zt, cB (gS 3 m), nB zd, cB (gS 5 m), nB o2, nB l1])) (g12 : Gv 15 [gV 3 m] (hX x n ++ [nB zt, cB (gS 3 m), nB zd, cB (gS 5 m), nB o2, nB l1]) (PV.pRes (oS 9 m) 0) (hX x n ++ [nB zt, cB (gS 3 m), nB zd, cB (gS 5 m), nB o2, nB l1, nB l2])) (g13 : Gv 16 [oS 8 n] (hX x n ++ [nB zt, cB (gS 3 m), nB zd, cB (gS 5 m), nB o2, nB l1, nB l2]) (.int .i64 c1) (hX x n ++ [nB zt, cB (gS 3 m), nB zd, cB (gS 5 m), nB o2, nB l1, nB l2])) (g14 : (c1 != 1) = false) (g15 : Gv 16 [oS 9 m] (hX x n ++ [nB zt, cB (gS 3 m), nB zd, cB (gS 5 m), nB o2, nB l1, nB l2]) (.int .i64 c2) (hX x n ++ [nB zt, cB (gS 3 m), nB zd, cB (gS 5 m), nB o2, nB l1, nB l2])) (gl : AOut.ret (.bool (c2 == 1)) = .ret (.bool true)) : Sum Tryz.prog 3 [gV 0 n] [some ⟨ints x, false⟩] fun out _ => out = .ret (.bool true) :=
  tFun_sum (S := { dir := dd [((1, 0), ansD (.bool true) id), ((3, 2), ansD (.bool true) id), ((3, 6), ansD (.int .i64 0) id), ((5, 1), an (gRes 3 m 0) (hX x n ++ [nB zt])), ((6, 1), an (gRes 5 m 0) (hX x n ++ [nB zt, cB (gS 3 m), nB zd])), ((7, 8), an (.int .i64 0) (hX x n ++ [nB zt, cB (gS 3 m), nB zd, cB (gS 5 m)])), ((7, 13), an (.int .i64 0) (hX x n ++ [nB zt, cB (gS 3 m), nB zd, cB (gS 5 m)])), ((17, 1), an (OR.oRes (.slice none 0 0) false 0) (hX x n ++ [nB zt, cB (gS 3 m), nB zd, cB (gS 5 m)])), ((18, 1), an (OR.oRes (oS 7 m) true 0) (hX x n ++ [nB zt, cB (gS 3 m), nB zd, cB (gS 5 m), nB o2])), ((19, 1), an (OR.oRes (.slice none 0 0) false 0) (hX x n ++ [nB zt, cB (gS 3 m), nB zd, cB (gS 5 m), nB o2])), ((22, 1), an (PV.pRes (oS 8 n) 0) (hX x n ++ [nB zt, cB (gS 3 m), nB zd, cB (gS 5 m), nB o2, nB l1])), ((23, 1), an (PV.pRes (oS 9 m) 0) (hX x n ++ [nB zt, cB (gS 3 m), nB zd, cB (gS 5 m), nB o2, nB l1, nB l2])), ((26, 1), an (.int .i64 c1) (hX x n ++ [nB zt, cB (gS 3 m), nB zd, cB (gS 5 m), nB o2, nB l1, nB l2])), ((26, 4), knowD false), ((26, 16), an (.int .i64 c2) (hX x n ++ [nB zt, cB (gS 3 m), nB zd, cB (gS 5 m), nB o2, nB l1, nB l2]))], know := kk [], loop := loops [(0, ([1, 3, 5, 7], fun _ _ => (.normal, eM, hL x zt zd n m)))] }) (k := 90) TY_ok mixed fn3_ok
    (A := (Gv 8 [] (h0 x n) (.bool true) (h0 x n)) ∧ (Gv 9 [smA] (hX x n) (.bool true) (hX x n)) ∧ (Gv 10 [gV 0 n] (hX x n) (.int .i64 0) (hX x n)) ∧ (Gv 11 [gV 0 n] (hX x n) (gRes 3 m 0) (hX x n ++ [nB zt])) ∧ (Gv 12 [gV 0 n] (hX x n ++ [nB zt, cB (gS 3 m)]) (gRes 5 m 0) (hX x n ++ [nB zt, cB (gS 3 m), nB zd])) ∧ (Gv 13 [gV 3 m] (hX x n ++ [nB zt, cB (gS 3 m), nB zd, cB (gS 5 m)]) (.int .i64 0) (hX x n ++ [nB zt, cB (gS 3 m), nB zd, cB (gS 5 m)])) ∧ (Gv 13 [gV 5 m] (hX x n ++ [nB zt, cB (gS 3 m), nB zd, cB (gS 5 m)]) (.int .i64 0) (hX x n ++ [nB zt, cB (gS 3 m), nB zd, cB (gS 5 m)])) ∧ (LL x zt zd n m) ∧ (Gv 14 [gV 0 n] (hX x n ++ [nB zt, cB (gS 3 m), nB zd, cB (gS 5 m)]) (OR.oRes (.slice none 0 0) false 0) (hX x n ++ [nB zt, cB (gS 3 m), nB zd, cB (gS 5 m)])) ∧ (Gv 14 [gV 3 m] (hX x n ++ [nB zt, cB (gS 3 m), nB zd, cB (gS 5 m)]) (OR.oRes (oS 7 m) true 0) (hX x n ++ [nB zt, cB (gS 3 m), nB zd, cB (gS 5 m), nB o2])) ∧ (Gv 14 [gV 5 m] (hX x n ++ [nB zt, cB (gS 3 m), nB zd, cB (gS 5 m), nB o2]) (OR.oRes (.slice none 0 0) false 0) (hX x n ++ [nB zt, cB (gS 3 m), nB zd, cB (gS 5 m), nB o2])) ∧ (Gv 15 [gV 0 n] (hX x n ++ [nB zt, cB (gS 3 m), nB zd, cB (gS 5 m), nB o2]) (PV.pRes (oS 8 n) 0) (hX x n ++ [nB zt, cB (gS 3 m), nB zd, cB (gS 5 m), nB o2, nB l1])) ∧ (Gv 15 [gV 3 m] (hX x n ++ [nB zt, cB (gS 3 m), nB zd, cB (gS 5 m), nB o2, nB l1]) (PV.pRes (oS 9 m) 0) (hX x n ++ [nB zt, cB (gS 3 m), nB zd, cB (gS 5 m), nB o2, nB l1, nB l2])) ∧ (Gv 16 [oS 8 n] (hX x n ++ [nB zt, cB (gS 3 m), nB zd, cB (gS 5 m), nB o2, nB l1, nB l2]) (.int .i64 c1) (hX x n ++ [nB zt, cB (gS 3 m), nB zd, cB (gS 5 m), nB o2, nB l1, nB l2])) ∧ ((c1 != 1) = false) ∧ (Gv 16 [oS 9 m] (hX x n ++ [nB zt, cB (gS 3 m), nB zd, cB (gS 5 m), nB o2, nB l1, nB l2]) (.int .i64 c2) (hX x n ++ [nB zt, cB (gS 3 m), nB zd, cB (gS 5 m), nB o2, nB l1, nB l2])) ∧ AOut.ret (.bool (c2 == 1)) = .ret (.bool true)) ⟨g0, g1, g2, g3, g4, g5, g6, g7, g8, g9, g10, g11, g12, g13, g14, g15, gl⟩ (by kernel_rfl)

theorem runZ {x o1 o2 o3 l1 l2 : List Int} {c1 : Int} (g0 : Gv 8 [] (h0 x 0) (.bool true) (h0 x 0)) (g1 : Gv 9 [smA] (hX x 0) (.bool true) (hX x 0)) (g2 : Gv 10 [gV 0 0] (hX x 0) (.int .i64 0) (hX x 0)) (g3 : Gv 11 [gV 0 0] (hX x 0) (gRes 0 0 0) (hX x 0)) (g4 : Gv 12 [gV 0 0] (hX x 0 ++ [cB (gS 0 0)]) (gRes 0 0 0) (hX x 0 ++ [cB (gS 0 0)])) (g5 : Gv 13 [gV 0 0] (hX x 0 ++ [cB (gS 0 0), cB (gS 0 0)]) (.int .i64 0) (hX x 0 ++ [cB (gS 0 0), cB (gS 0 0)])) (g6 : Gv 13 [gV 0 0] (hX x 0 ++ [cB (gS 0 0), cB (gS 0 0)]) (.int .i64 0) (hX x 0 ++ [cB (gS 0 0), cB (gS 0 0)])) (g7 : Gv 14 [gV 0 0] (hX x 0 ++ [cB (gS 0 0), cB (gS 0 0)]) (OR.oRes (oS 5 0) true 0) (hX x 0 ++ [cB (gS 0 0), cB (gS 0 0), nB o1])) (g8 : Gv 14 [gV 0 0] (hX x 0 ++ [cB (gS 0 0), cB (gS 0 0), nB o1]) (OR.oRes (oS 6 0) true 0) (hX x 0 ++ [cB (gS 0 0), cB (gS 0 0), nB o1, nB o2])) (g9 : Gv 14 [gV 0 0] (hX x 0 ++ [cB (gS 0 0), cB (gS 0 0), nB o1, nB o2]) (OR.oRes (oS 7 0) true 0) (hX x 0 ++ [cB (gS 0 0), cB (gS 0 0), nB o1, nB o2, nB o3])) (g10 : Gv 15 [gV 0 0] (hX x 0 ++ [cB (gS 0 0), cB (gS 0 0), nB o1, nB o2, nB o3]) (PV.pRes (oS 8 0) 0) (hX x 0 ++ [cB (gS 0 0), cB (gS 0 0), nB o1, nB o2, nB o3, nB l1])) (g11 : Gv 15 [gV 0 0] (hX x 0 ++ [cB (gS 0 0), cB (gS 0 0), nB o1, nB o2, nB o3, nB l1]) (PV.pRes (oS 9 0) 0) (hX x 0 ++ [cB (gS 0 0), cB (gS 0 0), nB o1, nB o2, nB o3, nB l1, nB l2])) (g12 : Gv 16 [oS 8 0] (hX x 0 ++ [cB (gS 0 0), cB (gS 0 0), nB o1, nB o2, nB o3, nB l1, nB l2]) (.int .i64 c1) (hX x 0 ++ [cB (gS 0 0), cB (gS 0 0), nB o1, nB o2, nB o3, nB l1, nB l2])) (g13 : (c1 != 1) = true) : Sum Tryz.prog 3 [gV 0 0] [some ⟨ints x, false⟩] fun out _ => out = .ret (.bool true) :=
  tFun_sum (S := { dir := dd [((1, 0), ansD (.bool true) id), ((3, 2), ansD (.bool true) id), ((3, 6), ansD (.int .i64 0) id), ((5, 1), an (gRes 0 0 0) (hX x 0)), ((6, 1), an (gRes 0 0 0) (hX x 0 ++ [cB (gS 0 0)])), ((7, 8), an (.int .i64 0) (hX x 0 ++ [cB (gS 0 0), cB (gS 0 0)])), ((7, 13), an (.int .i64 0) (hX x 0 ++ [cB (gS 0 0), cB (gS 0 0)])), ((17, 1), an (OR.oRes (oS 5 0) true 0) (hX x 0 ++ [cB (gS 0 0), cB (gS 0 0), nB o1])), ((18, 1), an (OR.oRes (oS 6 0) true 0) (hX x 0 ++ [cB (gS 0 0), cB (gS 0 0), nB o1, nB o2])), ((19, 1), an (OR.oRes (oS 7 0) true 0) (hX x 0 ++ [cB (gS 0 0), cB (gS 0 0), nB o1, nB o2, nB o3])), ((22, 1), an (PV.pRes (oS 8 0) 0) (hX x 0 ++ [cB (gS 0 0), cB (gS 0 0), nB o1, nB o2, nB o3, nB l1])), ((23, 1), an (PV.pRes (oS 9 0) 0) (hX x 0 ++ [cB (gS 0 0), cB (gS 0 0), nB o1, nB o2, nB o3, nB l1, nB l2])), ((26, 1), an (.int .i64 c1) (hX x 0 ++ [cB (gS 0 0), cB (gS 0 0), nB o1, nB o2, nB o3, nB l1, nB l2])), ((26, 4), knowD true)], know := kk [], loop := noloop }) (k := 90) TY_ok mixed fn3_ok
    (A := (Gv 8 [] (h0 x 0) (.bool true) (h0 x 0)) ∧ (Gv 9 [smA] (hX x 0) (.bool true) (hX x 0)) ∧ (Gv 10 [gV 0 0] (hX x 0) (.int .i64 0) (hX x 0)) ∧ (Gv 11 [gV 0 0] (hX x 0) (gRes 0 0 0) (hX x 0)) ∧ (Gv 12 [gV 0 0] (hX x 0 ++ [cB (gS 0 0)]) (gRes 0 0 0) (hX x 0 ++ [cB (gS 0 0)])) ∧ (Gv 13 [gV 0 0] (hX x 0 ++ [cB (gS 0 0), cB (gS 0 0)]) (.int .i64 0) (hX x 0 ++ [cB (gS 0 0), cB (gS 0 0)])) ∧ (Gv 13 [gV 0 0] (hX x 0 ++ [cB (gS 0 0), cB (gS 0 0)]) (.int .i64 0) (hX x 0 ++ [cB (gS 0 0), cB (gS 0 0)])) ∧ (Gv 14 [gV 0 0] (hX x 0 ++ [cB (gS 0 0), cB (gS 0 0)]) (OR.oRes (oS 5 0) true 0) (hX x 0 ++ [cB (gS 0 0), cB (gS 0 0), nB o1])) ∧ (Gv 14 [gV 0 0] (hX x 0 ++ [cB (gS 0 0), cB (gS 0 0), nB o1]) (OR.oRes (oS 6 0) true 0) (hX x 0 ++ [cB (gS 0 0), cB (gS 0 0), nB o1, nB o2])) ∧ (Gv 14 [gV 0 0] (hX x 0 ++ [cB (gS 0 0), cB (gS 0 0), nB o1, nB o2]) (OR.oRes (oS 7 0) true 0) (hX x 0 ++ [cB (gS 0 0), cB (gS 0 0), nB o1, nB o2, nB o3])) ∧ (Gv 15 [gV 0 0] (hX x 0 ++ [cB (gS 0 0), cB (gS 0 0), nB o1, nB o2, nB o3]) (PV.pRes (oS 8 0) 0) (hX x 0 ++ [cB (gS 0 0), cB (gS 0 0), nB o1, nB o2, nB o3, nB l1])) ∧ (Gv 15 [gV 0 0] (hX x 0 ++ [cB (gS 0 0), cB (gS 0 0), nB o1, nB o2, nB o3, nB l1]) (PV.pRes (oS 9 0) 0) (hX x 0 ++ [cB (gS 0 0), cB (gS 0 0), nB o1, nB o2, nB o3, nB l1, nB l2])) ∧ (Gv 16 [oS 8 0] (hX x 0 ++ [cB (gS 0 0), cB (gS 0 0), nB o1, nB o2, nB o3, nB l1, nB l2]) (.int .i64 c1) (hX x 0 ++ [cB (gS 0 0), cB (gS 0 0), nB o1, nB o2, nB o3, nB l1, nB l2])) ∧ ((c1 != 1) = true) ∧ AOut.ret (.bool true) = .ret (.bool true)) ⟨g0, g1, g2, g3, g4, g5, g6, g7, g8, g9, g10, g11, g12, g13, rfl⟩ (by kernel_rfl)
end TL
end Go.Ab

namespace Go.Ab
open Go.Proofs

theorem chk_two (n : Nat) (x : List Int) : chk n x = 0 ∨ chk n x = 7 := by unfold chk; split <;> simp
theorem twofold_law {x : List Int} {n : Nat} (hx : x.length = 20 * n) : Sum Tryz.prog 3 [gV 0 n] [some ⟨ints x, false⟩] fun out _ => out = .ret (.bool true) := by
  by_cases hs : n ≤ 12
  · have hsm : decide (n ≤ 12) = true := by simpa using hs
    rcases chk_two n x with cx | cx
    · by_cases h0 : 0 < n
      · have hT := tw_chk cx (show n ≤ 500 by omega)
        have hD := db_chk cx (show n ≤ 500 by omega)
        have lT : (twT x n).length = 20 * (n + n) := build_length _ _
        have lD : (dbT x n).length = 20 * (n + n) := build_length _ _
        have oT : oriB (twT x n) (n + n) = true := (oriB_iff hT).2 (tw_ori cx (by omega))
        have oD : oriB (dbT x n) (n + n) = oriB x n := by
          rw [Bool.eq_iff_iff, oriB_iff hD, oriB_iff cx]; exact db_ori cx (by omega)
        have cn := cnt_parts cx
        have cT := cnt_parts hT
        obtain ⟨p1, p2⟩ := parts_rng (show n ≤ 1000 by omega) cx
        obtain ⟨q1, q2⟩ := parts_rng (show n + n ≤ 1000 by omega) hT
        have hloop := TL.loopL (x := x) (zt := twT x n) (n := n) (show n + n ≤ 1000 by omega) lD (fun t f ht hf => db_full cx (by omega) ht hf)
        have s1 := sane_gives (TL.h0 x n)
        have s2 := TL.small_gives (x := x) hsm
        have cnt1 : Sum Tryz.prog 16 [oS 0 n] [some ⟨ints (partsL x n), false⟩] fun o _ => o = .ret (.int .i64 (cntL (partsL x n))) := count_sum (by omega) p1 p2
        have cnt2 : Sum Tryz.prog 16 [oS 0 (n + n)] [some ⟨ints (partsL (twT x n) (n + n)), false⟩] fun o _ => o = .ret (.int .i64 (cntL (partsL (twT x n) (n + n)))) := count_sum (by omega) q1 q2
        cases ho : oriB x n with
        | true =>
          rw [ho] at oD
          by_cases h1 : partsN x n = 1
          · have := tw_parts cx (by omega) h1
            rw [ho, if_pos rfl] at this
            exact TL.runYO (zt := twT x n) (zd := dbT x n) (o1 := oriL x n) (o2 := oriL (twT x n) (n + n)) (o3 := oriL (dbT x n) (n + n)) (l1 := partsL x n) (l2 := partsL (twT x n) (n + n)) (n := n) (m := n + n) s1 s2
              (gives_one (cx ▸ rcheck_sum hx) rfl (w := false) rfl) (gives_one_new (gtwofold_ok (by omega) h0 hx cx (hv_of_chk cx)) (w := false) rfl) (gives_one_new (gdouble_ok (by omega) h0 hx cx) (w := false) rfl)
              (gives_one (hT ▸ gcheck_sum lT) rfl (w := true) rfl) (gives_one (hD ▸ gcheck_sum lD) rfl (w := true) rfl) hloop
              (gives_one_any (gorient_ok (by omega) hx cx ho) (w := false) rfl rfl) (gives_one_any (gorient_ok (by omega) lT hT oT) (w := true) rfl rfl) (gives_one_any (gorient_ok (by omega) lD hD oD) (w := true) rfl rfl)
              (gives_one_any (parts15_ok (by omega) hx cx) (w := false) rfl rfl) (gives_one_any (parts15_ok (by omega) lT hT) (w := true) rfl rfl)
              (gives_list cnt1 rfl (w := true) rfl) (by rw [cn, h1]; rfl) (gives_list cnt2 rfl (w := true) rfl) (by rw [cT, this]; rfl)
          · exact TL.runYM (zt := twT x n) (zd := dbT x n) (o1 := oriL x n) (o2 := oriL (twT x n) (n + n)) (o3 := oriL (dbT x n) (n + n)) (l1 := partsL x n) (l2 := partsL (twT x n) (n + n)) (n := n) (m := n + n) s1 s2
              (gives_one (cx ▸ rcheck_sum hx) rfl (w := false) rfl) (gives_one_new (gtwofold_ok (by omega) h0 hx cx (hv_of_chk cx)) (w := false) rfl) (gives_one_new (gdouble_ok (by omega) h0 hx cx) (w := false) rfl)
              (gives_one (hT ▸ gcheck_sum lT) rfl (w := true) rfl) (gives_one (hD ▸ gcheck_sum lD) rfl (w := true) rfl) hloop
              (gives_one_any (gorient_ok (by omega) hx cx ho) (w := false) rfl rfl) (gives_one_any (gorient_ok (by omega) lT hT oT) (w := true) rfl rfl) (gives_one_any (gorient_ok (by omega) lD hD oD) (w := true) rfl rfl)
              (gives_one_any (parts15_ok (by omega) hx cx) (w := false) rfl rfl) (gives_one_any (parts15_ok (by omega) lT hT) (w := true) rfl rfl)
              (gives_list cnt1 rfl (w := true) rfl) (by rw [cn]; simp; omega)
        | false =>
          rw [ho] at oD
          by_cases h1 : partsN x n = 1
          · have := tw_parts cx (by omega) h1
            rw [ho, if_neg (by simp)] at this
            exact TL.runNO (zt := twT x n) (zd := dbT x n) (o2 := oriL (twT x n) (n + n)) (l1 := partsL x n) (l2 := partsL (twT x n) (n + n)) (n := n) (m := n + n) s1 s2
              (gives_one (cx ▸ rcheck_sum hx) rfl (w := false) rfl) (gives_one_new (gtwofold_ok (by omega) h0 hx cx (hv_of_chk cx)) (w := false) rfl) (gives_one_new (gdouble_ok (by omega) h0 hx cx) (w := false) rfl)
              (gives_one (hT ▸ gcheck_sum lT) rfl (w := true) rfl) (gives_one (hD ▸ gcheck_sum lD) rfl (w := true) rfl) hloop
              (gives_one (gorient_no (by omega) hx cx ho) rfl (w := false) rfl) (gives_one_any (gorient_ok (by omega) lT hT oT) (w := true) rfl rfl) (gives_one (gorient_no (by omega) lD hD oD) rfl (w := true) rfl)
              (gives_one_any (parts15_ok (by omega) hx cx) (w := false) rfl rfl) (gives_one_any (parts15_ok (by omega) lT hT) (w := true) rfl rfl)
              (gives_list cnt1 rfl (w := true) rfl) (by rw [cn, h1]; rfl) (gives_list cnt2 rfl (w := true) rfl) (by rw [cT, this]; rfl)
          · exact TL.runNM (zt := twT x n) (zd := dbT x n) (o2 := oriL (twT x n) (n + n)) (l1 := partsL x n) (l2 := partsL (twT x n) (n + n)) (n := n) (m := n + n) s1 s2
              (gives_one (cx ▸ rcheck_sum hx) rfl (w := false) rfl) (gives_one_new (gtwofold_ok (by omega) h0 hx cx (hv_of_chk cx)) (w := false) rfl) (gives_one_new (gdouble_ok (by omega) h0 hx cx) (w := false) rfl)
              (gives_one (hT ▸ gcheck_sum lT) rfl (w := true) rfl) (gives_one (hD ▸ gcheck_sum lD) rfl (w := true) rfl) hloop
              (gives_one (gorient_no (by omega) hx cx ho) rfl (w := false) rfl) (gives_one_any (gorient_ok (by omega) lT hT oT) (w := true) rfl rfl) (gives_one (gorient_no (by omega) lD hD oD) rfl (w := true) rfl)
              (gives_one_any (parts15_ok (by omega) hx cx) (w := false) rfl rfl) (gives_one_any (parts15_ok (by omega) lT hT) (w := true) rfl rfl)
              (gives_list cnt1 rfl (w := true) rfl) (by rw [cn]; simp; omega)
      · have : n = 0 := by omega
        subst this
        have s1 := sane_gives (TL.h0 x 0)
        have s2 := TL.small_gives (x := x) hsm
        have ho : oriB x 0 = true := rfl
        have cnt1 : Sum Tryz.prog 16 [oS 0 0] [some ⟨ints (partsL x 0), false⟩] fun o _ => o = .ret (.int .i64 (cntL (partsL x 0))) := count_sum (by omega) rfl (fun v hv => by omega)
        exact TL.runZ (o1 := oriL x 0) (o2 := oriL x 0) (o3 := oriL x 0) (l1 := partsL x 0) (l2 := partsL x 0) s1 s2
          (gives_one (cx ▸ rcheck_sum hx) rfl (w := false) rfl) (gives_one_same (Sum.gNo (gtwofold_no hx cx)) (w := false) rfl rfl) (gives_one_same (Sum.gNo (gdouble_no hx cx)) (w := false) rfl rfl)
          (gives_one (cx ▸ gcheck_sum hx) rfl (w := false) rfl) (gives_one (cx ▸ gcheck_sum hx) rfl (w := false) rfl)
          (gives_one_any (gorient_ok (by omega) hx cx ho) (w := false) rfl rfl) (gives_one_any (gorient_ok (by omega) hx cx ho) (w := false) rfl rfl) (gives_one_any (gorient_ok (by omega) hx cx ho) (w := false) rfl rfl)
          (gives_one_any (parts15_ok (by omega) hx cx) (w := false) rfl rfl) (gives_one_any (parts15_ok (by omega) hx cx) (w := false) rfl rfl)
          (gives_list cnt1 rfl (w := true) rfl) rfl
    · exact TL.runBad (sane_gives _) (TL.small_gives hsm) (gives_one (cx ▸ rcheck_sum hx) rfl (w := false) rfl)
  · exact TL.runSmall (sane_gives _) (TL.small_gives (by simpa using hs))
end Go.Ab
