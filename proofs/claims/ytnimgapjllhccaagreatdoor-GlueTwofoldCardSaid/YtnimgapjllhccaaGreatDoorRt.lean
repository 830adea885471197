/- The functions Twofold and Double of the specification answer for all gluings. Conditions: none beyond the given model and program. -/
import Derived.Test.YtnimgapjllhccaaGreatDoorMv
import Derived.Test.YtnimgapjllhccaaGreatDoorRu
namespace Go.Ab
open Go.Proofs

/-- A face of the twofold cover. -/
def tw (n : Nat) (a : Fc) : Fc := if ile 0 a.u = true ∧ (sgnV a.p == 1) = true then ⟨(IntKind.i64.wrap (a.u + n)).tmod (IntKind.i64.wrap (2 * (n : Int))), a.p⟩ else a

namespace RT2
def H (x z : List Int) (n N : Nat) : Heap := [some ⟨ints x, false⟩, some ⟨[gS 0 n], true⟩, some ⟨[.slice none 0 0], true⟩, some ⟨ints z, true⟩, some ⟨[gS 3 N], true⟩]
theorem H_closed (x z : List Int) (n N : Nat) : closedH 5 (H x z n N) :=
  closedH_cons (subL_plain _ _ (ints_plain x)) (closedH_cons (belowL_sub _ rfl) (closedH_cons (subL_plain _ _ rfl) (closedH_cons (subL_plain _ _ (ints_plain z)) (closedH_cons (belowL_sub _ rfl) closedH_nil))))
def eI (n t f : Nat) : List (Nat × Value) := [(1, .pointer (some ⟨1, 0, none⟩)), (2, .pointer (some ⟨2, 0, none⟩)), (4, .pointer (some ⟨4, 0, none⟩)), (6, .int .i64 n), (7, .int .i64 t), (8, .int .i64 f)]
def eW (n t f : Nat) : List (Nat × Value) := [(1, .pointer (some ⟨1, 0, none⟩)), (2, .pointer (some ⟨2, 0, none⟩)), (4, .pointer (some ⟨4, 0, none⟩)), (6, .int .i64 n), (7, .int .i64 t), (8, .int .i64 (IntKind.i64.wrap ((f : Int) + 1)))]
def eT (n t : Nat) : List (Nat × Value) := [(1, .pointer (some ⟨1, 0, none⟩)), (2, .pointer (some ⟨2, 0, none⟩)), (4, .pointer (some ⟨4, 0, none⟩)), (6, .int .i64 n), (7, .int .i64 t)]
def eV (n t : Nat) : List (Nat × Value) := [(1, .pointer (some ⟨1, 0, none⟩)), (2, .pointer (some ⟨2, 0, none⟩)), (4, .pointer (some ⟨4, 0, none⟩)), (6, .int .i64 n), (7, .int .i64 (IntKind.i64.wrap ((t : Int) + 1)))]
def eE : List (Nat × Value) := [(2, .pointer (some ⟨2, 0, none⟩)), (4, .pointer (some ⟨4, 0, none⟩))]
theorem okI : codeOk 64 (lb Tryz.f22 2) = true := by kernel_rfl
theorem ok0 : codeOk 64 (lb Tryz.f22 0) = true := by kernel_rfl
abbrev C (x z z2 : List Int) (n N t f : Nat) (l : List (Nat × Value)) (ax : AX) : Prop := Comes none ([], true) Tryz.prog 64 1 (lb Tryz.f22 2) (eI n t f) (H x z n N) ax l (H x z2 n N)
def sc (d : List ((Nat × Nat) × (Option Bool × Td))) (k : List (Nat × Bool)) : Ts := { dir := dd d, know := kk k, loop := noloop }
def d1 (a : Fc) : List ((Nat × Nat) × (Option Bool × Td)) := [((11, 4), ixD), ((11, 5), ixD), ((11, 6), ldF a)]
abbrev O1 (x z : List Int) (n N t f : Nat) (a : Fc) (X : Prop) : Prop :=
  ilt (f : Int) 4 = true ∧ (0 ≤ (t : Int) ∧ (t : Int) < (N : Int)) ∧ (0 ≤ (f : Int) ∧ (f : Int) < ((4 : Nat) : Int)) ∧ readCells (H x z n N) ⟨3, 0 + t * 20 + f * 5, none⟩ 5 = some a.cells ∧ X
def SignP (a : Fc) (s : Int) : Prop := Plain Tryz.prog 50 [pmv a.p] (.int .i64 s)
def RemP (x z : List Int) (n N : Nat) (a : Fc) (q : Int) : Prop := ((aIntOp .rem .i64 (IntKind.i64.wrap (a.u + n)) (IntKind.i64.wrap (2 * (n : Int)))).map fun v => (v, H x z n N ++ [some ⟨a.cells, true⟩])) = some (.int .i64 q, H x z n N ++ [some ⟨a.cells, true⟩])
def WrP (x z z2 : List Int) (n N t f : Nat) (a : Fc) (q : Int) : Prop := writeCells (H x z n N ++ [some ⟨a.cells, true⟩]) ⟨3, 0 + t * 20 + f * 5 + 0, none⟩ [.int .i64 q] = some (H x z2 n N ++ [some ⟨a.cells, true⟩])

theorem bEnd {x z : List Int} {n N t f : Nat} (h1 : ilt (f : Int) 4 = false) : C x z z n N t f (eT n t) (.exit 2) :=
  comes_run (S := sc [] [(30, false)]) (k := 60) (ts := [1, 2, 4, 6, 7]) (junk := []) (h1 := H x z n N) (A := ilt (f : Int) 4 = false ∧ Dn (.exit 2) (eT n t) (H x z n N)) TY_ok mixed okI (show 1 ≤ (H x z n N).length from Nat.le_of_ble_eq_true rfl) (H_closed x z n N) rfl ⟨h1, dn _ _ _⟩ (by kernel_rfl)
theorem bA {x z : List Int} {n N t f : Nat} {a : Fc} {X : Prop} (h : O1 x z n N t f a X) (h1 : ile 0 a.u = false) : C x z z n N t f (eW n t f) .normal :=
  comes_run (S := sc (d1 a ++ [((12, 4), knowD false)]) [(30, true)]) (k := 60) (ts := [1, 2, 4, 6, 7, 8]) (junk := [some ⟨a.cells, true⟩]) (h1 := H x z n N) (l0 := eW n t f)
    (A := O1 x z n N t f a ((ile 0 a.u = false) ∧ Dn .normal (eW n t f) (H x z n N ++ [some ⟨a.cells, true⟩]))) TY_ok mixed okI (show 1 ≤ (H x z n N).length from Nat.le_of_ble_eq_true rfl) (H_closed x z n N) rfl ⟨h.1, h.2.1, h.2.2.1, h.2.2.2.1, h1, dn _ _ _⟩ (by kernel_rfl)
theorem bB {x z : List Int} {n N t f : Nat} {a : Fc} {s : Int} {X : Prop} (h : O1 x z n N t f a X) (h1 : ile 0 a.u = true) (h2 : SignP a s) (h3 : (s == 1) = false) : C x z z n N t f (eW n t f) .normal :=
  comes_run (S := sc (d1 a ++ [((12, 4), knowD true), ((12, 6), plD (.int .i64 s))]) [(30, true), (48, false)]) (k := 60) (ts := [1, 2, 4, 6, 7, 8]) (junk := [some ⟨a.cells, true⟩]) (h1 := H x z n N) (l0 := eW n t f)
    (A := O1 x z n N t f a ((ile 0 a.u = true) ∧ SignP a s ∧ ((s == 1) = false) ∧ Dn .normal (eW n t f) (H x z n N ++ [some ⟨a.cells, true⟩]))) TY_ok mixed okI (show 1 ≤ (H x z n N).length from Nat.le_of_ble_eq_true rfl) (H_closed x z n N) rfl ⟨h.1, h.2.1, h.2.2.1, h.2.2.2.1, h1, h2, h3, dn _ _ _⟩ (by kernel_rfl)
theorem bC {x z z2 : List Int} {n N t f : Nat} {a : Fc} {s q : Int} {X : Prop} (h : O1 x z n N t f a X) (h1 : ile 0 a.u = true) (h2 : SignP a s) (h3 : (s == 1) = true) (h4 : RemP x z n N a q) (h5 : WrP x z z2 n N t f a q) : C x z z2 n N t f (eW n t f) .normal :=
  comes_run (S := sc (d1 a ++ [((12, 4), knowD true), ((12, 6), plD (.int .i64 s)), ((13, 10), (none, .op fun _ h => (.int .i64 q, h))), ((13, 11), ixD), ((13, 12), ixD), ((13, 14), (none, .st fun _ _ _ => H x z2 n N ++ [some ⟨a.cells, true⟩]))]) [(30, true), (48, true)]) (k := 60) (ts := [1, 2, 4, 6, 7, 8]) (junk := [some ⟨a.cells, true⟩]) (h1 := H x z2 n N) (l0 := eW n t f)
    (A := O1 x z n N t f a ((ile 0 a.u = true) ∧ SignP a s ∧ ((s == 1) = true) ∧ RemP x z n N a q ∧ (0 ≤ (t : Int) ∧ (t : Int) < (N : Int)) ∧ (0 ≤ (f : Int) ∧ (f : Int) < ((4 : Nat) : Int)) ∧ WrP x z z2 n N t f a q ∧ Dn .normal (eW n t f) (H x z2 n N ++ [some ⟨a.cells, true⟩])))
    TY_ok mixed okI (show 1 ≤ (H x z2 n N).length from Nat.le_of_ble_eq_true rfl) (H_closed x z2 n N) rfl ⟨h.1, h.2.1, h.2.2.1, h.2.2.2.1, h1, h2, h3, h4, h.2.1, h.2.2.1, h5, dn _ _ _⟩ (by kernel_rfl)
end RT2
end Go.Ab

namespace Go.Ab
open Go.Proofs

namespace RT2
theorem wr_app {x z z2 : List Int} {n N t f : Nat} {a : Fc} {q : Int} (h : writeCells (H x z n N ++ [some ⟨a.cells, true⟩]) ⟨3, 0 + t * 20 + f * 5 + 0, none⟩ [.int .i64 q] = some ((H x z n N ++ [some ⟨a.cells, true⟩] : Heap).set 3 (some ⟨ints z2, true⟩))) : WrP x z z2 n N t f a q := h

theorem bStep {x : List Int} {n t f : Nat} {F : FF} (hn : n ≤ 1000) (ht : t < n + n) (hf : f < 4) :
    C x (build (n + n) (mix F (fun t f => tw n (F t f)) t f)) (build (n + n) (mix F (fun t f => tw n (F t f)) t (f + 1))) n (n + n) t f (eI n t (f + 1)) .normal := by
  have hw := wrap_succ (k := f) (by omega)
  have e : eI n t (f + 1) = eW n t f := by simp only [eI, eW, hw]
  rw [e]
  have hO : O1 x (build (n + n) (mix F (fun t f => tw n (F t f)) t f)) n (n + n) t f (F t f) True := by
    refine ⟨by rw [ilt_eq]; simp; omega, ⟨by omega, by omega⟩, ⟨by omega, by omega⟩, ?_, trivial⟩
    have hfc : fcAt (build (n + n) (mix F (fun t f => tw n (F t f)) t f)) (20 * t + 5 * f) = F t f := by
      have := fc_build (F := mix F (fun t f => tw n (F t f)) t f) ht hf
      rw [mix_at] at this; exact this
    rw [show 0 + t * 20 + f * 5 = 20 * t + 5 * f by omega, rd_face (x := build (n + n) (mix F (fun t f => tw n (F t f)) t f)) (w := true) rfl (by rw [build_length]; omega), hfc]
  cases h1 : ile 0 (F t f).u with
  | false =>
    have hs : tw n (F t f) = F t f := by simp [tw, h1]
    rw [mix_same (G := fun t f => tw n (F t f)) hs]
    exact bA hO h1
  | true =>
    have hsg : SignP (F t f) (sgnV (F t f).p) := sign12 _
    cases h3 : (sgnV (F t f).p == 1) with
    | false =>
      have hs : tw n (F t f) = F t f := by simp [tw, h3]
      rw [mix_same (G := fun t f => tw n (F t f)) hs]
      exact bB hO h1 hsg h3
    | true =>
      have hs : tw n (F t f) = ⟨(IntKind.i64.wrap ((F t f).u + n)).tmod (IntKind.i64.wrap (2 * (n : Int))), (F t f).p⟩ := by simp [tw, h1, h3]
      refine bC (q := (IntKind.i64.wrap ((F t f).u + n)).tmod (IntKind.i64.wrap (2 * (n : Int)))) hO h1 hsg h3 ?_ ?_
      · have hy : IntKind.i64.wrap (2 * (n : Int)) ≠ 0 := by rw [wrap_of (by omega) (by omega)]; omega
        simp only [RemP, aIntOp, if_pos hy, Option.map_some]
      · refine wr_app ?_
        rw [wr_tet (b := 3) (F := mix F (fun t f => tw n (F t f)) t f) rfl ht hf, mix_at]
        rw [← hs, mix_succ (G := fun t f => tw n (F t f))]

def z (F : FF) (n t f : Nat) : List Int := build (n + n) (mix F (fun t f => tw n (F t f)) t f)
theorem row_ok {x : List Int} {n t : Nat} {F : FF} (hn : n ≤ 1000) (ht : t < n + n) : (obs Tryz.prog TY none ([], true) 64).loop 1 (fb Tryz.f22 2) (eI n t 0) (H x (z F n t 0) n (n + n)) .normal (eT n t) (H x (z F n (t + 1) 0) n (n + n)) := by
  have hfb : fb Tryz.f22 2 = .block 2 (.loop (lb Tryz.f22 2)) := by kernel_rfl
  refine comes_loop hfb rfl (fun f => eI n t f) (fun f => H x (z F n t f) n (n + n)) (fun f => f ≤ 4) (fun f => 4 - f) 0 (by omega) rfl rfl ?_
  intro f hf
  by_cases h4 : f < 4
  · exact .inl ⟨f + 1, by omega, by omega, bStep hn ht h4⟩
  · have : f = 4 := by omega
    subst this
    have e : z F n (t + 1) 0 = z F n t 4 := (build_mix_row _ _ _ _).symm
    rw [e]
    exact .inr (.inl ⟨rfl, bEnd (by rw [ilt_eq]; rfl)⟩)

abbrev LP (x z1 z2 : List Int) (n N t : Nat) : Prop := (obs Tryz.prog TY none ([], true) 64).loop 1 (fb Tryz.f22 2) (eI n t 0) (H x z1 n N) .normal (eT n t) (H x z2 n N)
def lpD (l : List (Nat × Value)) (h : Heap) : LoopD := ([1, 2, 4, 6, 7, 8], fun _ _ => (.normal, l, h))
abbrev CT (x z1 z2 : List Int) (n N t : Nat) (l : List (Nat × Value)) (ax : AX) : Prop := Comes none ([], true) Tryz.prog 64 1 (lb Tryz.f22 0) (eT n t) (H x z1 n N) ax l (H x z2 n N)
theorem tStep {x z1 z2 : List Int} {n N t : Nat} (h1 : ilt (t : Int) (IntKind.i64.wrap (2 * (n : Int))) = true) (h2 : LP x z1 z2 n N t) : CT x z1 z2 n N t (eV n t) .normal :=
  comes_run (S := { dir := dd [], know := kk [(26, true)], loop := loops [(2, lpD (eT n t) (H x z2 n N))] }) (k := 60) (ts := [1, 2, 4, 6, 7]) (junk := []) (h1 := H x z2 n N) (l0 := eV n t)
    (A := (ilt (t : Int) (IntKind.i64.wrap (2 * (n : Int))) = true) ∧ LP x z1 z2 n N t ∧ Dn .normal (eV n t) (H x z2 n N)) TY_ok mixed ok0 (show 1 ≤ (H x z2 n N).length from Nat.le_of_ble_eq_true rfl) (H_closed x z2 n N) rfl ⟨h1, h2, dn _ _ _⟩ (by kernel_rfl)
theorem tEnd {x z1 : List Int} {n N t : Nat} (h1 : ilt (t : Int) (IntKind.i64.wrap (2 * (n : Int))) = false) : CT x z1 z1 n N t eE (.exit 0) :=
  comes_run (S := { dir := dd [], know := kk [(26, false)], loop := noloop }) (k := 60) (ts := [2, 4]) (junk := []) (h1 := H x z1 n N) (l0 := eE)
    (A := (ilt (t : Int) (IntKind.i64.wrap (2 * (n : Int))) = false) ∧ Dn (.exit 0) eE (H x z1 n N)) TY_ok mixed ok0 (show 1 ≤ (H x z1 n N).length from Nat.le_of_ble_eq_true rfl) (H_closed x z1 n N) rfl ⟨h1, dn _ _ _⟩ (by kernel_rfl)

theorem all_ok {x : List Int} {n : Nat} {F : FF} (hn : n ≤ 1000) : (obs Tryz.prog TY none ([], true) 64).loop 1 (fb Tryz.f22 0) (eT n 0) (H x (build (n + n) F) n (n + n)) .normal eE (H x (build (n + n) fun t f => tw n (F t f)) n (n + n)) := by
  have hfb : fb Tryz.f22 0 = .block 0 (.loop (lb Tryz.f22 0)) := by kernel_rfl
  have hw : IntKind.i64.wrap (2 * (n : Int)) = 2 * (n : Int) := wrap_of (by omega) (by omega)
  refine comes_loop hfb rfl (fun t => eT n t) (fun t => H x (z F n t 0) n (n + n)) (fun t => t ≤ n + n) (fun t => n + n - t) 0 (by omega) rfl (by simp only [z, mix_zero]) ?_
  intro t ht
  by_cases h4 : t < n + n
  · refine .inl ⟨t + 1, by omega, by omega, ?_⟩
    have := tStep (by rw [hw, ilt_eq]; simp; omega) (row_ok (x := x) (F := F) hn h4)
    have e : eV n t = eT n (t + 1) := by simp only [eV, eT, wrap_succ (show t < 1000000000 by omega)]
    rw [e] at this
    exact this
  · have : t = n + n := by omega
    subst this
    have e : z F n (n + n) 0 = build (n + n) fun t f => tw n (F t f) := build_mix_all _ _ _
    rw [e]
    exact .inr (.inl ⟨rfl, tEnd (by rw [hw, ilt_eq]; simp; omega)⟩)

def Hc (x : List Int) (n : Nat) : Heap := [some ⟨ints x, false⟩, some ⟨[gS 0 n], true⟩, some ⟨[.slice none 0 0], true⟩]
abbrev Gu (x z : List Int) (n : Nat) : Prop := Gives Tryz.prog 20 [gV 0 n, gV 0 n] (Hc x n) (.ret (gRes 3 (n + n) 0)) (Hc x n ++ [some ⟨ints z, true⟩]) ∧ ∃ y, Hc x n ++ [some ⟨ints z, true⟩] = Hc x n ++ y
abbrev Ge (x : List Int) (n : Nat) : Prop := Gives Tryz.prog 20 [gV 0 n, gV 0 n] (Hc x n) (.ret (gErr 7)) (Hc x n) ∧ ∃ y, Hc x n = Hc x n ++ y
def Hf (x z : List Int) (n : Nat) : Heap := [some ⟨ints x, false⟩, some ⟨[gS 0 n], true⟩, some ⟨[gS 3 (n + n)], true⟩, some ⟨ints z, true⟩, some ⟨[gS 3 (n + n)], true⟩]
end RT2

/-- The faces of a gluing twice. -/
def uniF (x : List Int) (n : Nat) : FF := fun t f => if t < n then fc x t f else (fc x (t - n) f).sh n
theorem uni_build {x : List Int} {n : Nat} (hx : x.length = 20 * n) : uni x x n n = build (n + n) (uniF x n) := by
  have := build_append (fc x) (shF (fc x) n) n n
  rw [build_fc hx] at this
  exact this
/-- The twofold cover. -/
def twL (x : List Int) (n : Nat) : List Int := build (n + n) fun t f => tw n (uniF x n t f)

theorem rtwofold_ok {x : List Int} {n : Nat} (hn : n ≤ 500) (hx : x.length = 20 * n) (cx : chk n x = 0) :
    Sum Tryz.prog 22 [gV 0 n] [some ⟨ints x, false⟩] fun o h2 => o = .ret (gRes 1 (n + n) 0) ∧ h2 = [some ⟨ints x, false⟩] ++ [some ⟨ints (twL x n), true⟩] := by
  have gu : RT2.Gu x (build (n + n) (uniF x n)) n := by
    have := gives_two_new (b := 0) (c := 0) (h := RT2.Hc x n) (w := false) (w' := false) (runion_ok (by omega) hx hx cx cx) rfl rfl
    rw [uni_build hx] at this
    exact this
  have hs : Sum Tryz.prog 22 [gV 0 n] [some ⟨ints x, false⟩] fun o h2 => o = .ret (gRes 3 (n + n) 0) ∧ h2 = RT2.Hf x (twL x n) n :=
    tFun_sum (S := { dir := dd [((1, 2), (none, .ans fun _ _ => (gRes 3 (n + n) 0, RT2.Hc x n ++ [some ⟨ints (build (n + n) (uniF x n)), true⟩])))], know := kk [], loop := loops [(0, ([1, 2, 4, 6, 7], fun _ _ => (.normal, RT2.eE, RT2.H x (twL x n) n (n + n))))] }) (k := 60) TY_ok mixed fn22_ok
      (A := RT2.Gu x (build (n + n) (uniF x n)) n ∧ (obs Tryz.prog TY none ([], true) 64).loop 1 (fb Tryz.f22 0) (RT2.eT n 0) (RT2.H x (build (n + n) (uniF x n)) n (n + n)) .normal RT2.eE (RT2.H x (twL x n) n (n + n)) ∧
        AOut.ret (gRes 3 (n + n) 0) = .ret (gRes 3 (n + n) 0) ∧ RT2.Hf x (twL x n) n = RT2.Hf x (twL x n) n) ⟨gu, RT2.all_ok (by omega), rfl, rfl⟩ (by kernel_rfl)
  exact Sum.pick (ks := [0, 3]) hs (by kernel_rfl) ⟨⟨_, rfl, subL_plain _ _ (ints_plain x), id⟩, ⟨_, rfl, subL_plain _ _ (ints_plain _), id⟩, trivial⟩ (by kernel_rfl) ⟨_, rfl, _, _, rfl, sub_gV rfl, _, _, rfl, rfl, rfl⟩

theorem rtwofold_bad {x : List Int} {n : Nat} (hx : x.length = 20 * n) (cx : chk n x = 7) : Sum Tryz.prog 22 [gV 0 n] [some ⟨ints x, false⟩] fun o _ => o = .ret (gErr 7) := by
  have gu : RT2.Ge x n := gives_two (b := 0) (c := 0) (h := RT2.Hc x n) (w := false) (w' := false) (runion_bad hx hx (.inl cx)) rfl rfl rfl
  exact tFun_sum (S := { dir := dd [((1, 2), ansD (gErr 7) id)], know := kk [], loop := noloop }) (k := 60) TY_ok mixed fn22_ok
    (A := RT2.Ge x n ∧ AOut.ret (gErr 7) = .ret (gErr 7)) ⟨gu, rfl⟩ (by kernel_rfl)
end Go.Ab

namespace Go.Ab
open Go.Proofs

/-- A face of the double. -/
def dbF (n t : Nat) (a : Fc) : Fc := if ilt a.u 0 = true then ⟨(IntKind.i64.wrap ((t : Int) + n)).tmod (IntKind.i64.wrap (2 * (n : Int))), ⟨0, 1, 2, 3⟩⟩ else a

namespace RD2
def H (x z : List Int) (n N : Nat) : Heap := [some ⟨ints x, false⟩, some ⟨[gS 0 n], true⟩, some ⟨[.slice none 0 0], true⟩, some ⟨ints z, true⟩, some ⟨[gS 3 N], true⟩]
theorem H_closed (x z : List Int) (n N : Nat) : closedH 5 (H x z n N) :=
  closedH_cons (subL_plain _ _ (ints_plain x)) (closedH_cons (belowL_sub _ rfl) (closedH_cons (subL_plain _ _ rfl) (closedH_cons (subL_plain _ _ (ints_plain z)) (closedH_cons (belowL_sub _ rfl) closedH_nil))))
def eI (n t f : Nat) : List (Nat × Value) := [(1, .pointer (some ⟨1, 0, none⟩)), (2, .pointer (some ⟨2, 0, none⟩)), (4, .pointer (some ⟨4, 0, none⟩)), (6, .int .i64 n), (7, .int .i64 t), (8, .int .i64 f)]
def eW (n t f : Nat) : List (Nat × Value) := [(1, .pointer (some ⟨1, 0, none⟩)), (2, .pointer (some ⟨2, 0, none⟩)), (4, .pointer (some ⟨4, 0, none⟩)), (6, .int .i64 n), (7, .int .i64 t), (8, .int .i64 (IntKind.i64.wrap ((f : Int) + 1)))]
def eT (n t : Nat) : List (Nat × Value) := [(1, .pointer (some ⟨1, 0, none⟩)), (2, .pointer (some ⟨2, 0, none⟩)), (4, .pointer (some ⟨4, 0, none⟩)), (6, .int .i64 n), (7, .int .i64 t)]
def eV (n t : Nat) : List (Nat × Value) := [(1, .pointer (some ⟨1, 0, none⟩)), (2, .pointer (some ⟨2, 0, none⟩)), (4, .pointer (some ⟨4, 0, none⟩)), (6, .int .i64 n), (7, .int .i64 (IntKind.i64.wrap ((t : Int) + 1)))]
def eE : List (Nat × Value) := [(2, .pointer (some ⟨2, 0, none⟩)), (4, .pointer (some ⟨4, 0, none⟩))]
theorem okI : codeOk 56 (lb Tryz.f23 2) = true := by kernel_rfl
theorem ok0 : codeOk 56 (lb Tryz.f23 0) = true := by kernel_rfl
abbrev C (x z z2 : List Int) (n N t f : Nat) (l : List (Nat × Value)) (ax : AX) : Prop := Comes none ([], true) Tryz.prog 56 1 (lb Tryz.f23 2) (eI n t f) (H x z n N) ax l (H x z2 n N)
def sc (d : List ((Nat × Nat) × (Option Bool × Td))) (k : List (Nat × Bool)) : Ts := { dir := dd d, know := kk k, loop := noloop }
def d1 (u : Int) : List ((Nat × Nat) × (Option Bool × Td)) := [((11, 4), ixD), ((11, 5), ixD), ((11, 7), ldC [.int .i64 u])]
abbrev O1 (x z : List Int) (n N t f : Nat) (u : Int) (X : Prop) : Prop :=
  ilt (f : Int) 4 = true ∧ (0 ≤ (t : Int) ∧ (t : Int) < (N : Int)) ∧ (0 ≤ (f : Int) ∧ (f : Int) < ((4 : Nat) : Int)) ∧ readCells (H x z n N) ⟨3, 0 + t * 20 + f * 5 + 0, none⟩ 1 = some [.int .i64 u] ∧ X
def RemP (x z : List Int) (n N t : Nat) (q : Int) : Prop := ((aIntOp .rem .i64 (IntKind.i64.wrap ((t : Int) + n)) (IntKind.i64.wrap (2 * (n : Int)))).map fun v => (v, H x z n N)) = some (.int .i64 q, H x z n N)
def WrP (x z z2 : List Int) (n N t f : Nat) (q : Int) : Prop := writeCells (H x z n N) ⟨3, 0 + t * 20 + f * 5, none⟩ (Fc.cells ⟨q, ⟨0, 1, 2, 3⟩⟩) = some (H x z2 n N)
def IdP : Prop := Plain Tryz.prog 33 [] (pmv ⟨0, 1, 2, 3⟩)

theorem bEnd {x z : List Int} {n N t f : Nat} (h1 : ilt (f : Int) 4 = false) : C x z z n N t f (eT n t) (.exit 2) :=
  comes_run (S := sc [] [(29, false)]) (k := 60) (ts := [1, 2, 4, 6, 7]) (junk := []) (h1 := H x z n N) (A := ilt (f : Int) 4 = false ∧ Dn (.exit 2) (eT n t) (H x z n N)) TY_ok mixed okI (show 1 ≤ (H x z n N).length from Nat.le_of_ble_eq_true rfl) (H_closed x z n N) rfl ⟨h1, dn _ _ _⟩ (by kernel_rfl)
theorem bA {x z : List Int} {n N t f : Nat} {u : Int} {X : Prop} (h : O1 x z n N t f u X) (h1 : ilt u 0 = false) : C x z z n N t f (eW n t f) .normal :=
  comes_run (S := sc (d1 u) [(29, true), (40, false)]) (k := 60) (ts := [1, 2, 4, 6, 7, 8]) (junk := []) (h1 := H x z n N) (l0 := eW n t f)
    (A := O1 x z n N t f u ((ilt u 0 = false) ∧ Dn .normal (eW n t f) (H x z n N))) TY_ok mixed okI (show 1 ≤ (H x z n N).length from Nat.le_of_ble_eq_true rfl) (H_closed x z n N) rfl ⟨h.1, h.2.1, h.2.2.1, h.2.2.2.1, h1, dn _ _ _⟩ (by kernel_rfl)
theorem bC {x z z2 : List Int} {n N t f : Nat} {u q : Int} {X : Prop} (h : O1 x z n N t f u X) (h1 : ilt u 0 = true) (h4 : RemP x z n N t q) (h2 : IdP) (h5 : WrP x z z2 n N t f q) : C x z z2 n N t f (eW n t f) .normal :=
  comes_run (S := sc (d1 u ++ [((12, 9), (none, .op fun _ h => (.int .i64 q, h))), ((12, 10), plD (pmv ⟨0, 1, 2, 3⟩)), ((12, 12), ixD), ((12, 13), ixD), ((12, 14), (none, .st fun _ _ _ => H x z2 n N))]) [(29, true), (40, true)]) (k := 60) (ts := [1, 2, 4, 6, 7, 8]) (junk := []) (h1 := H x z2 n N) (l0 := eW n t f)
    (A := O1 x z n N t f u ((ilt u 0 = true) ∧ RemP x z n N t q ∧ IdP ∧ (0 ≤ (t : Int) ∧ (t : Int) < (N : Int)) ∧ (0 ≤ (f : Int) ∧ (f : Int) < ((4 : Nat) : Int)) ∧ WrP x z z2 n N t f q ∧ Dn .normal (eW n t f) (H x z2 n N)))
    TY_ok mixed okI (show 1 ≤ (H x z2 n N).length from Nat.le_of_ble_eq_true rfl) (H_closed x z2 n N) rfl ⟨h.1, h.2.1, h.2.2.1, h.2.2.2.1, h1, h4, h2, h.2.1, h.2.2.1, h5, dn _ _ _⟩ (by kernel_rfl)
end RD2
end Go.Ab

namespace Go.Ab
open Go.Proofs

theorem rd_cell {x : List Int} {h : Heap} {b o : Nat} {w : Bool} (hb : hblk h b = some ⟨ints x, w⟩) (ho : o + 1 ≤ x.length) : readCells h ⟨b, o, none⟩ 1 = some [.int .i64 (cel x o)] := by
  unfold readCells
  rw [hb]
  simp only [ints_length, true_and, if_pos ho]
  rw [cells_ints x o 1 ho]
  rfl

namespace RD2
theorem bStep {x : List Int} {n t f : Nat} {F : FF} (hn : n ≤ 1000) (ht : t < n + n) (hf : f < 4) :
    C x (build (n + n) (mix F (fun t f => dbF n t (F t f)) t f)) (build (n + n) (mix F (fun t f => dbF n t (F t f)) t (f + 1))) n (n + n) t f (eI n t (f + 1)) .normal := by
  have hw := wrap_succ (k := f) (by omega)
  have e : eI n t (f + 1) = eW n t f := by simp only [eI, eW, hw]
  rw [e]
  have hO : O1 x (build (n + n) (mix F (fun t f => dbF n t (F t f)) t f)) n (n + n) t f (F t f).u True := by
    refine ⟨by rw [ilt_eq]; simp; omega, ⟨by omega, by omega⟩, ⟨by omega, by omega⟩, ?_, trivial⟩
    have hfc : fcAt (build (n + n) (mix F (fun t f => dbF n t (F t f)) t f)) (20 * t + 5 * f) = F t f := by
      have := fc_build (F := mix F (fun t f => dbF n t (F t f)) t f) ht hf
      rw [mix_at] at this; exact this
    have hu : cel (build (n + n) (mix F (fun t f => dbF n t (F t f)) t f)) (20 * t + 5 * f) = (F t f).u := by rw [← hfc]; rfl
    rw [show 0 + t * 20 + f * 5 + 0 = 20 * t + 5 * f by omega, rd_cell (x := build (n + n) (mix F (fun t f => dbF n t (F t f)) t f)) (w := true) rfl (by rw [build_length]; omega), hu]
  cases h1 : ilt (F t f).u 0 with
  | false =>
    have hs : dbF n t (F t f) = F t f := by simp [dbF, h1]
    rw [mix_same (G := fun t f => dbF n t (F t f)) hs]
    exact bA hO h1
  | true =>
    have hs : dbF n t (F t f) = ⟨(IntKind.i64.wrap ((t : Int) + n)).tmod (IntKind.i64.wrap (2 * (n : Int))), ⟨0, 1, 2, 3⟩⟩ := by simp [dbF, h1]
    refine bC (q := (IntKind.i64.wrap ((t : Int) + n)).tmod (IntKind.i64.wrap (2 * (n : Int)))) hO h1 ?_ ident13 ?_
    · have hy : IntKind.i64.wrap (2 * (n : Int)) ≠ 0 := by rw [wrap_of (by omega) (by omega)]; omega
      simp only [RemP, aIntOp, if_pos hy, Option.map_some]
    · unfold WrP
      rw [wr_face (b := 3) (F := mix F (fun t f => dbF n t (F t f)) t f) rfl ht hf]
      rw [← hs, mix_succ (G := fun t f => dbF n t (F t f))]
      rfl

def z (F : FF) (n t f : Nat) : List Int := build (n + n) (mix F (fun t f => dbF n t (F t f)) t f)
theorem row_ok {x : List Int} {n t : Nat} {F : FF} (hn : n ≤ 1000) (ht : t < n + n) : (obs Tryz.prog TY none ([], true) 56).loop 1 (fb Tryz.f23 2) (eI n t 0) (H x (z F n t 0) n (n + n)) .normal (eT n t) (H x (z F n (t + 1) 0) n (n + n)) := by
  have hfb : fb Tryz.f23 2 = .block 2 (.loop (lb Tryz.f23 2)) := by kernel_rfl
  refine comes_loop hfb rfl (fun f => eI n t f) (fun f => H x (z F n t f) n (n + n)) (fun f => f ≤ 4) (fun f => 4 - f) 0 (by omega) rfl rfl ?_
  intro f hf
  by_cases h4 : f < 4
  · exact .inl ⟨f + 1, by omega, by omega, bStep hn ht h4⟩
  · have : f = 4 := by omega
    subst this
    have e : z F n (t + 1) 0 = z F n t 4 := (build_mix_row _ _ _ _).symm
    rw [e]
    exact .inr (.inl ⟨rfl, bEnd (by rw [ilt_eq]; rfl)⟩)

abbrev LP (x z1 z2 : List Int) (n N t : Nat) : Prop := (obs Tryz.prog TY none ([], true) 56).loop 1 (fb Tryz.f23 2) (eI n t 0) (H x z1 n N) .normal (eT n t) (H x z2 n N)
def lpD (l : List (Nat × Value)) (h : Heap) : LoopD := ([1, 2, 4, 6, 7, 8], fun _ _ => (.normal, l, h))
abbrev CT (x z1 z2 : List Int) (n N t : Nat) (l : List (Nat × Value)) (ax : AX) : Prop := Comes none ([], true) Tryz.prog 56 1 (lb Tryz.f23 0) (eT n t) (H x z1 n N) ax l (H x z2 n N)
theorem tStep {x z1 z2 : List Int} {n N t : Nat} (h1 : ilt (t : Int) (IntKind.i64.wrap (2 * (n : Int))) = true) (h2 : LP x z1 z2 n N t) : CT x z1 z2 n N t (eV n t) .normal :=
  comes_run (S := { dir := dd [], know := kk [(25, true)], loop := loops [(2, lpD (eT n t) (H x z2 n N))] }) (k := 60) (ts := [1, 2, 4, 6, 7]) (junk := []) (h1 := H x z2 n N) (l0 := eV n t)
    (A := (ilt (t : Int) (IntKind.i64.wrap (2 * (n : Int))) = true) ∧ LP x z1 z2 n N t ∧ Dn .normal (eV n t) (H x z2 n N)) TY_ok mixed ok0 (show 1 ≤ (H x z2 n N).length from Nat.le_of_ble_eq_true rfl) (H_closed x z2 n N) rfl ⟨h1, h2, dn _ _ _⟩ (by kernel_rfl)
theorem tEnd {x z1 : List Int} {n N t : Nat} (h1 : ilt (t : Int) (IntKind.i64.wrap (2 * (n : Int))) = false) : CT x z1 z1 n N t eE (.exit 0) :=
  comes_run (S := { dir := dd [], know := kk [(25, false)], loop := noloop }) (k := 60) (ts := [2, 4]) (junk := []) (h1 := H x z1 n N) (l0 := eE)
    (A := (ilt (t : Int) (IntKind.i64.wrap (2 * (n : Int))) = false) ∧ Dn (.exit 0) eE (H x z1 n N)) TY_ok mixed ok0 (show 1 ≤ (H x z1 n N).length from Nat.le_of_ble_eq_true rfl) (H_closed x z1 n N) rfl ⟨h1, dn _ _ _⟩ (by kernel_rfl)

theorem all_ok {x : List Int} {n : Nat} {F : FF} (hn : n ≤ 1000) : (obs Tryz.prog TY none ([], true) 56).loop 1 (fb Tryz.f23 0) (eT n 0) (H x (build (n + n) F) n (n + n)) .normal eE (H x (build (n + n) fun t f => dbF n t (F t f)) n (n + n)) := by
  have hfb : fb Tryz.f23 0 = .block 0 (.loop (lb Tryz.f23 0)) := by kernel_rfl
  have hw : IntKind.i64.wrap (2 * (n : Int)) = 2 * (n : Int) := wrap_of (by omega) (by omega)
  refine comes_loop hfb rfl (fun t => eT n t) (fun t => H x (z F n t 0) n (n + n)) (fun t => t ≤ n + n) (fun t => n + n - t) 0 (by omega) rfl (by simp only [z, mix_zero]) ?_
  intro t ht
  by_cases h4 : t < n + n
  · refine .inl ⟨t + 1, by omega, by omega, ?_⟩
    have := tStep (by rw [hw, ilt_eq]; simp; omega) (row_ok (x := x) (F := F) hn h4)
    have e : eV n t = eT n (t + 1) := by simp only [eV, eT, wrap_succ (show t < 1000000000 by omega)]
    rw [e] at this
    exact this
  · have : t = n + n := by omega
    subst this
    have e : z F n (n + n) 0 = build (n + n) fun t f => dbF n t (F t f) := build_mix_all _ _ _
    rw [e]
    exact .inr (.inl ⟨rfl, tEnd (by rw [hw, ilt_eq]; simp; omega)⟩)

def Hc (x : List Int) (n : Nat) : Heap := [some ⟨ints x, false⟩, some ⟨[gS 0 n], true⟩, some ⟨[.slice none 0 0], true⟩]
abbrev Gu (x z : List Int) (n : Nat) : Prop := Gives Tryz.prog 20 [gV 0 n, gV 0 n] (Hc x n) (.ret (gRes 3 (n + n) 0)) (Hc x n ++ [some ⟨ints z, true⟩]) ∧ ∃ y, Hc x n ++ [some ⟨ints z, true⟩] = Hc x n ++ y
abbrev Ge (x : List Int) (n : Nat) : Prop := Gives Tryz.prog 20 [gV 0 n, gV 0 n] (Hc x n) (.ret (gErr 7)) (Hc x n) ∧ ∃ y, Hc x n = Hc x n ++ y
def Hf (x z : List Int) (n : Nat) : Heap := [some ⟨ints x, false⟩, some ⟨[gS 0 n], true⟩, some ⟨[gS 3 (n + n)], true⟩, some ⟨ints z, true⟩, some ⟨[gS 3 (n + n)], true⟩]
end RD2

/-- The double. -/
def dbL (x : List Int) (n : Nat) : List Int := build (n + n) fun t f => dbF n t (uniF x n t f)

theorem rdouble_ok {x : List Int} {n : Nat} (hn : n ≤ 500) (hx : x.length = 20 * n) (cx : chk n x = 0) :
    Sum Tryz.prog 23 [gV 0 n] [some ⟨ints x, false⟩] fun o h2 => o = .ret (gRes 1 (n + n) 0) ∧ h2 = [some ⟨ints x, false⟩] ++ [some ⟨ints (dbL x n), true⟩] := by
  have gu : RD2.Gu x (build (n + n) (uniF x n)) n := by
    have := gives_two_new (b := 0) (c := 0) (h := RD2.Hc x n) (w := false) (w' := false) (runion_ok (by omega) hx hx cx cx) rfl rfl
    rw [uni_build hx] at this
    exact this
  have hs : Sum Tryz.prog 23 [gV 0 n] [some ⟨ints x, false⟩] fun o h2 => o = .ret (gRes 3 (n + n) 0) ∧ h2 = RD2.Hf x (dbL x n) n :=
    tFun_sum (S := { dir := dd [((1, 2), (none, .ans fun _ _ => (gRes 3 (n + n) 0, RD2.Hc x n ++ [some ⟨ints (build (n + n) (uniF x n)), true⟩])))], know := kk [], loop := loops [(0, ([1, 2, 4, 6, 7], fun _ _ => (.normal, RD2.eE, RD2.H x (dbL x n) n (n + n))))] }) (k := 60) TY_ok mixed fn23_ok
      (A := RD2.Gu x (build (n + n) (uniF x n)) n ∧ (obs Tryz.prog TY none ([], true) 56).loop 1 (fb Tryz.f23 0) (RD2.eT n 0) (RD2.H x (build (n + n) (uniF x n)) n (n + n)) .normal RD2.eE (RD2.H x (dbL x n) n (n + n)) ∧
        AOut.ret (gRes 3 (n + n) 0) = .ret (gRes 3 (n + n) 0) ∧ RD2.Hf x (dbL x n) n = RD2.Hf x (dbL x n) n) ⟨gu, RD2.all_ok (by omega), rfl, rfl⟩ (by kernel_rfl)
  exact Sum.pick (ks := [0, 3]) hs (by kernel_rfl) ⟨⟨_, rfl, subL_plain _ _ (ints_plain x), id⟩, ⟨_, rfl, subL_plain _ _ (ints_plain _), id⟩, trivial⟩ (by kernel_rfl) ⟨_, rfl, _, _, rfl, sub_gV rfl, _, _, rfl, rfl, rfl⟩

theorem rdouble_bad {x : List Int} {n : Nat} (hx : x.length = 20 * n) (cx : chk n x = 7) : Sum Tryz.prog 23 [gV 0 n] [some ⟨ints x, false⟩] fun o _ => o = .ret (gErr 7) := by
  have gu : RD2.Ge x n := gives_two (b := 0) (c := 0) (h := RD2.Hc x n) (w := false) (w' := false) (runion_bad hx hx (.inl cx)) rfl rfl rfl
  exact tFun_sum (S := { dir := dd [((1, 2), ansD (gErr 7) id)], know := kk [], loop := noloop }) (k := 60) TY_ok mixed fn23_ok
    (A := RD2.Ge x n ∧ AOut.ret (gErr 7) = .ret (gErr 7)) ⟨gu, rfl⟩ (by kernel_rfl)
end Go.Ab
