/- The law GlueParts returns true over every heap that shows its arguments. Conditions: none beyond the given model and program. -/
import Derived.Test.YtnimgapjllhccaaGreatDoorTk
import Derived.Test.YtnimgapjllhccaaGreatDoorWa
import Derived.Test.YtnimgapjllhccaaGreatDoorGu
import Derived.Test.YtnimgapjllhccaaGreatDoorUa
import Derived.Test.YtnimgapjllhccaaGreatDoorRm
namespace Go.Ab
open Go.Proofs

theorem fn5_ok : Tryz.prog.funcs[5]? = some Tryz.f5 ∧ (Tryz.f5.name == "runtime.NumGoroutine") = false ∧ ∀ c, Tryz.f5.body = some c → codeOk Tryz.f5.ntmps c = true :=
  ⟨Tryz.func5, by kernel_rfl, codeOk_of (by kernel_rfl)⟩
namespace UC
open TL
def nilG : Value := .agg ⟨[.slice none 0 0]⟩
def nilB : Option Blk := some ⟨[.slice none 0 0], true⟩
theorem ok0 : codeOk 149 (lb Tryz.f5 0) = true := by kernel_rfl
theorem ok2 : codeOk 149 (lb Tryz.f5 2) = true := by kernel_rfl
def h0 (x y : List Int) (n m : Nat) : Heap := [some ⟨ints x, false⟩, some ⟨ints y, false⟩, cB (gS 0 n), cB (gS 1 m)]
def P0 (x y l : List Int) (n m : Nat) : Heap := [some ⟨ints x, false⟩, some ⟨ints y, false⟩, cB (gS 0 n), cB (gS 1 m), nB l, nilB]
def P1 (x y l u : List Int) (n m j : Nat) : Heap := [some ⟨ints x, false⟩, some ⟨ints y, false⟩, cB (gS 0 n), cB (gS 1 m), nB l, cB (gS 6 j), nB u]
theorem P0_cl (x y l : List Int) (n m : Nat) : closedH 6 (P0 x y l n m) :=
  closedH_cons (subL_plain _ _ (ints_plain _)) (closedH_cons (subL_plain _ _ (ints_plain _)) (closedH_cons (belowL_sub _ rfl) (closedH_cons (belowL_sub _ rfl) (closedH_cons (subL_plain _ _ (ints_plain _)) (closedH_cons (belowL_sub _ rfl) closedH_nil)))))
theorem P1_cl (x y l u : List Int) (n m j : Nat) : closedH 7 (P1 x y l u n m j) :=
  closedH_cons (subL_plain _ _ (ints_plain _)) (closedH_cons (subL_plain _ _ (ints_plain _)) (closedH_cons (belowL_sub _ rfl) (closedH_cons (belowL_sub _ rfl) (closedH_cons (subL_plain _ _ (ints_plain _)) (closedH_cons (belowL_sub _ rfl) (closedH_cons (subL_plain _ _ (ints_plain _)) closedH_nil))))))
def eL (n : Nat) (i : Int) : List (Nat × Value) := [(2, pt 2), (3, pt 3), (5, oS 4 n), (7, pt 5), (8, it i)]
def eM (n : Nat) : List (Nat × Value) := [(2, pt 2), (3, pt 3), (5, oS 4 n), (7, pt 5)]
def tL : List Nat := [2, 3, 5, 7, 8]
def eW (n i : Nat) : List (Nat × Value) := [(2, pt 2), (3, pt 3), (5, oS 4 n), (7, pt 5), (8, it (IntKind.i64.wrap ((i : Int) + 1)))]
abbrev CL (n i : Nat) (h : Heap) (ax : AX) (e : List (Nat × Value)) (h' : Heap) : Prop := Comes none ([], true) Tryz.prog 149 2 (lb Tryz.f5 0) (eL n i) h ax e h'
theorem pkL {x y l u : List Int} {n m i j b : Nat} {h0 : Heap} {ks : List Nat} (hks : ks = [0, 1, 2, 3, 4, 5, b]) (ho : orderOk 2 ks = true) (g0 : hblk h0 0 = some ⟨ints x, false⟩) (g1 : hblk h0 1 = some ⟨ints y, false⟩) (g2 : hblk h0 2 = cB (gS 0 n)) (g3 : hblk h0 3 = cB (gS 1 m)) (g4 : hblk h0 4 = nB l)
    (g5 : hblk h0 5 = cB (gS b j)) (gb : hblk h0 b = nB u) (hf : flags 2 h0 = [false, false]) {e : Env} (he : ∀ p ∈ eW n i, e p.1 = some p.2) (hw : IntKind.i64.wrap ((i : Int) + 1) = ((i + 1 : Nat) : Int)) :
    Ref 2 (envL (mkE 149 (eL n ((i + 1 : Nat) : Int)))) (P1 x y l u n m j) e h0 := by
  subst hks
  refine Ref.pick (ks := [0, 1, 2, 3, 4, 5, b]) ho ⟨⟨_, g0, subL_plain _ _ (ints_plain x), id⟩, ⟨_, g1, subL_plain _ _ (ints_plain y), id⟩, ⟨_, g2, ⟨_, _, rfl, .inr ⟨0, rfl, rfl⟩, rfl⟩, id⟩, ⟨_, g3, ⟨_, _, rfl, .inr ⟨1, rfl, rfl⟩, rfl⟩, id⟩, ⟨_, g4, subL_plain _ _ (ints_plain l), id⟩, ⟨_, g5, ⟨_, _, rfl, .inr ⟨b, rfl, rfl⟩, rfl⟩, id⟩, ⟨_, gb, subL_plain _ _ (ints_plain u), id⟩, trivial⟩ (by rw [hf]; rfl) ?_
  intro p hp
  simp only [eL, List.mem_cons, List.not_mem_nil, or_false] at hp
  rcases hp with rfl | rfl | rfl | rfl | rfl
  · exact ⟨_, he _ (.head _), 2, rfl, rfl⟩
  · exact ⟨_, he _ (.tail _ (.head _)), 3, rfl, rfl⟩
  · exact ⟨_, he _ (.tail _ (.tail _ (.head _))), .inr ⟨4, rfl, rfl⟩⟩
  · exact ⟨_, he _ (.tail _ (.tail _ (.tail _ (.head _)))), 5, rfl, rfl⟩
  · have h12 := he (8, it (IntKind.i64.wrap ((i : Int) + 1))) (.tail _ (.tail _ (.tail _ (.tail _ (.head _)))))
    rw [hw] at h12
    exact ⟨_, h12, rfl⟩

def E0 (x y l z u2 : List Int) (n m c j2 : Nat) : Heap := [some ⟨ints x, false⟩, some ⟨ints y, false⟩, cB (gS 0 n), cB (gS 1 m), nB l, cB (gS 8 j2), nB z, cB (gS 6 c), nB u2, cB (gS 8 j2)]
theorem round0 {x y l z u2 : List Int} {n m i N c j2 : Nat} (hw : IntKind.i64.wrap ((i : Int) + 1) = ((i + 1 : Nat) : Int)) (g0 : Gv 16 [oS 4 n] (P0 x y l n m) (.int .i64 (N : Int)) (P0 x y l n m)) (g1 : ilt (i : Int) (N : Int) = true) (g2 : Gv 24 [gV 0 n, .int .i64 (i : Int)] (P0 x y l n m) (gRes 6 c 0) (P0 x y l n m ++ [nB z])) (g3 : Gv 21 [nilG, gV 6 c] (P0 x y l n m ++ [nB z, cB (gS 6 c)]) (gRes 8 j2 0) (P0 x y l n m ++ [nB z, cB (gS 6 c), nB u2])) : CL n i (P0 x y l n m) .normal (eL n ((i + 1 : Nat) : Int)) (P1 x y l u2 n m j2) :=
  comes_pick (S := { dir := dd [((10, 2), ansD (.int .i64 (N : Int)) id), ((12, 2), an (gRes 6 c 0) (P0 x y l n m ++ [nB z])), ((13, 2), an (gRes 8 j2 0) (P0 x y l n m ++ [nB z, cB (gS 6 c), nB u2]))], know := kk [(55, true)], loop := noloop }) (k := 60) (ts := tL) (l0 := eW n i) (h0 := E0 x y l z u2 n m c j2)
    (A := (Gv 16 [oS 4 n] (P0 x y l n m) (.int .i64 (N : Int)) (P0 x y l n m)) ∧ (ilt (i : Int) (N : Int) = true) ∧ (Gv 24 [gV 0 n, .int .i64 (i : Int)] (P0 x y l n m) (gRes 6 c 0) (P0 x y l n m ++ [nB z])) ∧ (Gv 21 [nilG, gV 6 c] (P0 x y l n m ++ [nB z, cB (gS 6 c)]) (gRes 8 j2 0) (P0 x y l n m ++ [nB z, cB (gS 6 c), nB u2])) ∧ Dn .normal (eW n i) (E0 x y l z u2 n m c j2))
    TY_ok mixed ok0 (fun e he => pkL (x := x) (y := y) (l := l) (u := u2) (n := n) (m := m) (i := i) (j := j2) (b := 8) (ks := [0, 1, 2, 3, 4, 5, 8]) (h0 := E0 x y l z u2 n m c j2) rfl (by kernel_rfl) (by kernel_rfl) (by kernel_rfl) (by kernel_rfl) (by kernel_rfl) (by kernel_rfl) (by kernel_rfl) (by kernel_rfl) (by kernel_rfl) he hw)
    ⟨g0, g1, g2, g3, dn _ _ _⟩ (by kernel_rfl)
theorem end0 {x y l : List Int} {n m i N : Nat} (g0 : Gv 16 [oS 4 n] (P0 x y l n m) (.int .i64 (N : Int)) (P0 x y l n m)) (g1 : ilt (i : Int) (N : Int) = false) : CL n i (P0 x y l n m) (.exit 0) (eM n) (P0 x y l n m) :=
  comes_run (S := { dir := dd [((10, 2), ansD (.int .i64 (N : Int)) id)], know := kk [(55, false)], loop := noloop }) (k := 60) (ts := [2, 3, 5, 7]) (junk := []) (h1 := P0 x y l n m) (l0 := eM n) (A := (Gv 16 [oS 4 n] (P0 x y l n m) (.int .i64 (N : Int)) (P0 x y l n m)) ∧ (ilt (i : Int) (N : Int) = false) ∧ Dn (.exit 0) (eM n) (P0 x y l n m))
    TY_ok mixed ok0 (Nat.le_of_ble_eq_true rfl) (P0_cl x y l n m) rfl ⟨g0, g1, dn _ _ _⟩ (by kernel_rfl)

def E1 (x y l u z u2 : List Int) (n m j c j2 : Nat) : Heap := [some ⟨ints x, false⟩, some ⟨ints y, false⟩, cB (gS 0 n), cB (gS 1 m), nB l, cB (gS 9 j2), nB u, nB z, cB (gS 7 c), nB u2, cB (gS 9 j2)]
theorem round1 {x y l u z u2 : List Int} {n m j i N c j2 : Nat} (hw : IntKind.i64.wrap ((i : Int) + 1) = ((i + 1 : Nat) : Int)) (g0 : Gv 16 [oS 4 n] (P1 x y l u n m j) (.int .i64 (N : Int)) (P1 x y l u n m j)) (g1 : ilt (i : Int) (N : Int) = true) (g2 : Gv 24 [gV 0 n, .int .i64 (i : Int)] (P1 x y l u n m j) (gRes 7 c 0) (P1 x y l u n m j ++ [nB z])) (g3 : Gv 21 [gV 6 j, gV 7 c] (P1 x y l u n m j ++ [nB z, cB (gS 7 c)]) (gRes 9 j2 0) (P1 x y l u n m j ++ [nB z, cB (gS 7 c), nB u2])) : CL n i (P1 x y l u n m j) .normal (eL n ((i + 1 : Nat) : Int)) (P1 x y l u2 n m j2) :=
  comes_pick (S := { dir := dd [((10, 2), ansD (.int .i64 (N : Int)) id), ((12, 2), an (gRes 7 c 0) (P1 x y l u n m j ++ [nB z])), ((13, 2), an (gRes 9 j2 0) (P1 x y l u n m j ++ [nB z, cB (gS 7 c), nB u2]))], know := kk [(55, true)], loop := noloop }) (k := 60) (ts := tL) (l0 := eW n i) (h0 := E1 x y l u z u2 n m j c j2)
    (A := (Gv 16 [oS 4 n] (P1 x y l u n m j) (.int .i64 (N : Int)) (P1 x y l u n m j)) ∧ (ilt (i : Int) (N : Int) = true) ∧ (Gv 24 [gV 0 n, .int .i64 (i : Int)] (P1 x y l u n m j) (gRes 7 c 0) (P1 x y l u n m j ++ [nB z])) ∧ (Gv 21 [gV 6 j, gV 7 c] (P1 x y l u n m j ++ [nB z, cB (gS 7 c)]) (gRes 9 j2 0) (P1 x y l u n m j ++ [nB z, cB (gS 7 c), nB u2])) ∧ Dn .normal (eW n i) (E1 x y l u z u2 n m j c j2))
    TY_ok mixed ok0 (fun e he => pkL (x := x) (y := y) (l := l) (u := u2) (n := n) (m := m) (i := i) (j := j2) (b := 9) (ks := [0, 1, 2, 3, 4, 5, 9]) (h0 := E1 x y l u z u2 n m j c j2) rfl (by kernel_rfl) (by kernel_rfl) (by kernel_rfl) (by kernel_rfl) (by kernel_rfl) (by kernel_rfl) (by kernel_rfl) (by kernel_rfl) (by kernel_rfl) he hw)
    ⟨g0, g1, g2, g3, dn _ _ _⟩ (by kernel_rfl)
theorem end1 {x y l u : List Int} {n m j i N : Nat} (g0 : Gv 16 [oS 4 n] (P1 x y l u n m j) (.int .i64 (N : Int)) (P1 x y l u n m j)) (g1 : ilt (i : Int) (N : Int) = false) : CL n i (P1 x y l u n m j) (.exit 0) (eM n) (P1 x y l u n m j) :=
  comes_run (S := { dir := dd [((10, 2), ansD (.int .i64 (N : Int)) id)], know := kk [(55, false)], loop := noloop }) (k := 60) (ts := [2, 3, 5, 7]) (junk := []) (h1 := P1 x y l u n m j) (l0 := eM n) (A := (Gv 16 [oS 4 n] (P1 x y l u n m j) (.int .i64 (N : Int)) (P1 x y l u n m j)) ∧ (ilt (i : Int) (N : Int) = false) ∧ Dn (.exit 0) (eM n) (P1 x y l u n m j))
    TY_ok mixed ok0 (Nat.le_of_ble_eq_true rfl) (P1_cl x y l u n m j) rfl ⟨g0, g1, dn _ _ _⟩ (by kernel_rfl)

def HA (x y l u b l2 l3 : List Int) (n m q : Nat) : Heap := [some ⟨ints x, false⟩, some ⟨ints y, false⟩, cB (gS 0 n), cB (gS 1 m), nB l, cB (gS 6 n), nB u, nB b, cB (gS 7 q), nB l2, nB l3]
theorem HA_cl (x y l u b l2 l3 : List Int) (n m q : Nat) : closedH 11 (HA x y l u b l2 l3 n m q) :=
  closedH_cons (subL_plain _ _ (ints_plain _)) (closedH_cons (subL_plain _ _ (ints_plain _)) (closedH_cons (belowL_sub _ rfl) (closedH_cons (belowL_sub _ rfl) (closedH_cons (subL_plain _ _ (ints_plain _)) (closedH_cons (belowL_sub _ rfl) (closedH_cons (subL_plain _ _ (ints_plain _)) (closedH_cons (subL_plain _ _ (ints_plain _)) (closedH_cons (belowL_sub _ rfl) (closedH_cons (subL_plain _ _ (ints_plain _)) (closedH_cons (subL_plain _ _ (ints_plain _)) closedH_nil))))))))))
def fA (n : Nat) (i : Int) : List (Nat × Value) := [(2, pt 2), (5, oS 4 n), (13, pt 8), (18, it i)]
abbrev DA (x y l u b l2 l3 : List Int) (n m q : Nat) (i : Nat) (ax : AX) (e : List (Nat × Value)) : Prop := Comes none ([], true) Tryz.prog 149 2 (lb Tryz.f5 2) (fA n i) (HA x y l u b l2 l3 n m q) ax e (HA x y l u b l2 l3 n m q)
theorem endA {x y l u b l2 l3 : List Int} {n m q : Nat} {i N : Nat} (g0 : Gv 16 [oS 4 n] (HA x y l u b l2 l3 n m q) (.int .i64 (N : Int)) (HA x y l u b l2 l3 n m q)) (g1 : ilt (i : Int) (N : Int) = false) : DA x y l u b l2 l3 n m q i (.exit 2) [] :=
  comes_run (S := { dir := dd [((23, 2), ansD (.int .i64 (N : Int)) id)], know := kk [(122, false)], loop := noloop }) (k := 60) (ts := []) (junk := []) (h1 := (HA x y l u b l2 l3 n m q)) (l0 := []) (A := (Gv 16 [oS 4 n] (HA x y l u b l2 l3 n m q) (.int .i64 (N : Int)) (HA x y l u b l2 l3 n m q)) ∧ (ilt (i : Int) (N : Int) = false) ∧ Dn (.exit 2) [] (HA x y l u b l2 l3 n m q))
    TY_ok mixed ok2 (Nat.le_of_ble_eq_true rfl) (HA_cl x y l u b l2 l3 n m q) rfl ⟨g0, g1, dn _ _ _⟩ (by kernel_rfl)
theorem roundA {x y l u b l2 l3 z : List Int} {n m q i N c : Nat} (g0 : Gv 16 [oS 4 n] (HA x y l u b l2 l3 n m q) (.int .i64 (N : Int)) (HA x y l u b l2 l3 n m q)) (g1 : ilt (i : Int) (N : Int) = true) (g2 : Gv 24 [gV 7 q, .int .i64 (i : Int)] (HA x y l u b l2 l3 n m q) (gRes 11 c 0) (HA x y l u b l2 l3 n m q ++ [nB z])) (g3 : Gv 24 [gV 0 n, .int .i64 (i : Int)] (HA x y l u b l2 l3 n m q ++ [nB z, cB (gS 11 c)]) (gRes 13 c 0) (HA x y l u b l2 l3 n m q ++ [nB z, cB (gS 11 c), nB z])) (g4 : Gv 19 [gV 11 c, gV 13 c] (HA x y l u b l2 l3 n m q ++ [nB z, cB (gS 11 c), nB z, cB (gS 13 c)]) (.bool true) (HA x y l u b l2 l3 n m q ++ [nB z, cB (gS 11 c), nB z, cB (gS 13 c)])) : DA x y l u b l2 l3 n m q i .normal (fA n (IntKind.i64.wrap ((i : Int) + 1))) :=
  comes_run (S := { dir := dd [((23, 2), ansD (.int .i64 (N : Int)) id), ((25, 2), an (gRes 11 c 0) (HA x y l u b l2 l3 n m q ++ [nB z])), ((26, 2), an (gRes 13 c 0) (HA x y l u b l2 l3 n m q ++ [nB z, cB (gS 11 c), nB z])), ((27, 9), ansD (.bool true) id)], know := kk [(122, true)], loop := noloop }) (k := 60) (ts := [2, 5, 13, 18]) (junk := [nB z, cB (gS 11 c), nB z, cB (gS 13 c)]) (h1 := (HA x y l u b l2 l3 n m q)) (l0 := (fA n (IntKind.i64.wrap ((i : Int) + 1)))) (A := (Gv 16 [oS 4 n] (HA x y l u b l2 l3 n m q) (.int .i64 (N : Int)) (HA x y l u b l2 l3 n m q)) ∧ (ilt (i : Int) (N : Int) = true) ∧ (Gv 24 [gV 7 q, .int .i64 (i : Int)] (HA x y l u b l2 l3 n m q) (gRes 11 c 0) (HA x y l u b l2 l3 n m q ++ [nB z])) ∧ (Gv 24 [gV 0 n, .int .i64 (i : Int)] (HA x y l u b l2 l3 n m q ++ [nB z, cB (gS 11 c)]) (gRes 13 c 0) (HA x y l u b l2 l3 n m q ++ [nB z, cB (gS 11 c), nB z])) ∧ (Gv 19 [gV 11 c, gV 13 c] (HA x y l u b l2 l3 n m q ++ [nB z, cB (gS 11 c), nB z, cB (gS 13 c)]) (.bool true) (HA x y l u b l2 l3 n m q ++ [nB z, cB (gS 11 c), nB z, cB (gS 13 c)])) ∧ Dn .normal (fA n (IntKind.i64.wrap ((i : Int) + 1))) (HA x y l u b l2 l3 n m q ++ [nB z, cB (gS 11 c), nB z, cB (gS 13 c)]))
    TY_ok mixed ok2 (Nat.le_of_ble_eq_true rfl) (HA_cl x y l u b l2 l3 n m q) rfl ⟨g0, g1, g2, g3, g4, dn _ _ _⟩ (by kernel_rfl)

def HB (x y l b l2 l3 : List Int) (m q : Nat) : Heap := [some ⟨ints x, false⟩, some ⟨ints y, false⟩, cB (gS 0 0), cB (gS 1 m), nB l, nilB, nB b, cB (gS 6 q), nB l2, nB l3]
theorem HB_cl (x y l b l2 l3 : List Int) (m q : Nat) : closedH 10 (HB x y l b l2 l3 m q) :=
  closedH_cons (subL_plain _ _ (ints_plain _)) (closedH_cons (subL_plain _ _ (ints_plain _)) (closedH_cons (belowL_sub _ rfl) (closedH_cons (belowL_sub _ rfl) (closedH_cons (subL_plain _ _ (ints_plain _)) (closedH_cons (belowL_sub _ rfl) (closedH_cons (subL_plain _ _ (ints_plain _)) (closedH_cons (belowL_sub _ rfl) (closedH_cons (subL_plain _ _ (ints_plain _)) (closedH_cons (subL_plain _ _ (ints_plain _)) closedH_nil)))))))))
def fB (i : Int) : List (Nat × Value) := [(2, pt 2), (5, oS 4 0), (13, pt 7), (18, it i)]
abbrev DB (x y l b l2 l3 : List Int) (m q : Nat) (i : Nat) (ax : AX) (e : List (Nat × Value)) : Prop := Comes none ([], true) Tryz.prog 149 2 (lb Tryz.f5 2) (fB i) (HB x y l b l2 l3 m q) ax e (HB x y l b l2 l3 m q)
theorem endB {x y l b l2 l3 : List Int} {m q : Nat} {i N : Nat} (g0 : Gv 16 [oS 4 0] (HB x y l b l2 l3 m q) (.int .i64 (N : Int)) (HB x y l b l2 l3 m q)) (g1 : ilt (i : Int) (N : Int) = false) : DB x y l b l2 l3 m q i (.exit 2) [] :=
  comes_run (S := { dir := dd [((23, 2), ansD (.int .i64 (N : Int)) id)], know := kk [(122, false)], loop := noloop }) (k := 60) (ts := []) (junk := []) (h1 := (HB x y l b l2 l3 m q)) (l0 := []) (A := (Gv 16 [oS 4 0] (HB x y l b l2 l3 m q) (.int .i64 (N : Int)) (HB x y l b l2 l3 m q)) ∧ (ilt (i : Int) (N : Int) = false) ∧ Dn (.exit 2) [] (HB x y l b l2 l3 m q))
    TY_ok mixed ok2 (Nat.le_of_ble_eq_true rfl) (HB_cl x y l b l2 l3 m q) rfl ⟨g0, g1, dn _ _ _⟩ (by kernel_rfl)

def HC (x y l l2 l3 : List Int) : Heap := [some ⟨ints x, false⟩, some ⟨ints y, false⟩, cB (gS 0 0), cB (gS 1 0), nB l, nilB, cB (gS 0 0), nB l2, nB l3]
theorem HC_cl (x y l l2 l3 : List Int) : closedH 9 (HC x y l l2 l3) :=
  closedH_cons (subL_plain _ _ (ints_plain _)) (closedH_cons (subL_plain _ _ (ints_plain _)) (closedH_cons (belowL_sub _ rfl) (closedH_cons (belowL_sub _ rfl) (closedH_cons (subL_plain _ _ (ints_plain _)) (closedH_cons (belowL_sub _ rfl) (closedH_cons (belowL_sub _ rfl) (closedH_cons (subL_plain _ _ (ints_plain _)) (closedH_cons (subL_plain _ _ (ints_plain _)) closedH_nil))))))))
def fC (i : Int) : List (Nat × Value) := [(2, pt 2), (5, oS 4 0), (13, pt 6), (18, it i)]
abbrev DC (x y l l2 l3 : List Int) (i : Nat) (ax : AX) (e : List (Nat × Value)) : Prop := Comes none ([], true) Tryz.prog 149 2 (lb Tryz.f5 2) (fC i) (HC x y l l2 l3) ax e (HC x y l l2 l3)
theorem endC {x y l l2 l3 : List Int} {i N : Nat} (g0 : Gv 16 [oS 4 0] (HC x y l l2 l3) (.int .i64 (N : Int)) (HC x y l l2 l3)) (g1 : ilt (i : Int) (N : Int) = false) : DC x y l l2 l3 i (.exit 2) [] :=
  comes_run (S := { dir := dd [((23, 2), ansD (.int .i64 (N : Int)) id)], know := kk [(122, false)], loop := noloop }) (k := 60) (ts := []) (junk := []) (h1 := (HC x y l l2 l3)) (l0 := []) (A := (Gv 16 [oS 4 0] (HC x y l l2 l3) (.int .i64 (N : Int)) (HC x y l l2 l3)) ∧ (ilt (i : Int) (N : Int) = false) ∧ Dn (.exit 2) [] (HC x y l l2 l3))
    TY_ok mixed ok2 (Nat.le_of_ble_eq_true rfl) (HC_cl x y l l2 l3) rfl ⟨g0, g1, dn _ _ _⟩ (by kernel_rfl)

theorem runBigN {x y : List Int} {n m : Nat} (g0 : Gv 8 [] (h0 x y n m) (.bool true) (h0 x y n m)) (g1 : ilt 6 (n : Int) = true) : Sum Tryz.prog 5 [gV 0 n, gV 1 m] [some ⟨ints x, false⟩, some ⟨ints y, false⟩] fun out _ => out = .ret (.bool true) :=
  tFun_sum (S := { dir := dd [((1, 0), ansD (.bool true) id), ((3, 5), knowD true)], know := kk [], loop := noloop }) (k := 60) TY_ok mixed fn5_ok
    (A := (Gv 8 [] (h0 x y n m) (.bool true) (h0 x y n m)) ∧ (ilt 6 (n : Int) = true) ∧ AOut.ret (.bool true) = .ret (.bool true)) ⟨g0, g1, rfl⟩ (by kernel_rfl)

theorem runBigM {x y : List Int} {n m : Nat} (g0 : Gv 8 [] (h0 x y n m) (.bool true) (h0 x y n m)) (g1 : ilt 6 (n : Int) = false) (g2 : ilt 6 (m : Int) = true) : Sum Tryz.prog 5 [gV 0 n, gV 1 m] [some ⟨ints x, false⟩, some ⟨ints y, false⟩] fun out _ => out = .ret (.bool true) :=
  tFun_sum (S := { dir := dd [((1, 0), ansD (.bool true) id), ((3, 5), knowD false), ((3, 11), knowD true)], know := kk [], loop := noloop }) (k := 60) TY_ok mixed fn5_ok
    (A := (Gv 8 [] (h0 x y n m) (.bool true) (h0 x y n m)) ∧ (ilt 6 (n : Int) = false) ∧ (ilt 6 (m : Int) = true) ∧ AOut.ret (.bool true) = .ret (.bool true)) ⟨g0, g1, g2, rfl⟩ (by kernel_rfl)

theorem runBadX {x y : List Int} {n m : Nat} (g0 : Gv 8 [] (h0 x y n m) (.bool true) (h0 x y n m)) (g1 : ilt 6 (n : Int) = false) (g2 : ilt 6 (m : Int) = false) (g3 : Gv 10 [gV 0 n] (h0 x y n m) (.int .i64 7) (h0 x y n m)) : Sum Tryz.prog 5 [gV 0 n, gV 1 m] [some ⟨ints x, false⟩, some ⟨ints y, false⟩] fun out _ => out = .ret (.bool true) :=
  tFun_sum (S := { dir := dd [((1, 0), ansD (.bool true) id), ((3, 5), knowD false), ((3, 11), knowD false), ((3, 12), ansD (.int .i64 7) id)], know := kk [], loop := noloop }) (k := 60) TY_ok mixed fn5_ok
    (A := (Gv 8 [] (h0 x y n m) (.bool true) (h0 x y n m)) ∧ (ilt 6 (n : Int) = false) ∧ (ilt 6 (m : Int) = false) ∧ (Gv 10 [gV 0 n] (h0 x y n m) (.int .i64 7) (h0 x y n m)) ∧ AOut.ret (.bool true) = .ret (.bool true)) ⟨g0, g1, g2, g3, rfl⟩ (by kernel_rfl)

theorem runBadY {x y : List Int} {n m : Nat} (g0 : Gv 8 [] (h0 x y n m) (.bool true) (h0 x y n m)) (g1 : ilt 6 (n : Int) = false) (g2 : ilt 6 (m : Int) = false) (g3 : Gv 10 [gV 0 n] (h0 x y n m) (.int .i64 0) (h0 x y n m)) (g4 : Gv 10 [gV 1 m] (h0 x y n m) (.int .i64 7) (h0 x y n m)) : Sum Tryz.prog 5 [gV 0 n, gV 1 m] [some ⟨ints x, false⟩, some ⟨ints y, false⟩] fun out _ => out = .ret (.bool true) :=
  tFun_sum (S := { dir := dd [((1, 0), ansD (.bool true) id), ((3, 5), knowD false), ((3, 11), knowD false), ((3, 12), ansD (.int .i64 0) id), ((3, 17), ansD (.int .i64 7) id)], know := kk [], loop := noloop }) (k := 60) TY_ok mixed fn5_ok
    (A := (Gv 8 [] (h0 x y n m) (.bool true) (h0 x y n m)) ∧ (ilt 6 (n : Int) = false) ∧ (ilt 6 (m : Int) = false) ∧ (Gv 10 [gV 0 n] (h0 x y n m) (.int .i64 0) (h0 x y n m)) ∧ (Gv 10 [gV 1 m] (h0 x y n m) (.int .i64 7) (h0 x y n m)) ∧ AOut.ret (.bool true) = .ret (.bool true)) ⟨g0, g1, g2, g3, g4, rfl⟩ (by kernel_rfl)

theorem runA {x y l u b l2 l3 : List Int} {n1 n2 n3 : Int} {n m q : Nat} (g0 : Gv 8 [] (h0 x y n m) (.bool true) (h0 x y n m)) (g1 : ilt 6 (n : Int) = false) (g2 : ilt 6 (m : Int) = false) (g3 : Gv 10 [gV 0 n] (h0 x y n m) (.int .i64 0) (h0 x y n m)) (g4 : Gv 10 [gV 1 m] (h0 x y n m) (.int .i64 0) (h0 x y n m)) (g5 : Gv 15 [gV 0 n] (h0 x y n m) (PV.pRes (oS 4 n) 0) (h0 x y n m ++ [nB l])) (g6 : (obs Tryz.prog TY none ([], true) 149).loop 2 (fb Tryz.f5 0) (eL n 0) (P0 x y l n m) .normal (eM n) (P1 x y l u n m n)) (g7 : Gv 21 [gV 0 n, gV 1 m] (P1 x y l u n m n) (gRes 7 q 0) (P1 x y l u n m n ++ [nB b])) (g8 : Gv 15 [gV 1 m] (P1 x y l u n m n ++ [nB b, cB (gS 7 q)]) (PV.pRes (oS 9 m) 0) (P1 x y l u n m n ++ [nB b, cB (gS 7 q), nB l2])) (g9 : Gv 15 [gV 7 q] (P1 x y l u n m n ++ [nB b, cB (gS 7 q), nB l2]) (PV.pRes (oS 10 q) 0) (P1 x y l u n m n ++ [nB b, cB (gS 7 q), nB l2, nB l3])) (g10 : Gv 25 [gV 6 n, gV 0 n] (HA x y l u b l2 l3 n m q) (.bool true) (HA x y l u b l2 l3 n m q)) (g11 : Gv 16 [oS 10 q] (HA x y l u b l2 l3 n m q) (.int .i64 n3) (HA x y l u b l2 l3 n m q)) (g12 : Gv 16 [oS 4 n] (HA x y l u b l2 l3 n m q) (.int .i64 n1) (HA x y l u b l2 l3 n m q)) (g13 : Gv 16 [oS 9 m] (HA x y l u b l2 l3 n m q) (.int .i64 n2) (HA x y l u b l2 l3 n m q)) (g14 : (n3 != IntKind.i64.wrap (n1 + n2)) = false) (g15 : (obs Tryz.prog TY none ([], true) 149).loop 2 (fb Tryz.f5 2) (fA n 0) (HA x y l u b l2 l3 n m q) .normal [] (HA x y l u b l2 l3 n m q)) : Sum Tryz.prog 5 [gV 0 n, gV 1 m] [some ⟨ints x, false⟩, some ⟨ints y, false⟩] fun out _ => out = .ret (.bool true) :=
  tFun_sum (S := { dir := dd [((1, 0), ansD (.bool true) id), ((3, 5), knowD false), ((3, 11), knowD false), ((3, 12), ansD (.int .i64 0) id), ((3, 17), ansD (.int .i64 0) id), ((5, 1), an (PV.pRes (oS 4 n) 0) (h0 x y n m ++ [nB l])), ((17, 2), an (gRes 7 q 0) (P1 x y l u n m n ++ [nB b])), ((18, 1), an (PV.pRes (oS 9 m) 0) (P1 x y l u n m n ++ [nB b, cB (gS 7 q), nB l2])), ((19, 1), an (PV.pRes (oS 10 q) 0) (P1 x y l u n m n ++ [nB b, cB (gS 7 q), nB l2, nB l3])), ((20, 13), ansD (.bool true) id), ((20, 18), ansD (.int .i64 n3) id), ((20, 20), ansD (.int .i64 n1) id), ((20, 22), ansD (.int .i64 n2) id)], know := kk [(118, false)], loop := loops [(0, (tL, fun _ _ => (.normal, eM n, (P1 x y l u n m n)))), (2, ([2, 5, 13, 18], fun _ _ => (.normal, [], (HA x y l u b l2 l3 n m q))))] }) (k := 90) TY_ok mixed fn5_ok
    (A := (Gv 8 [] (h0 x y n m) (.bool true) (h0 x y n m)) ∧ (ilt 6 (n : Int) = false) ∧ (ilt 6 (m : Int) = false) ∧ (Gv 10 [gV 0 n] (h0 x y n m) (.int .i64 0) (h0 x y n m)) ∧ (Gv 10 [gV 1 m] (h0 x y n m) (.int .i64 0) (h0 x y n m)) ∧ (Gv 15 [gV 0 n] (h0 x y n m) (PV.pRes (oS 4 n) 0) (h0 x y n m ++ [nB l])) ∧ ((obs Tryz.prog TY none ([], true) 149).loop 2 (fb Tryz.f5 0) (eL n 0) (P0 x y l n m) .normal (eM n) (P1 x y l u n m n)) ∧ (Gv 21 [gV 0 n, gV 1 m] (P1 x y l u n m n) (gRes 7 q 0) (P1 x y l u n m n ++ [nB b])) ∧ (Gv 15 [gV 1 m] (P1 x y l u n m n ++ [nB b, cB (gS 7 q)]) (PV.pRes (oS 9 m) 0) (P1 x y l u n m n ++ [nB b, cB (gS 7 q), nB l2])) ∧ (Gv 15 [gV 7 q] (P1 x y l u n m n ++ [nB b, cB (gS 7 q), nB l2]) (PV.pRes (oS 10 q) 0) (P1 x y l u n m n ++ [nB b, cB (gS 7 q), nB l2, nB l3])) ∧ (Gv 25 [gV 6 n, gV 0 n] (HA x y l u b l2 l3 n m q) (.bool true) (HA x y l u b l2 l3 n m q)) ∧ (Gv 16 [oS 10 q] (HA x y l u b l2 l3 n m q) (.int .i64 n3) (HA x y l u b l2 l3 n m q)) ∧ (Gv 16 [oS 4 n] (HA x y l u b l2 l3 n m q) (.int .i64 n1) (HA x y l u b l2 l3 n m q)) ∧ (Gv 16 [oS 9 m] (HA x y l u b l2 l3 n m q) (.int .i64 n2) (HA x y l u b l2 l3 n m q)) ∧ ((n3 != IntKind.i64.wrap (n1 + n2)) = false) ∧ ((obs Tryz.prog TY none ([], true) 149).loop 2 (fb Tryz.f5 2) (fA n 0) (HA x y l u b l2 l3 n m q) .normal [] (HA x y l u b l2 l3 n m q)) ∧ AOut.ret (.bool true) = .ret (.bool true)) ⟨g0, g1, g2, g3, g4, g5, g6, g7, g8, g9, g10, g11, g12, g13, g14, g15, rfl⟩ (by kernel_rfl)

theorem runB {x y l b l2 l3 : List Int} {n1 n2 n3 : Int} {m q : Nat} (g0 : Gv 8 [] (h0 x y 0 m) (.bool true) (h0 x y 0 m)) (g1 : ilt 6 (m : Int) = false) (g2 : Gv 10 [gV 0 0] (h0 x y 0 m) (.int .i64 0) (h0 x y 0 m)) (g3 : Gv 10 [gV 1 m] (h0 x y 0 m) (.int .i64 0) (h0 x y 0 m)) (g4 : Gv 15 [gV 0 0] (h0 x y 0 m) (PV.pRes (oS 4 0) 0) (h0 x y 0 m ++ [nB l])) (g5 : (obs Tryz.prog TY none ([], true) 149).loop 2 (fb Tryz.f5 0) (eL 0 0) (P0 x y l 0 m) .normal (eM 0) (P0 x y l 0 m)) (g6 : Gv 21 [gV 0 0, gV 1 m] (P0 x y l 0 m) (gRes 6 q 0) (P0 x y l 0 m ++ [nB b])) (g7 : Gv 15 [gV 1 m] (P0 x y l 0 m ++ [nB b, cB (gS 6 q)]) (PV.pRes (oS 8 m) 0) (P0 x y l 0 m ++ [nB b, cB (gS 6 q), nB l2])) (g8 : Gv 15 [gV 6 q] (P0 x y l 0 m ++ [nB b, cB (gS 6 q), nB l2]) (PV.pRes (oS 9 q) 0) (P0 x y l 0 m ++ [nB b, cB (gS 6 q), nB l2, nB l3])) (g9 : Gv 25 [nilG, gV 0 0] (HB x y l b l2 l3 m q) (.bool true) (HB x y l b l2 l3 m q)) (g10 : Gv 16 [oS 9 q] (HB x y l b l2 l3 m q) (.int .i64 n3) (HB x y l b l2 l3 m q)) (g11 : Gv 16 [oS 4 0] (HB x y l b l2 l3 m q) (.int .i64 n1) (HB x y l b l2 l3 m q)) (g12 : Gv 16 [oS 8 m] (HB x y l b l2 l3 m q) (.int .i64 n2) (HB x y l b l2 l3 m q)) (g13 : (n3 != IntKind.i64.wrap (n1 + n2)) = false) (g14 : (obs Tryz.prog TY none ([], true) 149).loop 2 (fb Tryz.f5 2) (fB 0) (HB x y l b l2 l3 m q) .normal [] (HB x y l b l2 l3 m q)) : Sum Tryz.prog 5 [gV 0 0, gV 1 m] [some ⟨ints x, false⟩, some ⟨ints y, false⟩] fun out _ => out = .ret (.bool true) :=
  tFun_sum (S := { dir := dd [((1, 0), ansD (.bool true) id), ((3, 11), knowD false), ((3, 12), ansD (.int .i64 0) id), ((3, 17), ansD (.int .i64 0) id), ((5, 1), an (PV.pRes (oS 4 0) 0) (h0 x y 0 m ++ [nB l])), ((17, 2), an (gRes 6 q 0) (P0 x y l 0 m ++ [nB b])), ((18, 1), an (PV.pRes (oS 8 m) 0) (P0 x y l 0 m ++ [nB b, cB (gS 6 q), nB l2])), ((19, 1), an (PV.pRes (oS 9 q) 0) (P0 x y l 0 m ++ [nB b, cB (gS 6 q), nB l2, nB l3])), ((20, 13), ansD (.bool true) id), ((20, 18), ansD (.int .i64 n3) id), ((20, 20), ansD (.int .i64 n1) id), ((20, 22), ansD (.int .i64 n2) id)], know := kk [(118, false)], loop := loops [(0, (tL, fun _ _ => (.normal, eM 0, (P0 x y l 0 m)))), (2, ([2, 5, 13, 18], fun _ _ => (.normal, [], (HB x y l b l2 l3 m q))))] }) (k := 90) TY_ok mixed fn5_ok
    (A := (Gv 8 [] (h0 x y 0 m) (.bool true) (h0 x y 0 m)) ∧ (ilt 6 (m : Int) = false) ∧ (Gv 10 [gV 0 0] (h0 x y 0 m) (.int .i64 0) (h0 x y 0 m)) ∧ (Gv 10 [gV 1 m] (h0 x y 0 m) (.int .i64 0) (h0 x y 0 m)) ∧ (Gv 15 [gV 0 0] (h0 x y 0 m) (PV.pRes (oS 4 0) 0) (h0 x y 0 m ++ [nB l])) ∧ ((obs Tryz.prog TY none ([], true) 149).loop 2 (fb Tryz.f5 0) (eL 0 0) (P0 x y l 0 m) .normal (eM 0) (P0 x y l 0 m)) ∧ (Gv 21 [gV 0 0, gV 1 m] (P0 x y l 0 m) (gRes 6 q 0) (P0 x y l 0 m ++ [nB b])) ∧ (Gv 15 [gV 1 m] (P0 x y l 0 m ++ [nB b, cB (gS 6 q)]) (PV.pRes (oS 8 m) 0) (P0 x y l 0 m ++ [nB b, cB (gS 6 q), nB l2])) ∧ (Gv 15 [gV 6 q] (P0 x y l 0 m ++ [nB b, cB (gS 6 q), nB l2]) (PV.pRes (oS 9 q) 0) (P0 x y l 0 m ++ [nB b, cB (gS 6 q), nB l2, nB l3])) ∧ (Gv 25 [nilG, gV 0 0] (HB x y l b l2 l3 m q) (.bool true) (HB x y l b l2 l3 m q)) ∧ (Gv 16 [oS 9 q] (HB x y l b l2 l3 m q) (.int .i64 n3) (HB x y l b l2 l3 m q)) ∧ (Gv 16 [oS 4 0] (HB x y l b l2 l3 m q) (.int .i64 n1) (HB x y l b l2 l3 m q)) ∧ (Gv 16 [oS 8 m] (HB x y l b l2 l3 m q) (.int .i64 n2) (HB x y l b l2 l3 m q)) ∧ ((n3 != IntKind.i64.wrap (n1 + n2)) = false) ∧ ((obs Tryz.prog TY none ([], true) 149).loop 2 (fb Tryz.f5 2) (fB 0) (HB x y l b l2 l3 m q) .normal [] (HB x y l b l2 l3 m q)) ∧ AOut.ret (.bool true) = .ret (.bool true)) ⟨g0, g1, g2, g3, g4, g5, g6, g7, g8, g9, g10, g11, g12, g13, g14, rfl⟩ (by kernel_rfl)

theorem runC {x y l l2 l3 : List Int} {n1 n2 n3 : Int} (g0 : Gv 8 [] (h0 x y 0 0) (.bool true) (h0 x y 0 0)) (g1 : Gv 10 [gV 0 0] (h0 x y 0 0) (.int .i64 0) (h0 x y 0 0)) (g2 : Gv 10 [gV 1 0] (h0 x y 0 0) (.int .i64 0) (h0 x y 0 0)) (g3 : Gv 15 [gV 0 0] (h0 x y 0 0) (PV.pRes (oS 4 0) 0) (h0 x y 0 0 ++ [nB l])) (g4 : (obs Tryz.prog TY none ([], true) 149).loop 2 (fb Tryz.f5 0) (eL 0 0) (P0 x y l 0 0) .normal (eM 0) (P0 x y l 0 0)) (g5 : Gv 21 [gV 0 0, gV 1 0] (P0 x y l 0 0) (gRes 0 0 0) (P0 x y l 0 0)) (g6 : Gv 15 [gV 1 0] (P0 x y l 0 0 ++ [cB (gS 0 0)]) (PV.pRes (oS 7 0) 0) (P0 x y l 0 0 ++ [cB (gS 0 0), nB l2])) (g7 : Gv 15 [gV 0 0] (P0 x y l 0 0 ++ [cB (gS 0 0), nB l2]) (PV.pRes (oS 8 0) 0) (P0 x y l 0 0 ++ [cB (gS 0 0), nB l2, nB l3])) (g8 : Gv 25 [nilG, gV 0 0] (HC x y l l2 l3) (.bool true) (HC x y l l2 l3)) (g9 : Gv 16 [oS 8 0] (HC x y l l2 l3) (.int .i64 n3) (HC x y l l2 l3)) (g10 : Gv 16 [oS 4 0] (HC x y l l2 l3) (.int .i64 n1) (HC x y l l2 l3)) (g11 : Gv 16 [oS 7 0] (HC x y l l2 l3) (.int .i64 n2) (HC x y l l2 l3)) (g12 : (n3 != IntKind.i64.wrap (n1 + n2)) = false) (g13 : (obs Tryz.prog TY none ([], true) 149).loop 2 (fb Tryz.f5 2) (fC 0) (HC x y l l2 l3) .normal [] (HC x y l l2 l3)) : Sum Tryz.prog 5 [gV 0 0, gV 1 0] [some ⟨ints x, false⟩, some ⟨ints y, false⟩] fun out _ => out = .ret (.bool true) :=
  tFun_sum (S := { dir := dd [((1, 0), ansD (.bool true) id), ((3, 12), ansD (.int .i64 0) id), ((3, 17), ansD (.int .i64 0) id), ((5, 1), an (PV.pRes (oS 4 0) 0) (h0 x y 0 0 ++ [nB l])), ((17, 2), an (gRes 0 0 0) (P0 x y l 0 0)), ((18, 1), an (PV.pRes (oS 7 0) 0) (P0 x y l 0 0 ++ [cB (gS 0 0), nB l2])), ((19, 1), an (PV.pRes (oS 8 0) 0) (P0 x y l 0 0 ++ [cB (gS 0 0), nB l2, nB l3])), ((20, 13), ansD (.bool true) id), ((20, 18), ansD (.int .i64 n3) id), ((20, 20), ansD (.int .i64 n1) id), ((20, 22), ansD (.int .i64 n2) id)], know := kk [(118, false)], loop := loops [(0, (tL, fun _ _ => (.normal, eM 0, (P0 x y l 0 0)))), (2, ([2, 5, 13, 18], fun _ _ => (.normal, [], (HC x y l l2 l3))))] }) (k := 90) TY_ok mixed fn5_ok
    (A := (Gv 8 [] (h0 x y 0 0) (.bool true) (h0 x y 0 0)) ∧ (Gv 10 [gV 0 0] (h0 x y 0 0) (.int .i64 0) (h0 x y 0 0)) ∧ (Gv 10 [gV 1 0] (h0 x y 0 0) (.int .i64 0) (h0 x y 0 0)) ∧ (Gv 15 [gV 0 0] (h0 x y 0 0) (PV.pRes (oS 4 0) 0) (h0 x y 0 0 ++ [nB l])) ∧ ((obs Tryz.prog TY none ([], true) 149).loop 2 (fb Tryz.f5 0) (eL 0 0) (P0 x y l 0 0) .normal (eM 0) (P0 x y l 0 0)) ∧ (Gv 21 [gV 0 0, gV 1 0] (P0 x y l 0 0) (gRes 0 0 0) (P0 x y l 0 0)) ∧ (Gv 15 [gV 1 0] (P0 x y l 0 0 ++ [cB (gS 0 0)]) (PV.pRes (oS 7 0) 0) (P0 x y l 0 0 ++ [cB (gS 0 0), nB l2])) ∧ (Gv 15 [gV 0 0] (P0 x y l 0 0 ++ [cB (gS 0 0), nB l2]) (PV.pRes (oS 8 0) 0) (P0 x y l 0 0 ++ [cB (gS 0 0), nB l2, nB l3])) ∧ (Gv 25 [nilG, gV 0 0] (HC x y l l2 l3) (.bool true) (HC x y l l2 l3)) ∧ (Gv 16 [oS 8 0] (HC x y l l2 l3) (.int .i64 n3) (HC x y l l2 l3)) ∧ (Gv 16 [oS 4 0] (HC x y l l2 l3) (.int .i64 n1) (HC x y l l2 l3)) ∧ (Gv 16 [oS 7 0] (HC x y l l2 l3) (.int .i64 n2) (HC x y l l2 l3)) ∧ ((n3 != IntKind.i64.wrap (n1 + n2)) = false) ∧ ((obs Tryz.prog TY none ([], true) 149).loop 2 (fb Tryz.f5 2) (fC 0) (HC x y l l2 l3) .normal [] (HC x y l l2 l3)) ∧ AOut.ret (.bool true) = .ret (.bool true)) ⟨g0, g1, g2, g3, g4, g5, g6, g7, g8, g9, g10, g11, g12, g13, rfl⟩ (by kernel_rfl)
end UC
end Go.Ab

namespace Go.Ab
open Go.Proofs

theorem gives_one_int {f : FuncId} {x z : List Int} {n b : Nat} {k : Int} {h : Heap} {w : Bool} {v v' : Value} (hs : Sum Tryz.prog f [gV 0 n, .int .i64 k] [some ⟨ints x, false⟩] fun o h2 => o = .ret v ∧ h2 = [some ⟨ints x, false⟩] ++ [some ⟨ints z, true⟩]) (hb : hblk h b = some ⟨ints x, w⟩) (hv : ren (backF [some b] h.length) v = v') :
    Gives Tryz.prog f [gV b n, .int .i64 k] h (.ret v') (h ++ [some ⟨ints z, true⟩]) ∧ ∃ y, h ++ [some ⟨ints z, true⟩] = h ++ y := by
  have := gives_new hs rfl (emb_one hb) (xs := [gV b n, .int .i64 k]) ⟨_, _, rfl, sub_gV rfl, _, _, rfl, rfl, rfl⟩
  rw [hv] at this
  simp only [List.map_cons, List.map_nil, renB, renL_eq] at this
  have e : (ints z).map (ren (backF [some b] h.length)) = ints z := by simp [ints, ren]
  rw [e] at this
  exact this
theorem emb_nil {h : Heap} {c : Nat} {y : List Int} {w : Bool} (hc : hblk h c = some ⟨ints y, w⟩) : Emb [none, some c] [some ⟨ints [], false⟩, some ⟨ints y, false⟩] (roH h) := by
  refine ⟨rfl, ?_, ?_⟩
  · intro i b2 hi
    match i with
    | 0 => simp [hblk] at hi; subst hi; exact .inr ⟨rfl, rfl⟩
    | 1 => simp [hblk] at hi; subst hi; exact .inl ⟨c, _, rfl, hblk_roH hc, subL_plain _ _ (ints_plain _), fun hh => by cases hh⟩
    | i + 2 => simp [hblk] at hi
  · intro i j k b2 b2' _ hi ho
    match i with
    | 0 => simp [hblk] at hi; subst hi; cases ho
    | 1 => simp [hblk] at hi; subst hi; cases ho
    | i + 2 => simp [hblk] at hi
theorem sub_nilG {s : List (Option Nat)} {b : Nat} : sub s (gV b 0) UC.nilG := ⟨[.slice none 0 0], rfl, _, _, rfl, .inl ⟨rfl, rfl, rfl⟩, rfl⟩
theorem gives_nil_new {f : FuncId} {y z : List Int} {m c : Nat} {h : Heap} {w : Bool} {v v' : Value} (hs : Sum Tryz.prog f [gV 0 0, gV 1 m] [some ⟨ints [], false⟩, some ⟨ints y, false⟩] fun o h2 => o = .ret v ∧ h2 = [some ⟨ints [], false⟩, some ⟨ints y, false⟩] ++ [some ⟨ints z, true⟩]) (hc : hblk h c = some ⟨ints y, w⟩) (hv : ren (backF [none, some c] h.length) v = v') :
    Gives Tryz.prog f [UC.nilG, gV c m] h (.ret v') (h ++ [some ⟨ints z, true⟩]) ∧ ∃ y, h ++ [some ⟨ints z, true⟩] = h ++ y := by
  have := gives_new hs rfl (emb_nil hc) (xs := [UC.nilG, gV c m]) ⟨_, _, rfl, sub_nilG, _, _, rfl, sub_gV rfl, rfl⟩
  rw [hv] at this
  simp only [List.map_cons, List.map_nil, renB, renL_eq] at this
  have e : (ints z).map (ren (backF [none, some c] h.length)) = ints z := by simp [ints, ren]
  rw [e] at this
  exact this
theorem gives_nil {f : FuncId} {y : List Int} {m c : Nat} {h : Heap} {w : Bool} {v : Value} (hs : Sum Tryz.prog f [gV 0 0, gV 1 m] [some ⟨ints [], false⟩, some ⟨ints y, false⟩] fun o _ => o = .ret v) (hv : plain v = true) (hc : hblk h c = some ⟨ints y, w⟩) :
    Gives Tryz.prog f [UC.nilG, gV c m] h (.ret v) h ∧ ∃ y, h = h ++ y :=
  gives_plain hs rfl (emb_nil hc) ⟨_, _, rfl, sub_nilG, _, _, rfl, sub_gV rfl, rfl⟩ hv
theorem gives_two_same {x y : List Int} {b c : Nat} {h : Heap} {w w' : Bool} {v v' : Value} {f : FuncId} {n m : Nat} (hs : Sum Tryz.prog f [gV 0 n, gV 1 m] [some ⟨ints x, false⟩, some ⟨ints y, false⟩] fun o h2 => o = .ret v ∧ h2 = [some ⟨ints x, false⟩, some ⟨ints y, false⟩]) (hb : hblk h b = some ⟨ints x, w⟩) (hc : hblk h c = some ⟨ints y, w'⟩) (hv : ren (backF [some b, some c] h.length) v = v') :
    Gives Tryz.prog f [gV b n, gV c m] h (.ret v') h ∧ ∃ y, h = h ++ y := by
  have := gives_new (new := []) (hs.mono fun o h2 hr => ⟨hr.1, by rw [hr.2]; simp⟩) rfl (emb_two hb hc) (xs := [gV b n, gV c m]) ⟨_, _, rfl, sub_gV rfl, _, _, rfl, sub_gV rfl, rfl⟩
  rw [hv, List.map_nil, List.append_nil] at this
  exact this

-- a result that is a list of no tetrahedra
theorem vrel_empty' {m : Map} {b z : Nat} {w : Value} (h : VRel m (.slice (some ⟨b, 0, none⟩) 0 0) w) : VRel m (.slice (some ⟨b, 0, none⟩) 0 z) w := by
  cases h with
  | slice i o n z c L hL hn hz hc => omega
  | sliceNil i o z => exact .sliceNil _ _ _
  | slice0 i o z a => exact .slice0 _ _ _ _
theorem vrel_gNo' {m : Map} {v' : Value} (h : VRel m GU.gNo v') : VRel m (gRes 0 0 0) v' := by
  unfold GU.gNo at h
  cases h with
  | tuple _ xs' h1 h2 =>
    have hs : VRels m [.agg ⟨[sE]⟩, .int .i64 0] xs' := ⟨h1, h2⟩
    obtain ⟨v0, r0, rfl, a1, hs⟩ := hs.cons_inv
    obtain ⟨v1, r1, rfl, a2, hs⟩ := hs.cons_inv
    obtain rfl := hs.nil_inv
    cases a1 with
    | agg _ ys h3 h4 =>
      have hy : VRels m [sE] ys := ⟨h3, h4⟩
      obtain ⟨w, r, rfl, a3, hy⟩ := hy.cons_inv
      obtain rfl := hy.nil_inv
      have b1 : VRel m (gV 0 0) (.agg ⟨[w]⟩) := by
        have hz : VRels m [gS 0 0] [w] := .cons (vrel_empty' a3) (.nil _)
        exact .agg _ _ hz.1 hz.2
      have hz : VRels m [gV 0 0, .int .i64 0] [.agg ⟨[w]⟩, v1] := .cons b1 (.cons a2 (.nil _))
      exact .tuple _ _ hz.1 hz.2
theorem Sum.gNo' {f : FuncId} {xs : List Value} {h : Heap} (hs : Sum Tryz.prog f xs h fun o h2 => o = .ret GU.gNo ∧ h2 = h) : Sum Tryz.prog f xs h fun o h2 => o = .ret (gRes 0 0 0) ∧ h2 = h := by
  refine ⟨hs.1, fun m w args' rel hv => (hs.2 m w args' rel hv).mono ?_⟩
  rintro en w' ⟨m', out, h', ⟨rfl, rfl⟩, hout, tr⟩
  refine ⟨m', .ret (gRes 0 0 0), h', ⟨rfl, rfl⟩, ?_, tr⟩
  cases en <;> simp only [OutRel] at hout ⊢
  exact vrel_gNo' hout

theorem parts_pos {x : List Int} {n i : Nat} (hc : chk n x = 0) (hi : i < partsN x n) : 0 < cntK (partsL x n) (i : Int) n := by
  obtain ⟨r, hr⟩ := (parts_spec hc n (Nat.le_refl _)).rep
  obtain ⟨r1, r2, _⟩ := hr i hi
  exact cntK_pos r1 (by unfold partsL; rw [r2])

section
variable {x y : List Int} {n m : Nat}
theorem count_parts {h : Heap} {b : Nat} (hn : n ≤ 1000) (hc : chk n x = 0) (hb : hblk h b = some ⟨ints (partsL x n), true⟩) : TL.Gv 16 [oS b n] h (.int .i64 (partsN x n : Int)) h := by
  obtain ⟨p1, p2⟩ := parts_rng hn hc
  have cnt : Sum Tryz.prog 16 [oS 0 n] [some ⟨ints (partsL x n), false⟩] fun o _ => o = .ret (.int .i64 (cntL (partsL x n))) := count_sum (by omega) p1 p2
  rw [cnt_parts hc] at cnt
  exact gives_list cnt rfl (w := true) hb
def HP (x y : List Int) (n m i : Nat) : Heap := if i = 0 then UC.P0 x y (partsL x n) n m else UC.P1 x y (partsL x n) (uL x n i) n m (ul x n i)
theorem parts_loop (hn : n ≤ 1000) (hx : x.length = 20 * n) (hc : chk n x = 0) : (obs Tryz.prog TY none ([], true) 149).loop 2 (fb Tryz.f5 0) (UC.eL n 0) (UC.P0 x y (partsL x n) n m) .normal (UC.eM n) (HP x y n m (partsN x n)) := by
  have hfb : fb Tryz.f5 0 = .block 0 (.loop (lb Tryz.f5 0)) := by kernel_rfl
  have hNn : partsN x n ≤ n := parts_le x n n
  refine comes_loop hfb rfl (fun i : Nat => UC.eL n i) (HP x y n m) (fun i => i ≤ partsN x n) (fun i => partsN x n - i) 0 (by omega) rfl rfl ?_
  intro i hi
  by_cases h4 : i < partsN x n
  · have hw := wrap_succ (k := i) (by omega)
    have hlt : ilt (i : Int) (partsN x n : Int) = true := by rw [ilt_eq]; simp; omega
    obtain ⟨u1, u2, _⟩ := uL_ok hc i (by omega)
    have hle := ul_le hc (i := i + 1) (by omega)
    simp only [ul] at hle
    have cp := partK_chk (k := (i : Int)) hc
    have lp : (ptK x (partsL x n) (i : Int) n).length = 20 * cntK (partsL x n) (i : Int) n := partK_len
    have pos := parts_pos hc h4
    have ps := part_ok (k := (i : Int)) hn hx hc (by omega) (by omega)
    have un := gunion_ok (n := ul x n i) (m := cntK (partsL x n) (i : Int) n) (by omega) (by omega) u1 lp u2 cp
    have e2 : HP x y n m (i + 1) = UC.P1 x y (partsL x n) (uL x n (i + 1)) n m (ul x n (i + 1)) := if_neg (by omega)
    refine .inl ⟨i + 1, by omega, by omega, ?_⟩
    rw [e2]
    by_cases h0 : i = 0
    · subst h0
      exact UC.round0 (z := ptK x (partsL x n) ((0 : Nat) : Int) n) (N := partsN x n) (c := cntK (partsL x n) ((0 : Nat) : Int) n) hw (count_parts hn hc rfl) hlt (gives_one_int ps (w := false) rfl rfl) (gives_nil_new un (w := true) rfl rfl)
    · have e1 : HP x y n m i = UC.P1 x y (partsL x n) (uL x n i) n m (ul x n i) := if_neg h0
      rw [e1]
      exact UC.round1 (z := ptK x (partsL x n) (i : Int) n) (N := partsN x n) (c := cntK (partsL x n) (i : Int) n) hw (count_parts hn hc rfl) hlt (gives_one_int ps (w := false) rfl rfl) (gives_two_new un (w := true) (w' := true) rfl rfl)
  · have : i = partsN x n := by omega
    subst this
    refine .inr (.inl ⟨rfl, ?_⟩)
    have hlt : ilt (partsN x n : Int) (partsN x n : Int) = false := by rw [ilt_eq]; simp
    by_cases h0 : partsN x n = 0
    · have e1 : HP x y n m (partsN x n) = UC.P0 x y (partsL x n) n m := if_pos h0
      rw [e1]; exact UC.end0 (N := partsN x n) (count_parts hn hc rfl) hlt
    · have e1 : HP x y n m (partsN x n) = UC.P1 x y (partsL x n) (uL x n (partsN x n)) n m (ul x n (partsN x n)) := if_neg h0
      rw [e1]; exact UC.end1 (N := partsN x n) (count_parts hn hc rfl) hlt
theorem parts_loopA {u l2 l3 : List Int} (hnm : n + m ≤ 1000) (hx : x.length = 20 * n) (hy : y.length = 20 * m) (cx : chk n x = 0) (cy : chk m y = 0) :
    (obs Tryz.prog TY none ([], true) 149).loop 2 (fb Tryz.f5 2) (UC.fA n 0) (UC.HA x y (partsL x n) u (uni x y n m) l2 l3 n m (n + m)) .normal [] (UC.HA x y (partsL x n) u (uni x y n m) l2 l3 n m (n + m)) := by
  have hfb : fb Tryz.f5 2 = .block 2 (.loop (lb Tryz.f5 2)) := by kernel_rfl
  have hNn : partsN x n ≤ n := parts_le x n n
  have lu : (uni x y n m).length = 20 * (n + m) := uni_len hx
  have cu := uni_chk hx cx cy hnm
  have hpu := uni_parts hx cx cy hnm
  refine comes_loop hfb rfl (fun i : Nat => UC.fA n i) (fun _ => UC.HA x y (partsL x n) u (uni x y n m) l2 l3 n m (n + m)) (fun i => i ≤ partsN x n) (fun i => partsN x n - i) 0 (by omega) rfl rfl ?_
  intro i hi
  by_cases h4 : i < partsN x n
  · have hw := wrap_succ (k := i) (by omega)
    have hlt : ilt (i : Int) (partsN x n : Int) = true := by rw [ilt_eq]; simp; omega
    obtain ⟨e1, e2⟩ := uni_part hx cx cy hnm h4
    have ps := part_ok (k := (i : Int)) (show n ≤ 1000 by omega) hx cx (by omega) (by omega)
    have pu := part_ok (k := (i : Int)) hnm lu cu (by omega) (by omega)
    unfold partC partK at pu
    rw [e1, e2] at pu
    have sm := rsame_sum (x := ptK x (partsL x n) (i : Int) n) (n := cntK (partsL x n) (i : Int) n) (by have := cntK_le (partsL x n) (i : Int) n; omega) partK_len
    have h := UC.roundA (u := u) (b := uni x y n m) (l2 := l2) (l3 := l3) (x := x) (y := y) (l := partsL x n) (n := n) (m := m) (q := n + m) (z := ptK x (partsL x n) (i : Int) n) (N := partsN x n) (c := cntK (partsL x n) (i : Int) n) (i := i) (count_parts (by omega) cx rfl) hlt
      (gives_one_int pu (w := true) rfl rfl) (gives_one_int ps (w := false) rfl rfl) (gives_two sm rfl (w := true) (w' := true) rfl rfl)
    rw [hw] at h
    exact .inl ⟨i + 1, by omega, by omega, h⟩
  · have : i = partsN x n := by omega
    subst this
    exact .inr (.inl ⟨rfl, UC.endA (N := partsN x n) (count_parts (by omega) cx rfl) (by rw [ilt_eq]; simp)⟩)
theorem loop_none {e : List (Nat × Value)} {H : Heap} {ax : Nat → AX} (hE : Comes none ([], true) Tryz.prog 149 2 (lb Tryz.f5 2) e H (.exit 2) [] H) : (obs Tryz.prog TY none ([], true) 149).loop 2 (fb Tryz.f5 2) e H .normal [] H := by
  have hfb : fb Tryz.f5 2 = .block 2 (.loop (lb Tryz.f5 2)) := by kernel_rfl
  refine comes_loop hfb rfl (fun _ : Nat => e) (fun _ => H) (fun i => i = 0) (fun i => 0 - i) 0 rfl rfl rfl ?_
  intro i _
  exact .inr (.inl ⟨rfl, hE⟩)
end

theorem parts_law {x y : List Int} {n m : Nat} (hx : x.length = 20 * n) (hy : y.length = 20 * m) :
    Sum Tryz.prog 5 [gV 0 n, gV 1 m] [some ⟨ints x, false⟩, some ⟨ints y, false⟩] fun out _ => out = .ret (.bool true) := by
  have s1 := sane_gives (UC.h0 x y n m)
  by_cases h1 : 6 < n
  · exact UC.runBigN s1 (by rw [ilt_eq]; simp; omega)
  · have k1 : ilt 6 (n : Int) = false := by rw [ilt_eq]; simp; omega
    by_cases h2 : 6 < m
    · exact UC.runBigM s1 k1 (by rw [ilt_eq]; simp; omega)
    · have k2 : ilt 6 (m : Int) = false := by rw [ilt_eq]; simp; omega
      rcases (show chk n x = 0 ∨ chk n x = 7 by unfold chk; split <;> simp) with cx | cx
      · have g1 := gives_one (b := 0) (h := UC.h0 x y n m) (cx ▸ rcheck_sum hx) rfl (w := false) rfl
        rcases (show chk m y = 0 ∨ chk m y = 7 by unfold chk; split <;> simp) with cy | cy
        · have g2 := gives_one (b := 1) (h := UC.h0 x y n m) (cy ▸ rcheck_sum hy) rfl (w := false) rfl
          have hnm : n + m ≤ 1000 := by omega
          have g3 := gives_one_any (b := 0) (h := UC.h0 x y n m) (parts15_ok (by omega) hx cx) (w := false) rfl rfl
          have cu := uni_chk hx cx cy hnm
          have lu : (uni x y n m).length = 20 * (n + m) := uni_len hx
          have hpu := uni_parts hx cx cy hnm
          have px : partsN x n ≤ n := parts_le x n n
          have py : partsN y m ≤ m := parts_le y m m
          have hcount : ((partsN (uni x y n m) (n + m) : Int) != IntKind.i64.wrap ((partsN x n : Int) + (partsN y m : Int))) = false := by
            rw [hpu, wrap_of (by omega) (by omega)]; simp
          have hl := parts_loop (y := y) (m := m) (show n ≤ 1000 by omega) hx cx
          by_cases h0 : 0 < n
          · have hN : partsN x n ≠ 0 := by
              intro e
              have := ul_all cx
              rw [e] at this
              simp only [ul] at this
              omega
            have eH : HP x y n m (partsN x n) = UC.P1 x y (partsL x n) (uL x n (partsN x n)) n m n := by
              unfold HP
              rw [if_neg hN, ul_all cx]
            rw [eH] at hl
            obtain ⟨u1, u2, u3, _, u5⟩ := uL_ok cx (partsN x n) (Nat.le_refl _)
            rw [ul_all cx] at u1 u2 u3 u5
            have rn := renumbered_sum (by omega) u1 hx u2 cx u3 u5
            exact UC.runA (u := uL x n (partsN x n)) (b := uni x y n m) (l := partsL x n) (l2 := partsL y m) (l3 := partsL (uni x y n m) (n + m)) (q := n + m) s1 k1 k2 g1 g2 g3 hl
              (gives_two_new (gunion_ok hnm (by omega) hx hy cx cy) (w := false) (w' := false) rfl rfl)
              (gives_one_any (parts15_ok (by omega) hy cy) (w := false) rfl rfl) (gives_one_any (parts15_ok hnm lu cu) (w := true) rfl rfl)
              (gives_two rn rfl (w := true) (w' := false) rfl rfl) (count_parts hnm cu rfl) (count_parts (by omega) cx rfl) (count_parts (by omega) cy rfl) hcount
              (parts_loopA hnm hx hy cx cy)
          · have : n = 0 := by omega
            subst this
            have hx0 : x = [] := List.length_eq_zero_iff.1 (by omega)
            subst hx0
            have eH : HP [] y 0 m (partsN [] 0) = UC.P0 [] y (partsL [] 0) 0 m := if_pos rfl
            rw [eH] at hl
            have rn := renumbered_sum (R := fun _ _ _ => False) (x := []) (y := []) (n := 0) (by omega) hx hx cx cx ⟨fun h => h.elim, fun h => h.elim, fun h => h.elim, fun h => h.elim⟩ (fun v hv => by omega)
            have z0 : ilt ((0 : Nat) : Int) (partsN [] 0 : Int) = false := by rw [ilt_eq]; rfl
            by_cases hm : 0 < m
            · exact UC.runB (b := uni [] y 0 m) (l := partsL [] 0) (l2 := partsL y m) (l3 := partsL (uni [] y 0 m) (0 + m)) (q := 0 + m) s1 k2 g1 g2 g3 hl
                (gives_two_new (gunion_ok hnm (by omega) hx hy cx cy) (w := false) (w' := false) rfl rfl)
                (gives_one_any (parts15_ok (by omega) hy cy) (w := false) rfl rfl) (gives_one_any (parts15_ok hnm lu cu) (w := true) rfl rfl)
                (gives_nil rn rfl (w := false) rfl) (count_parts hnm cu rfl) (count_parts (by omega) cx rfl) (count_parts (by omega) cy rfl) hcount
                (loop_none (ax := fun _ => .normal) (UC.endB (N := partsN [] 0) (count_parts (by omega) cx rfl) z0))
            · have : m = 0 := by omega
              subst this
              have hy0 : y = [] := List.length_eq_zero_iff.1 (by omega)
              subst hy0
              exact UC.runC (l := partsL [] 0) (l2 := partsL [] 0) (l3 := partsL [] 0) s1 g1 g2 g3 hl
                (gives_two_same (Sum.gNo' (gunion_no hx hy cx cy)) (w := false) (w' := false) rfl rfl rfl)
                (gives_one_any (parts15_ok (by omega) hy cy) (w := false) rfl rfl) (gives_one_any (parts15_ok (by omega) hx cx) (w := false) rfl rfl)
                (gives_nil rn rfl (w := false) rfl) (count_parts (by omega) cx rfl) (count_parts (by omega) cx rfl) (count_parts (by omega) cy rfl) rfl
                (loop_none (ax := fun _ => .normal) (UC.endC (N := partsN [] 0) (count_parts (by omega) cx rfl) z0))
        · exact UC.runBadY s1 k1 k2 g1 (gives_one (cy ▸ rcheck_sum hy) rfl (w := false) rfl)
      · exact UC.runBadX s1 k1 k2 (gives_one (cx ▸ rcheck_sum hx) rfl (w := false) rfl)
end Go.Ab
