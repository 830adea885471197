/- The functions moved and shifted answer for all gluings, and Same at equal ones. Conditions: none beyond the given model and program. -/
import Derived.Test.YtnimgapjllhccaaGreatDoorSp
import Derived.Test.YtnimgapjllhccaaGreatDoorRc
import Derived.Test.YtnimgapjllhccaaGreatDoorAbD
import Derived.Test.YtnimgapjllhccaaGreatDoorTy
namespace Go.Ab
open Go.Proofs

/-- A face whose tetrahedron has a number greater by k. -/
def Fc.add (a : Fc) (k : Int) : Fc := ⟨IntKind.i64.wrap (a.u + k), a.p⟩
def Fc.sh (a : Fc) (k : Int) : Fc := if ile 0 a.u = true then a.add k else a
def c4 (a b c d : Fc) : List Value := a.cells ++ (b.cells ++ (c.cells ++ d.cells))

namespace MV
def z20 : List Value := List.replicate 20 (.int .i64 0)
def H (a b c d : Fc) : Heap := [some ⟨c4 a b c d, true⟩, some ⟨z20, true⟩]
theorem c4_plain (a b c d : Fc) : plainL (c4 a b c d) = true := rfl
theorem H_closed (a b c d : Fc) : closedH 2 (H a b c d) := closedH_cons (subL_plain _ _ rfl) (closedH_cons (subL_plain _ _ rfl) closedH_nil)
def eT (k : Int) (i : Nat) : List (Nat × Value) := [(1, .int .i64 k), (2, .pointer (some ⟨0, 0, none⟩)), (4, .pointer (some ⟨1, 0, none⟩)), (5, .int .i64 i)]
def eE : List (Nat × Value) := [(2, .pointer (some ⟨0, 0, none⟩)), (4, .pointer (some ⟨1, 0, none⟩))]
theorem ok0 : codeOk 25 (lb Tryz.f47 0) = true := by kernel_rfl
def B (k : Int) (i : Nat) (h : Heap) (ax : AX) (l : List (Nat × Value)) (h' : Heap) : Prop := Comes none ([], true) Tryz.prog 25 0 (lb Tryz.f47 0) (eT k i) h ax l h'
theorem b0p (a b c d : Fc) {k : Int} (h : ile 0 a.u = true) : B k 0 (H a b c d) .normal (eT k 1) (H (a.add k) b c d) :=
  comes_run (S := { dir := dd [], know := kk [(14, true)], loop := noloop }) (k := 60) (ts := [1, 2, 4, 5]) (junk := []) (A := ile 0 a.u = true ∧ Dn .normal (eT k 1) (H (a.add k) b c d)) TY_ok mixed ok0 (Nat.zero_le _) (H_closed _ _ _ _) rfl ⟨h, dn _ _ _⟩ (by kernel_rfl)
theorem b0n (a b c d : Fc) {k : Int} (h : ile 0 a.u = false) : B k 0 (H a b c d) .normal (eT k 1) (H a b c d) :=
  comes_run (S := { dir := dd [], know := kk [(14, false)], loop := noloop }) (k := 60) (ts := [1, 2, 4, 5]) (junk := []) (A := ile 0 a.u = false ∧ Dn .normal (eT k 1) (H a b c d)) TY_ok mixed ok0 (Nat.zero_le _) (H_closed _ _ _ _) rfl ⟨h, dn _ _ _⟩ (by kernel_rfl)
theorem b0 (a b c d : Fc) (k : Int) : B k 0 (H a b c d) .normal (eT k 1) (H (a.sh k) b c d) := by
  unfold Fc.sh
  cases h : ile 0 a.u with
  | true => simpa using b0p a b c d h
  | false => simpa using b0n a b c d h
theorem b1p (a b c d : Fc) {k : Int} (h : ile 0 b.u = true) : B k 1 (H a b c d) .normal (eT k 2) (H a (b.add k) c d) :=
  comes_run (S := { dir := dd [], know := kk [(14, true)], loop := noloop }) (k := 60) (ts := [1, 2, 4, 5]) (junk := []) (A := ile 0 b.u = true ∧ Dn .normal (eT k 2) (H a (b.add k) c d)) TY_ok mixed ok0 (Nat.zero_le _) (H_closed _ _ _ _) rfl ⟨h, dn _ _ _⟩ (by kernel_rfl)
theorem b1n (a b c d : Fc) {k : Int} (h : ile 0 b.u = false) : B k 1 (H a b c d) .normal (eT k 2) (H a b c d) :=
  comes_run (S := { dir := dd [], know := kk [(14, false)], loop := noloop }) (k := 60) (ts := [1, 2, 4, 5]) (junk := []) (A := ile 0 b.u = false ∧ Dn .normal (eT k 2) (H a b c d)) TY_ok mixed ok0 (Nat.zero_le _) (H_closed _ _ _ _) rfl ⟨h, dn _ _ _⟩ (by kernel_rfl)
theorem b1 (a b c d : Fc) (k : Int) : B k 1 (H a b c d) .normal (eT k 2) (H a (b.sh k) c d) := by
  unfold Fc.sh
  cases h : ile 0 b.u with
  | true => simpa using b1p a b c d h
  | false => simpa using b1n a b c d h
theorem b2p (a b c d : Fc) {k : Int} (h : ile 0 c.u = true) : B k 2 (H a b c d) .normal (eT k 3) (H a b (c.add k) d) :=
  comes_run (S := { dir := dd [], know := kk [(14, true)], loop := noloop }) (k := 60) (ts := [1, 2, 4, 5]) (junk := []) (A := ile 0 c.u = true ∧ Dn .normal (eT k 3) (H a b (c.add k) d)) TY_ok mixed ok0 (Nat.zero_le _) (H_closed _ _ _ _) rfl ⟨h, dn _ _ _⟩ (by kernel_rfl)
theorem b2n (a b c d : Fc) {k : Int} (h : ile 0 c.u = false) : B k 2 (H a b c d) .normal (eT k 3) (H a b c d) :=
  comes_run (S := { dir := dd [], know := kk [(14, false)], loop := noloop }) (k := 60) (ts := [1, 2, 4, 5]) (junk := []) (A := ile 0 c.u = false ∧ Dn .normal (eT k 3) (H a b c d)) TY_ok mixed ok0 (Nat.zero_le _) (H_closed _ _ _ _) rfl ⟨h, dn _ _ _⟩ (by kernel_rfl)
theorem b2 (a b c d : Fc) (k : Int) : B k 2 (H a b c d) .normal (eT k 3) (H a b (c.sh k) d) := by
  unfold Fc.sh
  cases h : ile 0 c.u with
  | true => simpa using b2p a b c d h
  | false => simpa using b2n a b c d h
theorem b3p (a b c d : Fc) {k : Int} (h : ile 0 d.u = true) : B k 3 (H a b c d) .normal (eT k 4) (H a b c (d.add k)) :=
  comes_run (S := { dir := dd [], know := kk [(14, true)], loop := noloop }) (k := 60) (ts := [1, 2, 4, 5]) (junk := []) (A := ile 0 d.u = true ∧ Dn .normal (eT k 4) (H a b c (d.add k))) TY_ok mixed ok0 (Nat.zero_le _) (H_closed _ _ _ _) rfl ⟨h, dn _ _ _⟩ (by kernel_rfl)
theorem b3n (a b c d : Fc) {k : Int} (h : ile 0 d.u = false) : B k 3 (H a b c d) .normal (eT k 4) (H a b c d) :=
  comes_run (S := { dir := dd [], know := kk [(14, false)], loop := noloop }) (k := 60) (ts := [1, 2, 4, 5]) (junk := []) (A := ile 0 d.u = false ∧ Dn .normal (eT k 4) (H a b c d)) TY_ok mixed ok0 (Nat.zero_le _) (H_closed _ _ _ _) rfl ⟨h, dn _ _ _⟩ (by kernel_rfl)
theorem b3 (a b c d : Fc) (k : Int) : B k 3 (H a b c d) .normal (eT k 4) (H a b c (d.sh k)) := by
  unfold Fc.sh
  cases h : ile 0 d.u with
  | true => simpa using b3p a b c d h
  | false => simpa using b3n a b c d h
theorem b4 (a b c d : Fc) (k : Int) : B k 4 (H a b c d) (.exit 0) eE (H a b c d) :=
  comes_run (S := { dir := dd [], know := kk [], loop := noloop }) (k := 60) (ts := [2, 4]) (junk := []) (A := Dn (.exit 0) eE (H a b c d)) TY_ok mixed ok0 (Nat.zero_le _) (H_closed _ _ _ _) rfl (dn _ _ _) (by kernel_rfl)

def Hs (a b c d : Fc) (k : Int) : Nat → Heap
  | 0 => H a b c d
  | 1 => H (a.sh k) b c d
  | 2 => H (a.sh k) (b.sh k) c d
  | 3 => H (a.sh k) (b.sh k) (c.sh k) d
  | _ => H (a.sh k) (b.sh k) (c.sh k) (d.sh k)
theorem loop_ok (a b c d : Fc) (k : Int) : (obs Tryz.prog TY none ([], true) 25).loop 0 (fb Tryz.f47 0) (eT k 0) (H a b c d) .normal eE (H (a.sh k) (b.sh k) (c.sh k) (d.sh k)) := by
  have hfb : fb Tryz.f47 0 = .block 0 (.loop (lb Tryz.f47 0)) := by kernel_rfl
  refine comes_loop hfb rfl (fun t => eT k t) (Hs a b c d k) (fun t => t ≤ 4) (fun t => 4 - t) 0 (by omega) rfl rfl ?_
  intro t ht
  have : t = 0 ∨ t = 1 ∨ t = 2 ∨ t = 3 ∨ t = 4 := by omega
  rcases this with rfl | rfl | rfl | rfl | rfl
  · exact .inl ⟨1, by omega, by omega, b0 _ _ _ _ k⟩
  · exact .inl ⟨2, by omega, by omega, b1 _ _ _ _ k⟩
  · exact .inl ⟨3, by omega, by omega, b2 _ _ _ _ k⟩
  · exact .inl ⟨4, by omega, by omega, b3 _ _ _ _ k⟩
  · exact .inr (.inl ⟨rfl, b4 _ _ _ _ k⟩)
end MV

theorem moved47 (a b c d : Fc) (k : Int) : Plain Tryz.prog 47 [.agg ⟨c4 a b c d⟩, .int .i64 k] (.agg ⟨c4 (a.sh k) (b.sh k) (c.sh k) (d.sh k)⟩) := fun h =>
  Sum.lift0 (R := fun o _ => o = .ret (.agg ⟨c4 (a.sh k) (b.sh k) (c.sh k) (d.sh k)⟩)) (tFun_sum (S := { dir := dd [], know := kk [], loop := loops [(0, ([1, 2, 4, 5], fun _ _ => (.normal, MV.eE, MV.H (a.sh k) (b.sh k) (c.sh k) (d.sh k))))] }) (k := 60) TY_ok mixed fn47_ok
    (A := (obs Tryz.prog TY none ([], true) 25).loop 0 (fb Tryz.f47 0) (MV.eT k 0) (MV.H a b c d) .normal MV.eE (MV.H (a.sh k) (b.sh k) (c.sh k) (d.sh k)) ∧ AOut.ret (.agg ⟨c4 (a.sh k) (b.sh k) (c.sh k) (d.sh k)⟩) = .ret (.agg ⟨c4 (a.sh k) (b.sh k) (c.sh k) (d.sh k)⟩)) ⟨MV.loop_ok a b c d k, rfl⟩ (by kernel_rfl))
    (fun _ _ h => h) (by intro x hx; simp only [List.mem_cons, List.not_mem_nil, or_false] at hx; rcases hx with rfl | rfl <;> rfl) rfl h
end Go.Ab

namespace Go.Ab
open Go.Proofs

theorem TY35 : TY 35 = some ti35 := rfl
theorem TY22 : TY 22 = some ti22 := rfl

theorem app_own22 {n0 b n m : Nat} {h : Heap} {zs ys : List Value} {x : Value} (hb : hblk h b = some ⟨zs, true⟩) (hn0 : n0 ≤ b) (hz : zs.length = n * 20) (hy : cellsOf h 20 x = some ys) (hyl : ys.length = m * 20) (hys : isStr x = false) (hone : ys.all Value.oneCell' = true) (hbig : (n + m) * 160 ≤ 2 ^ 46) :
    aAppend TY n0 22 22 (.slice (some ⟨b, 0, none⟩) n 20) x h = some (.slice (some ⟨h.length, 0, none⟩) (n + m) 20, h.set b none ++ [some ⟨zs ++ ys, true⟩]) := by
  have hdiv : ys.length / 20 = m := by omega
  simp only [aAppend, TY22, TY35, Option.bind_some, ti22, ti35, hy]
  simp only [hb, hys, hdiv, hone, hn0, hz, hyl]
  simp
  omega

theorem app_nil22 {n0 m : Nat} {h : Heap} {ys : List Value} {x : Value} (hy : cellsOf h 20 x = some ys) (hyl : ys.length = m * 20) (hm : 0 < m) (hys : isStr x = false) (hone : ys.all Value.oneCell' = true) (hbig : m * 160 ≤ 2 ^ 46) :
    aAppend TY n0 22 22 (.slice none 0 0) x h = some (.slice (some ⟨h.length, 0, none⟩) m 20, h ++ [some ⟨ys, true⟩]) := by
  have hdiv : ys.length / 20 = m := by omega
  simp only [aAppend, TY22, TY35, Option.bind_some, ti22, ti35, hy]
  simp only [hys, hdiv, hone, hyl]
  simp
  rw [if_neg (by omega), if_pos (by omega)]

theorem ints_one (x : List Int) : (ints x).all Value.oneCell' = true := by simp [ints, Value.oneCell']
theorem cells_gS {h : Heap} {b n : Nat} {x : List Int} {w : Bool} (hb : hblk h b = some ⟨ints x, w⟩) (hx : x.length = 20 * n) : cellsOf h 20 (gS b n) = some (ints x) := by
  simp only [gS, cellsOf]
  by_cases hn : n = 0
  · subst hn
    have : x = [] := List.length_eq_zero_iff.1 (by omega)
    subst this
    rfl
  · rw [if_neg hn, if_pos (by simp)]
    simp only [readCells, hb, ints_length]
    rw [if_pos (by simp; omega)]
    simp only [List.drop_zero]
    rw [List.take_of_length_le (by rw [ints_length]; omega)]
end Go.Ab

namespace Go.Ab
open Go.Proofs

namespace SH
def c4x (a b c d : Fc) : List Value := c4 a b c d
theorem okI : codeOk 39 (lb Tryz.f49 2) = true := by kernel_rfl
theorem ok0 : codeOk 39 (lb Tryz.f49 0) = true := by kernel_rfl
/-- The frame at a round's head; z is the list so far. -/
def eT (n : Nat) (k : Int) (z : Value) (t : Nat) : List (Nat × Value) := [(1, .int .i64 k), (2, .pointer (some ⟨1, 0, none⟩)), (5, z), (10, gS 0 n), (11, .int .i64 n), (12, .int .i64 t)]
/-- Inside: the row in block b. -/
def eI (n : Nat) (k : Int) (z : Value) (t b f : Nat) : List (Nat × Value) := [(1, .int .i64 k), (2, .pointer (some ⟨1, 0, none⟩)), (5, z), (10, gS 0 n), (11, .int .i64 n), (12, .int .i64 t), (7, .pointer (some ⟨b, 0, none⟩)), (16, .int .i64 f)]
def eJ (n : Nat) (k : Int) (z : Value) (t b : Nat) : List (Nat × Value) := [(1, .int .i64 k), (2, .pointer (some ⟨1, 0, none⟩)), (5, z), (10, gS 0 n), (11, .int .i64 n), (12, .int .i64 t), (7, .pointer (some ⟨b, 0, none⟩))]
def P0 (x : List Int) (n : Nat) : Heap := [some ⟨ints x, false⟩, some ⟨[gS 0 n], true⟩]
def P1 (x : List Int) (n : Nat) (y : List Int) : Heap := [some ⟨ints x, false⟩, some ⟨[gS 0 n], true⟩, some ⟨ints y, true⟩]
def z0 : Value := .slice none 0 0
theorem P0_closed (x : List Int) (n : Nat) (r : List Value) (hr : plainL r = true) : closedH 3 (P0 x n ++ [some ⟨r, true⟩]) :=
  closedH_cons (subL_plain _ _ (ints_plain x)) (closedH_cons (belowL_sub _ rfl) (closedH_cons (subL_plain _ _ hr) closedH_nil))
theorem P1_closed (x y : List Int) (n : Nat) (r : List Value) (hr : plainL r = true) : closedH 4 (P1 x n y ++ [some ⟨r, true⟩]) :=
  closedH_cons (subL_plain _ _ (ints_plain x)) (closedH_cons (belowL_sub _ rfl) (closedH_cons (subL_plain _ _ (ints_plain y)) (closedH_cons (subL_plain _ _ hr) closedH_nil)))

def I0 (x : List Int) (n t : Nat) (k : Int) (f : Nat) (h : Heap) (ax : AX) (l : List (Nat × Value)) (h' : Heap) : Prop := Comes none ([], true) Tryz.prog 39 1 (lb Tryz.f49 2) (eI n k (z0) t 2 f) h ax l h'
theorem i00p (x : List Int) (n t : Nat) (a b c d : Fc) {k : Int} (h : ile 0 a.u = true) : I0 x n t k 0 (P0 x n ++ [some ⟨c4 a b c d, true⟩]) .normal (eI n k (z0) t 2 1) (P0 x n ++ [some ⟨c4 (a.add k) b c d, true⟩]) :=
  comes_run (S := { dir := dd [], know := kk [(23, true)], loop := noloop }) (k := 60) (ts := [1, 2, 5, 10, 11, 12, 7, 16]) (junk := []) (A := ile 0 a.u = true ∧ Dn .normal (eI n k (z0) t 2 1) (P0 x n ++ [some ⟨c4 (a.add k) b c d, true⟩])) TY_ok mixed okI (Nat.le_of_ble_eq_true rfl) (P0_closed x n _ rfl) rfl ⟨h, dn _ _ _⟩ (by kernel_rfl)
theorem i00n (x : List Int) (n t : Nat) (a b c d : Fc) {k : Int} (h : ile 0 a.u = false) : I0 x n t k 0 (P0 x n ++ [some ⟨c4 a b c d, true⟩]) .normal (eI n k (z0) t 2 1) (P0 x n ++ [some ⟨c4 a b c d, true⟩]) :=
  comes_run (S := { dir := dd [], know := kk [(23, false)], loop := noloop }) (k := 60) (ts := [1, 2, 5, 10, 11, 12, 7, 16]) (junk := []) (A := ile 0 a.u = false ∧ Dn .normal (eI n k (z0) t 2 1) (P0 x n ++ [some ⟨c4 a b c d, true⟩])) TY_ok mixed okI (Nat.le_of_ble_eq_true rfl) (P0_closed x n _ rfl) rfl ⟨h, dn _ _ _⟩ (by kernel_rfl)
theorem i00 (x : List Int) (n t : Nat) (a b c d : Fc) (k : Int) : I0 x n t k 0 (P0 x n ++ [some ⟨c4 a b c d, true⟩]) .normal (eI n k (z0) t 2 1) (P0 x n ++ [some ⟨c4 (a.sh k) b c d, true⟩]) := by
  unfold Fc.sh
  cases h : ile 0 a.u with
  | true => simpa using i00p x n t a b c d h
  | false => simpa using i00n x n t a b c d h
theorem i01p (x : List Int) (n t : Nat) (a b c d : Fc) {k : Int} (h : ile 0 b.u = true) : I0 x n t k 1 (P0 x n ++ [some ⟨c4 a b c d, true⟩]) .normal (eI n k (z0) t 2 2) (P0 x n ++ [some ⟨c4 a (b.add k) c d, true⟩]) :=
  comes_run (S := { dir := dd [], know := kk [(23, true)], loop := noloop }) (k := 60) (ts := [1, 2, 5, 10, 11, 12, 7, 16]) (junk := []) (A := ile 0 b.u = true ∧ Dn .normal (eI n k (z0) t 2 2) (P0 x n ++ [some ⟨c4 a (b.add k) c d, true⟩])) TY_ok mixed okI (Nat.le_of_ble_eq_true rfl) (P0_closed x n _ rfl) rfl ⟨h, dn _ _ _⟩ (by kernel_rfl)
theorem i01n (x : List Int) (n t : Nat) (a b c d : Fc) {k : Int} (h : ile 0 b.u = false) : I0 x n t k 1 (P0 x n ++ [some ⟨c4 a b c d, true⟩]) .normal (eI n k (z0) t 2 2) (P0 x n ++ [some ⟨c4 a b c d, true⟩]) :=
  comes_run (S := { dir := dd [], know := kk [(23, false)], loop := noloop }) (k := 60) (ts := [1, 2, 5, 10, 11, 12, 7, 16]) (junk := []) (A := ile 0 b.u = false ∧ Dn .normal (eI n k (z0) t 2 2) (P0 x n ++ [some ⟨c4 a b c d, true⟩])) TY_ok mixed okI (Nat.le_of_ble_eq_true rfl) (P0_closed x n _ rfl) rfl ⟨h, dn _ _ _⟩ (by kernel_rfl)
theorem i01 (x : List Int) (n t : Nat) (a b c d : Fc) (k : Int) : I0 x n t k 1 (P0 x n ++ [some ⟨c4 a b c d, true⟩]) .normal (eI n k (z0) t 2 2) (P0 x n ++ [some ⟨c4 a (b.sh k) c d, true⟩]) := by
  unfold Fc.sh
  cases h : ile 0 b.u with
  | true => simpa using i01p x n t a b c d h
  | false => simpa using i01n x n t a b c d h
theorem i02p (x : List Int) (n t : Nat) (a b c d : Fc) {k : Int} (h : ile 0 c.u = true) : I0 x n t k 2 (P0 x n ++ [some ⟨c4 a b c d, true⟩]) .normal (eI n k (z0) t 2 3) (P0 x n ++ [some ⟨c4 a b (c.add k) d, true⟩]) :=
  comes_run (S := { dir := dd [], know := kk [(23, true)], loop := noloop }) (k := 60) (ts := [1, 2, 5, 10, 11, 12, 7, 16]) (junk := []) (A := ile 0 c.u = true ∧ Dn .normal (eI n k (z0) t 2 3) (P0 x n ++ [some ⟨c4 a b (c.add k) d, true⟩])) TY_ok mixed okI (Nat.le_of_ble_eq_true rfl) (P0_closed x n _ rfl) rfl ⟨h, dn _ _ _⟩ (by kernel_rfl)
theorem i02n (x : List Int) (n t : Nat) (a b c d : Fc) {k : Int} (h : ile 0 c.u = false) : I0 x n t k 2 (P0 x n ++ [some ⟨c4 a b c d, true⟩]) .normal (eI n k (z0) t 2 3) (P0 x n ++ [some ⟨c4 a b c d, true⟩]) :=
  comes_run (S := { dir := dd [], know := kk [(23, false)], loop := noloop }) (k := 60) (ts := [1, 2, 5, 10, 11, 12, 7, 16]) (junk := []) (A := ile 0 c.u = false ∧ Dn .normal (eI n k (z0) t 2 3) (P0 x n ++ [some ⟨c4 a b c d, true⟩])) TY_ok mixed okI (Nat.le_of_ble_eq_true rfl) (P0_closed x n _ rfl) rfl ⟨h, dn _ _ _⟩ (by kernel_rfl)
theorem i02 (x : List Int) (n t : Nat) (a b c d : Fc) (k : Int) : I0 x n t k 2 (P0 x n ++ [some ⟨c4 a b c d, true⟩]) .normal (eI n k (z0) t 2 3) (P0 x n ++ [some ⟨c4 a b (c.sh k) d, true⟩]) := by
  unfold Fc.sh
  cases h : ile 0 c.u with
  | true => simpa using i02p x n t a b c d h
  | false => simpa using i02n x n t a b c d h
theorem i03p (x : List Int) (n t : Nat) (a b c d : Fc) {k : Int} (h : ile 0 d.u = true) : I0 x n t k 3 (P0 x n ++ [some ⟨c4 a b c d, true⟩]) .normal (eI n k (z0) t 2 4) (P0 x n ++ [some ⟨c4 a b c (d.add k), true⟩]) :=
  comes_run (S := { dir := dd [], know := kk [(23, true)], loop := noloop }) (k := 60) (ts := [1, 2, 5, 10, 11, 12, 7, 16]) (junk := []) (A := ile 0 d.u = true ∧ Dn .normal (eI n k (z0) t 2 4) (P0 x n ++ [some ⟨c4 a b c (d.add k), true⟩])) TY_ok mixed okI (Nat.le_of_ble_eq_true rfl) (P0_closed x n _ rfl) rfl ⟨h, dn _ _ _⟩ (by kernel_rfl)
theorem i03n (x : List Int) (n t : Nat) (a b c d : Fc) {k : Int} (h : ile 0 d.u = false) : I0 x n t k 3 (P0 x n ++ [some ⟨c4 a b c d, true⟩]) .normal (eI n k (z0) t 2 4) (P0 x n ++ [some ⟨c4 a b c d, true⟩]) :=
  comes_run (S := { dir := dd [], know := kk [(23, false)], loop := noloop }) (k := 60) (ts := [1, 2, 5, 10, 11, 12, 7, 16]) (junk := []) (A := ile 0 d.u = false ∧ Dn .normal (eI n k (z0) t 2 4) (P0 x n ++ [some ⟨c4 a b c d, true⟩])) TY_ok mixed okI (Nat.le_of_ble_eq_true rfl) (P0_closed x n _ rfl) rfl ⟨h, dn _ _ _⟩ (by kernel_rfl)
theorem i03 (x : List Int) (n t : Nat) (a b c d : Fc) (k : Int) : I0 x n t k 3 (P0 x n ++ [some ⟨c4 a b c d, true⟩]) .normal (eI n k (z0) t 2 4) (P0 x n ++ [some ⟨c4 a b c (d.sh k), true⟩]) := by
  unfold Fc.sh
  cases h : ile 0 d.u with
  | true => simpa using i03p x n t a b c d h
  | false => simpa using i03n x n t a b c d h
theorem i04 (x : List Int) (n t : Nat) (a b c d : Fc) (k : Int) : I0 x n t k 4 (P0 x n ++ [some ⟨c4 a b c d, true⟩]) (.exit 2) (eJ n k (z0) t 2) (P0 x n ++ [some ⟨c4 a b c d, true⟩]) :=
  comes_run (S := { dir := dd [], know := kk [], loop := noloop }) (k := 60) (ts := [1, 2, 5, 10, 11, 12, 7]) (junk := []) (A := Dn (.exit 2) (eJ n k (z0) t 2) (P0 x n ++ [some ⟨c4 a b c d, true⟩])) TY_ok mixed okI (Nat.le_of_ble_eq_true rfl) (P0_closed x n _ rfl) rfl (dn _ _ _) (by kernel_rfl)
def Hs0 (x : List Int) (n : Nat) (a b c d : Fc) (k : Int) : Nat → Heap
  | 0 => (P0 x n ++ [some ⟨c4 a b c d, true⟩])
  | 1 => (P0 x n ++ [some ⟨c4 (a.sh k) b c d, true⟩])
  | 2 => (P0 x n ++ [some ⟨c4 (a.sh k) (b.sh k) c d, true⟩])
  | 3 => (P0 x n ++ [some ⟨c4 (a.sh k) (b.sh k) (c.sh k) d, true⟩])
  | _ => (P0 x n ++ [some ⟨c4 (a.sh k) (b.sh k) (c.sh k) (d.sh k), true⟩])
theorem loopI0 (x : List Int) (n t : Nat) (a b c d : Fc) (k : Int) : (obs Tryz.prog TY none ([], true) 39).loop 1 (fb Tryz.f49 2) (eI n k (z0) t 2 0) (P0 x n ++ [some ⟨c4 a b c d, true⟩]) .normal (eJ n k (z0) t 2) (P0 x n ++ [some ⟨c4 (a.sh k) (b.sh k) (c.sh k) (d.sh k), true⟩]) := by
  have hfb : fb Tryz.f49 2 = .block 2 (.loop (lb Tryz.f49 2)) := by kernel_rfl
  refine comes_loop hfb rfl (fun f => eI n k (z0) t 2 f) (Hs0 x n a b c d k) (fun f => f ≤ 4) (fun f => 4 - f) 0 (by omega) rfl rfl ?_
  intro f hf
  have : f = 0 ∨ f = 1 ∨ f = 2 ∨ f = 3 ∨ f = 4 := by omega
  rcases this with rfl | rfl | rfl | rfl | rfl
  · exact .inl ⟨1, by omega, by omega, i00 x n t _ _ _ _ k⟩
  · exact .inl ⟨2, by omega, by omega, i01 x n t _ _ _ _ k⟩
  · exact .inl ⟨3, by omega, by omega, i02 x n t _ _ _ _ k⟩
  · exact .inl ⟨4, by omega, by omega, i03 x n t _ _ _ _ k⟩
  · exact .inr (.inl ⟨rfl, i04 x n t _ _ _ _ k⟩)

def I1 (x : List Int) (y : List Int) (n t : Nat) (k : Int) (f : Nat) (h : Heap) (ax : AX) (l : List (Nat × Value)) (h' : Heap) : Prop := Comes none ([], true) Tryz.prog 39 1 (lb Tryz.f49 2) (eI n k (gS 2 t) t 3 f) h ax l h'
theorem i10p (x : List Int) (y : List Int) (n t : Nat) (a b c d : Fc) {k : Int} (h : ile 0 a.u = true) : I1 x y n t k 0 (P1 x n y ++ [some ⟨c4 a b c d, true⟩]) .normal (eI n k (gS 2 t) t 3 1) (P1 x n y ++ [some ⟨c4 (a.add k) b c d, true⟩]) :=
  comes_run (S := { dir := dd [], know := kk [(23, true)], loop := noloop }) (k := 60) (ts := [1, 2, 5, 10, 11, 12, 7, 16]) (junk := []) (A := ile 0 a.u = true ∧ Dn .normal (eI n k (gS 2 t) t 3 1) (P1 x n y ++ [some ⟨c4 (a.add k) b c d, true⟩])) TY_ok mixed okI (Nat.le_of_ble_eq_true rfl) (P1_closed x y n _ rfl) rfl ⟨h, dn _ _ _⟩ (by kernel_rfl)
theorem i10n (x : List Int) (y : List Int) (n t : Nat) (a b c d : Fc) {k : Int} (h : ile 0 a.u = false) : I1 x y n t k 0 (P1 x n y ++ [some ⟨c4 a b c d, true⟩]) .normal (eI n k (gS 2 t) t 3 1) (P1 x n y ++ [some ⟨c4 a b c d, true⟩]) :=
  comes_run (S := { dir := dd [], know := kk [(23, false)], loop := noloop }) (k := 60) (ts := [1, 2, 5, 10, 11, 12, 7, 16]) (junk := []) (A := ile 0 a.u = false ∧ Dn .normal (eI n k (gS 2 t) t 3 1) (P1 x n y ++ [some ⟨c4 a b c d, true⟩])) TY_ok mixed okI (Nat.le_of_ble_eq_true rfl) (P1_closed x y n _ rfl) rfl ⟨h, dn _ _ _⟩ (by kernel_rfl)
theorem i10 (x : List Int) (y : List Int) (n t : Nat) (a b c d : Fc) (k : Int) : I1 x y n t k 0 (P1 x n y ++ [some ⟨c4 a b c d, true⟩]) .normal (eI n k (gS 2 t) t 3 1) (P1 x n y ++ [some ⟨c4 (a.sh k) b c d, true⟩]) := by
  unfold Fc.sh
  cases h : ile 0 a.u with
  | true => simpa using i10p x y n t a b c d h
  | false => simpa using i10n x y n t a b c d h
theorem i11p (x : List Int) (y : List Int) (n t : Nat) (a b c d : Fc) {k : Int} (h : ile 0 b.u = true) : I1 x y n t k 1 (P1 x n y ++ [some ⟨c4 a b c d, true⟩]) .normal (eI n k (gS 2 t) t 3 2) (P1 x n y ++ [some ⟨c4 a (b.add k) c d, true⟩]) :=
  comes_run (S := { dir := dd [], know := kk [(23, true)], loop := noloop }) (k := 60) (ts := [1, 2, 5, 10, 11, 12, 7, 16]) (junk := []) (A := ile 0 b.u = true ∧ Dn .normal (eI n k (gS 2 t) t 3 2) (P1 x n y ++ [some ⟨c4 a (b.add k) c d, true⟩])) TY_ok mixed okI (Nat.le_of_ble_eq_true rfl) (P1_closed x y n _ rfl) rfl ⟨h, dn _ _ _⟩ (by kernel_rfl)
theorem i11n (x : List Int) (y : List Int) (n t : Nat) (a b c d : Fc) {k : Int} (h : ile 0 b.u = false) : I1 x y n t k 1 (P1 x n y ++ [some ⟨c4 a b c d, true⟩]) .normal (eI n k (gS 2 t) t 3 2) (P1 x n y ++ [some ⟨c4 a b c d, true⟩]) :=
  comes_run (S := { dir := dd [], know := kk [(23, false)], loop := noloop }) (k := 60) (ts := [1, 2, 5, 10, 11, 12, 7, 16]) (junk := []) (A := ile 0 b.u = false ∧ Dn .normal (eI n k (gS 2 t) t 3 2) (P1 x n y ++ [some ⟨c4 a b c d, true⟩])) TY_ok mixed okI (Nat.le_of_ble_eq_true rfl) (P1_closed x y n _ rfl) rfl ⟨h, dn _ _ _⟩ (by kernel_rfl)
theorem i11 (x : List Int) (y : List Int) (n t : Nat) (a b c d : Fc) (k : Int) : I1 x y n t k 1 (P1 x n y ++ [some ⟨c4 a b c d, true⟩]) .normal (eI n k (gS 2 t) t 3 2) (P1 x n y ++ [some ⟨c4 a (b.sh k) c d, true⟩]) := by
  unfold Fc.sh
  cases h : ile 0 b.u with
  | true => simpa using i11p x y n t a b c d h
  | false => simpa using i11n x y n t a b c d h
theorem i12p (x : List Int) (y : List Int) (n t : Nat) (a b c d : Fc) {k : Int} (h : ile 0 c.u = true) : I1 x y n t k 2 (P1 x n y ++ [some ⟨c4 a b c d, true⟩]) .normal (eI n k (gS 2 t) t 3 3) (P1 x n y ++ [some ⟨c4 a b (c.add k) d, true⟩]) :=
  comes_run (S := { dir := dd [], know := kk [(23, true)], loop := noloop }) (k := 60) (ts := [1, 2, 5, 10, 11, 12, 7, 16]) (junk := []) (A := ile 0 c.u = true ∧ Dn .normal (eI n k (gS 2 t) t 3 3) (P1 x n y ++ [some ⟨c4 a b (c.add k) d, true⟩])) TY_ok mixed okI (Nat.le_of_ble_eq_true rfl) (P1_closed x y n _ rfl) rfl ⟨h, dn _ _ _⟩ (by kernel_rfl)
theorem i12n (x : List Int) (y : List Int) (n t : Nat) (a b c d : Fc) {k : Int} (h : ile 0 c.u = false) : I1 x y n t k 2 (P1 x n y ++ [some ⟨c4 a b c d, true⟩]) .normal (eI n k (gS 2 t) t 3 3) (P1 x n y ++ [some ⟨c4 a b c d, true⟩]) :=
  comes_run (S := { dir := dd [], know := kk [(23, false)], loop := noloop }) (k := 60) (ts := [1, 2, 5, 10, 11, 12, 7, 16]) (junk := []) (A := ile 0 c.u = false ∧ Dn .normal (eI n k (gS 2 t) t 3 3) (P1 x n y ++ [some ⟨c4 a b c d, true⟩])) TY_ok mixed okI (Nat.le_of_ble_eq_true rfl) (P1_closed x y n _ rfl) rfl ⟨h, dn _ _ _⟩ (by kernel_rfl)
theorem i12 (x : List Int) (y : List Int) (n t : Nat) (a b c d : Fc) (k : Int) : I1 x y n t k 2 (P1 x n y ++ [some ⟨c4 a b c d, true⟩]) .normal (eI n k (gS 2 t) t 3 3) (P1 x n y ++ [some ⟨c4 a b (c.sh k) d, true⟩]) := by
  unfold Fc.sh
  cases h : ile 0 c.u with
  | true => simpa using i12p x y n t a b c d h
  | false => simpa using i12n x y n t a b c d h
theorem i13p (x : List Int) (y : List Int) (n t : Nat) (a b c d : Fc) {k : Int} (h : ile 0 d.u = true) : I1 x y n t k 3 (P1 x n y ++ [some ⟨c4 a b c d, true⟩]) .normal (eI n k (gS 2 t) t 3 4) (P1 x n y ++ [some ⟨c4 a b c (d.add k), true⟩]) :=
  comes_run (S := { dir := dd [], know := kk [(23, true)], loop := noloop }) (k := 60) (ts := [1, 2, 5, 10, 11, 12, 7, 16]) (junk := []) (A := ile 0 d.u = true ∧ Dn .normal (eI n k (gS 2 t) t 3 4) (P1 x n y ++ [some ⟨c4 a b c (d.add k), true⟩])) TY_ok mixed okI (Nat.le_of_ble_eq_true rfl) (P1_closed x y n _ rfl) rfl ⟨h, dn _ _ _⟩ (by kernel_rfl)
theorem i13n (x : List Int) (y : List Int) (n t : Nat) (a b c d : Fc) {k : Int} (h : ile 0 d.u = false) : I1 x y n t k 3 (P1 x n y ++ [some ⟨c4 a b c d, true⟩]) .normal (eI n k (gS 2 t) t 3 4) (P1 x n y ++ [some ⟨c4 a b c d, true⟩]) :=
  comes_run (S := { dir := dd [], know := kk [(23, false)], loop := noloop }) (k := 60) (ts := [1, 2, 5, 10, 11, 12, 7, 16]) (junk := []) (A := ile 0 d.u = false ∧ Dn .normal (eI n k (gS 2 t) t 3 4) (P1 x n y ++ [some ⟨c4 a b c d, true⟩])) TY_ok mixed okI (Nat.le_of_ble_eq_true rfl) (P1_closed x y n _ rfl) rfl ⟨h, dn _ _ _⟩ (by kernel_rfl)
theorem i13 (x : List Int) (y : List Int) (n t : Nat) (a b c d : Fc) (k : Int) : I1 x y n t k 3 (P1 x n y ++ [some ⟨c4 a b c d, true⟩]) .normal (eI n k (gS 2 t) t 3 4) (P1 x n y ++ [some ⟨c4 a b c (d.sh k), true⟩]) := by
  unfold Fc.sh
  cases h : ile 0 d.u with
  | true => simpa using i13p x y n t a b c d h
  | false => simpa using i13n x y n t a b c d h
theorem i14 (x : List Int) (y : List Int) (n t : Nat) (a b c d : Fc) (k : Int) : I1 x y n t k 4 (P1 x n y ++ [some ⟨c4 a b c d, true⟩]) (.exit 2) (eJ n k (gS 2 t) t 3) (P1 x n y ++ [some ⟨c4 a b c d, true⟩]) :=
  comes_run (S := { dir := dd [], know := kk [], loop := noloop }) (k := 60) (ts := [1, 2, 5, 10, 11, 12, 7]) (junk := []) (A := Dn (.exit 2) (eJ n k (gS 2 t) t 3) (P1 x n y ++ [some ⟨c4 a b c d, true⟩])) TY_ok mixed okI (Nat.le_of_ble_eq_true rfl) (P1_closed x y n _ rfl) rfl (dn _ _ _) (by kernel_rfl)
def Hs1 (x : List Int) (y : List Int) (n : Nat) (a b c d : Fc) (k : Int) : Nat → Heap
  | 0 => (P1 x n y ++ [some ⟨c4 a b c d, true⟩])
  | 1 => (P1 x n y ++ [some ⟨c4 (a.sh k) b c d, true⟩])
  | 2 => (P1 x n y ++ [some ⟨c4 (a.sh k) (b.sh k) c d, true⟩])
  | 3 => (P1 x n y ++ [some ⟨c4 (a.sh k) (b.sh k) (c.sh k) d, true⟩])
  | _ => (P1 x n y ++ [some ⟨c4 (a.sh k) (b.sh k) (c.sh k) (d.sh k), true⟩])
theorem loopI1 (x : List Int) (y : List Int) (n t : Nat) (a b c d : Fc) (k : Int) : (obs Tryz.prog TY none ([], true) 39).loop 1 (fb Tryz.f49 2) (eI n k (gS 2 t) t 3 0) (P1 x n y ++ [some ⟨c4 a b c d, true⟩]) .normal (eJ n k (gS 2 t) t 3) (P1 x n y ++ [some ⟨c4 (a.sh k) (b.sh k) (c.sh k) (d.sh k), true⟩]) := by
  have hfb : fb Tryz.f49 2 = .block 2 (.loop (lb Tryz.f49 2)) := by kernel_rfl
  refine comes_loop hfb rfl (fun f => eI n k (gS 2 t) t 3 f) (Hs1 x y n a b c d k) (fun f => f ≤ 4) (fun f => 4 - f) 0 (by omega) rfl rfl ?_
  intro f hf
  have : f = 0 ∨ f = 1 ∨ f = 2 ∨ f = 3 ∨ f = 4 := by omega
  rcases this with rfl | rfl | rfl | rfl | rfl
  · exact .inl ⟨1, by omega, by omega, i10 x y n t _ _ _ _ k⟩
  · exact .inl ⟨2, by omega, by omega, i11 x y n t _ _ _ _ k⟩
  · exact .inl ⟨3, by omega, by omega, i12 x y n t _ _ _ _ k⟩
  · exact .inl ⟨4, by omega, by omega, i13 x y n t _ _ _ _ k⟩
  · exact .inr (.inl ⟨rfl, i14 x y n t _ _ _ _ k⟩)
end SH
end Go.Ab

namespace Go.Ab
open Go.Proofs

def eqI : List Int → List Int → Bool
  | a :: x, b :: y => a == b && eqI x y
  | _, _ => true
theorem eqI_self : ∀ x : List Int, eqI x x = true
  | [] => rfl
  | a :: x => by simp [eqI, eqI_self x]

theorem rd_row {x : List Int} {h : Heap} {b t n : Nat} {w : Bool} (hb : hblk h b = some ⟨ints x, w⟩) (hx : x.length = 20 * n) (ht : t < n) : readCells h ⟨b, 0 + t * 20, none⟩ 20 = some (rowC (fc x) t) := by
  have := rd_tet (h := h) (b := b) (o := 20 * t) hb (by omega)
  rw [show 0 + t * 20 = 20 * t by omega, this]
  rfl

namespace RS
def H (x : List Int) (n : Nat) : Heap := [some ⟨ints x, false⟩, some ⟨ints x, false⟩, some ⟨[gS 0 n], true⟩, some ⟨[gS 1 n], true⟩]
theorem H_closed (x : List Int) (n : Nat) : closedH 4 (H x n) :=
  closedH_cons (subL_plain _ _ (ints_plain x)) (closedH_cons (subL_plain _ _ (ints_plain x)) (closedH_cons (belowL_sub _ rfl) (closedH_cons (belowL_sub _ rfl) closedH_nil)))
def eT (t : Nat) : List (Nat × Value) := [(2, .pointer (some ⟨2, 0, none⟩)), (3, .pointer (some ⟨3, 0, none⟩)), (5, .int .i64 t)]
def eW (t : Nat) : List (Nat × Value) := [(2, .pointer (some ⟨2, 0, none⟩)), (3, .pointer (some ⟨3, 0, none⟩)), (5, .int .i64 (IntKind.i64.wrap ((t : Int) + 1)))]
theorem ok0 : codeOk 31 (lb Tryz.f19 0) = true := by kernel_rfl
def B (x : List Int) (n t : Nat) (ax : AX) (l : List (Nat × Value)) : Prop := Comes none ([], true) Tryz.prog 31 2 (lb Tryz.f19 0) (eT t) (H x n) ax l (H x n)

theorem bEnd {x : List Int} {n t : Nat} (h1 : ilt (t : Int) n = false) : B x n t (.exit 0) [] :=
  comes_run (S := { dir := dd [], know := kk [(17, false)], loop := noloop }) (k := 60) (ts := []) (junk := []) (A := ilt (t : Int) n = false ∧ Dn (.exit 0) [] (H x n)) TY_ok mixed ok0 (show 2 ≤ (H x n).length from Nat.le_of_ble_eq_true rfl) (H_closed x n) rfl ⟨h1, dn _ _ _⟩ (by kernel_rfl)
theorem bStep {x : List Int} {n t : Nat} (hx : x.length = 20 * n) (h1 : ilt (t : Int) n = true) (ht : t < n) (hw : IntKind.i64.wrap ((t : Int) + 1) = ((t + 1 : Nat) : Int)) : B x n t .normal (eT (t + 1)) := by
  have : B x n t .normal (eW t) := comes_run (S := { dir := dd [((6, 3), ixD), ((6, 4), ldC (rowC (fc x) t)), ((6, 8), ixD), ((6, 9), ldC (rowC (fc x) t))], know := kk [(17, true), (30, false)], loop := noloop }) (k := 60) (ts := [2, 3, 5]) (junk := [])
    (A := (ilt (t : Int) n = true) ∧ (0 ≤ (t : Int) ∧ (t : Int) < (n : Int)) ∧ (readCells (H x n) ⟨0, 0 + t * 20, none⟩ 20 = some (rowC (fc x) t)) ∧ (0 ≤ (t : Int) ∧ (t : Int) < (n : Int)) ∧ (readCells (H x n) ⟨1, 0 + t * 20, none⟩ 20 = some (rowC (fc x) t)) ∧
      ((!(eqI (row (fc x) t) (row (fc x) t))) = false) ∧ Dn .normal (eW t) (H x n)) TY_ok mixed ok0 (show 2 ≤ (H x n).length from Nat.le_of_ble_eq_true rfl) (H_closed x n) rfl
    ⟨h1, ⟨by omega, by omega⟩, rd_row (w := false) rfl hx ht, ⟨by omega, by omega⟩, rd_row (w := false) rfl hx ht, by rw [eqI_self]; rfl, dn _ _ _⟩ (by kernel_rfl)
  unfold eW at this
  rw [hw] at this
  exact this
theorem loop_ok {x : List Int} {n : Nat} (hn : n ≤ 1000) (hx : x.length = 20 * n) : (obs Tryz.prog TY none ([], true) 31).loop 2 (fb Tryz.f19 0) (eT 0) (H x n) .normal [] (H x n) := by
  have hfb : fb Tryz.f19 0 = .block 0 (.loop (lb Tryz.f19 0)) := by kernel_rfl
  refine comes_loop hfb rfl (fun t => eT t) (fun _ => H x n) (fun t => t ≤ n) (fun t => n - t) 0 (by omega) rfl rfl ?_
  intro t ht
  by_cases h4 : t < n
  · exact .inl ⟨t + 1, by omega, by omega, bStep hx (by rw [ilt_eq]; simp; omega) h4 (wrap_succ (by omega))⟩
  · exact .inr (.inl ⟨rfl, bEnd (by rw [ilt_eq]; simp; omega)⟩)
end RS

theorem rsame_sum {x : List Int} {n : Nat} (hn : n ≤ 1000) (hx : x.length = 20 * n) : Sum Tryz.prog 19 [gV 0 n, gV 1 n] [some ⟨ints x, false⟩, some ⟨ints x, false⟩] fun o _ => o = .ret (.bool true) :=
  tFun_sum (S := { dir := dd [], know := kk [(12, false)], loop := loops [(0, ([2, 3, 5], fun _ _ => (.normal, [], RS.H x n)))] }) (k := 60) TY_ok mixed fn19_ok
    (A := ((n : Int) != (n : Int)) = false ∧ (obs Tryz.prog TY none ([], true) 31).loop 2 (fb Tryz.f19 0) (RS.eT 0) (RS.H x n) .normal [] (RS.H x n) ∧ AOut.ret (.bool true) = .ret (.bool true)) ⟨by simp, RS.loop_ok hn hx, rfl⟩ (by kernel_rfl)
end Go.Ab

namespace Go.Ab
open Go.Proofs

theorem fn4_ok : Tryz.prog.funcs[4]? = some Tryz.f4 ∧ (Tryz.f4.name == "runtime.NumGoroutine") = false ∧ ∀ c, Tryz.f4.body = some c → codeOk Tryz.f4.ntmps c = true :=
  ⟨Tryz.func4, by kernel_rfl, codeOk_of (by kernel_rfl)⟩
theorem fn9_ok : Tryz.prog.funcs[9]? = some Tryz.f9 ∧ (Tryz.f9.name == "runtime.NumGoroutine") = false ∧ ∀ c, Tryz.f9.body = some c → codeOk Tryz.f9.ntmps c = true :=
  ⟨Tryz.func9, by kernel_rfl, codeOk_of (by kernel_rfl)⟩
theorem fn17_ok : Tryz.prog.funcs[17]? = some Tryz.f17 ∧ (Tryz.f17.name == "runtime.NumGoroutine") = false ∧ ∀ c, Tryz.f17.body = some c → codeOk Tryz.f17.ntmps c = true :=
  ⟨Tryz.func17, by kernel_rfl, codeOk_of (by kernel_rfl)⟩
theorem fn22_ok : Tryz.prog.funcs[22]? = some Tryz.f22 ∧ (Tryz.f22.name == "runtime.NumGoroutine") = false ∧ ∀ c, Tryz.f22.body = some c → codeOk Tryz.f22.ntmps c = true :=
  ⟨Tryz.func22, by kernel_rfl, codeOk_of (by kernel_rfl)⟩
theorem fn23_ok : Tryz.prog.funcs[23]? = some Tryz.f23 ∧ (Tryz.f23.name == "runtime.NumGoroutine") = false ∧ ∀ c, Tryz.f23.body = some c → codeOk Tryz.f23.ntmps c = true :=
  ⟨Tryz.func23, by kernel_rfl, codeOk_of (by kernel_rfl)⟩
theorem fn45_ok : Tryz.prog.funcs[45]? = some Tryz.f45 ∧ (Tryz.f45.name == "runtime.NumGoroutine") = false ∧ ∀ c, Tryz.f45.body = some c → codeOk Tryz.f45.ntmps c = true :=
  ⟨Tryz.func45, by kernel_rfl, codeOk_of (by kernel_rfl)⟩
end Go.Ab

namespace Go.Ab
open Go.Proofs

def shF (F : FF) (k : Int) : FF := fun t f => (F t f).sh k
theorem rowC_c4 (F : FF) (t : Nat) : rowC F t = c4 (F t 0) (F t 1) (F t 2) (F t 3) := rfl
theorem ints_build_succ (F : FF) (t : Nat) : ints (build (t + 1) F) = ints (build t F) ++ c4 (F t 0) (F t 1) (F t 2) (F t 3) := by
  simp only [build]; rw [ints_append]; rfl

namespace SH
abbrev RT (x : List Int) (n t : Nat) (k : Int) (z : Value) (h : Heap) (ax : AX) (l : List (Nat × Value)) (h' : Heap) : Prop := Comes none ([], true) Tryz.prog 39 1 (lb Tryz.f49 0) (eT n k z t) h ax l h'
def eW (n : Nat) (k : Int) (z : Value) (t : Nat) : List (Nat × Value) := [(1, .int .i64 k), (2, .pointer (some ⟨1, 0, none⟩)), (5, z), (10, gS 0 n), (11, .int .i64 n), (12, .int .i64 (IntKind.i64.wrap ((t : Int) + 1)))]
def lpI (l : List (Nat × Value)) (h : Heap) : LoopD := ([1, 2, 5, 10, 11, 12, 7, 16], fun _ _ => (.normal, l, h))

theorem pk {x : List Int} {n : Nat} {k : Int} {t b : Nat} {h0 : Heap} {y : List Int} {ks : List Nat} (hks : ks = [0, 1, b]) (ho : orderOk 1 ks = true) (hg : hblk h0 0 = some ⟨ints x, false⟩) (h1 : hblk h0 1 = some ⟨[gS 0 n], true⟩) (hb : hblk h0 b = some ⟨ints y, true⟩) (hf : flags 1 h0 = [false]) {e : Env}
    (he : ∀ p ∈ eW n k (gS b (t + 1)) t, e p.1 = some p.2) (hw : IntKind.i64.wrap ((t : Int) + 1) = ((t + 1 : Nat) : Int)) : Ref 1 (envL (mkE 39 (eT n k (gS 2 (t + 1)) (t + 1)))) (P1 x n y) e h0 := by
  subst hks
  refine Ref.pick (ks := [0, 1, b]) ho ⟨⟨_, hg, subL_plain _ _ (ints_plain x), id⟩, ⟨_, h1, ⟨_, _, rfl, .inr ⟨0, rfl, rfl⟩, rfl⟩, id⟩, ⟨_, hb, subL_plain _ _ (ints_plain y), id⟩, trivial⟩ (by rw [hf]; rfl) ?_
  intro p hp
  simp only [eT, List.mem_cons, List.not_mem_nil, or_false] at hp
  rcases hp with rfl | rfl | rfl | rfl | rfl | rfl
  · exact ⟨_, he _ (.head _), rfl⟩
  · exact ⟨_, he _ (.tail _ (.head _)), 1, rfl, rfl⟩
  · exact ⟨gS b (t + 1), he _ (.tail _ (.tail _ (.head _))), show sub _ (Value.slice (some ⟨2, 0, none⟩) (t + 1) 20) _ from .inr ⟨b, rfl, rfl⟩⟩
  · exact ⟨_, he _ (.tail _ (.tail _ (.tail _ (.head _)))), .inr ⟨0, rfl, rfl⟩⟩
  · exact ⟨_, he _ (.tail _ (.tail _ (.tail _ (.tail _ (.head _))))), rfl⟩
  · have h12 := he (12, .int .i64 (IntKind.i64.wrap ((t : Int) + 1))) (.tail _ (.tail _ (.tail _ (.tail _ (.tail _ (.head _))))))
    rw [hw] at h12
    exact ⟨_, h12, rfl⟩

theorem r0v {x : List Int} {n : Nat} {k : Int} {a b c d a' b' c' d' : Fc} {y : List Int} (hn : ilt ((0 : Nat) : Int) n = true) (hn2 : 0 ≤ ((0 : Nat) : Int) ∧ ((0 : Nat) : Int) < (n : Int)) (hc : ints y = c4 a' b' c' d') (hrd : readCells (P0 x n) ⟨0, 0 + 0 * 20, none⟩ 20 = some (c4 a b c d))
    (hlp : (obs Tryz.prog TY none ([], true) 39).loop 1 (fb Tryz.f49 2) (eI n k z0 0 2 0) (P0 x n ++ [some ⟨c4 a b c d, true⟩]) .normal (eJ n k z0 0 2) (P0 x n ++ [some ⟨c4 a' b' c' d', true⟩])) :
    RT x n 0 k z0 (P0 x n) .normal (eT n k (gS 2 1) 1) (P1 x n y) :=
  comes_pick (S := { dir := dd [((4, 0), ixD), ((4, 1), ldC (c4 a b c d)), ((11, 3), (none, .app fun _ _ => (.slice (some ⟨4, 0, none⟩) 1 20, P0 x n ++ [some ⟨c4 a' b' c' d', true⟩, some ⟨c4 a' b' c' d', true⟩, some ⟨c4 a' b' c' d', true⟩])))], know := kk [(13, true)], loop := loops [(2, lpI (eJ n k z0 0 2) (P0 x n ++ [some ⟨c4 a' b' c' d', true⟩]))] }) (k := 60) (ts := [1, 2, 5, 10, 11, 12])
    (l0 := eW n k (gS 4 1) 0) (h0 := P0 x n ++ [some ⟨c4 a' b' c' d', true⟩, some ⟨c4 a' b' c' d', true⟩, some ⟨c4 a' b' c' d', true⟩])
    (A := (ilt ((0 : Nat) : Int) n = true) ∧ (0 ≤ ((0 : Nat) : Int) ∧ ((0 : Nat) : Int) < (n : Int)) ∧ (readCells (P0 x n) ⟨0, 0 + 0 * 20, none⟩ 20 = some (c4 a b c d)) ∧
      (obs Tryz.prog TY none ([], true) 39).loop 1 (fb Tryz.f49 2) (eI n k z0 0 2 0) (P0 x n ++ [some ⟨c4 a b c d, true⟩]) .normal (eJ n k z0 0 2) (P0 x n ++ [some ⟨c4 a' b' c' d', true⟩]) ∧
      (aAppend TY 1 22 22 z0 (.slice (some ⟨3, 0, none⟩) 1 20) (P0 x n ++ [some ⟨c4 a' b' c' d', true⟩, some ⟨c4 a' b' c' d', true⟩]) = some (.slice (some ⟨4, 0, none⟩) 1 20, P0 x n ++ [some ⟨c4 a' b' c' d', true⟩, some ⟨c4 a' b' c' d', true⟩, some ⟨c4 a' b' c' d', true⟩])) ∧
      Dn .normal (eW n k (gS 4 1) 0) (P0 x n ++ [some ⟨c4 a' b' c' d', true⟩, some ⟨c4 a' b' c' d', true⟩, some ⟨c4 a' b' c' d', true⟩]))
    TY_ok mixed ok0 (fun e he => pk (t := 0) (b := 4) rfl (by kernel_rfl) (by kernel_rfl) (by kernel_rfl) (by rw [hc]; kernel_rfl) (by kernel_rfl) he (by kernel_rfl))
    ⟨hn, hn2, hrd, hlp, app_nil22 (m := 1) (ys := c4 a' b' c' d') (by kernel_rfl) (by kernel_rfl) (Nat.le_refl _) (by kernel_rfl) (by kernel_rfl) (Nat.le_of_ble_eq_true rfl), dn _ _ _⟩ (by kernel_rfl)

def H5 (x y : List Int) (n : Nat) (a b c d : Fc) : Heap := [some ⟨ints x, false⟩, some ⟨[gS 0 n], true⟩, none, some ⟨c4 a b c d, true⟩, some ⟨c4 a b c d, true⟩, some ⟨ints y ++ c4 a b c d, true⟩]
theorem pk1 {x y y2 : List Int} {n t : Nat} {k : Int} {a b c d : Fc} (hc : ints y2 = ints y ++ c4 a b c d) (hw : IntKind.i64.wrap ((t : Int) + 1) = ((t + 1 : Nat) : Int)) (e : Env) (he : ∀ p ∈ eW n k (gS 5 (t + 1)) t, e p.1 = some p.2) :
    Ref 1 (envL (mkE 39 (eT n k (gS 2 (t + 1)) (t + 1)))) (P1 x n y2) e (H5 x y n a b c d) :=
  pk (x := x) (n := n) (k := k) (t := t) (b := 5) (y := y2) (ks := [0, 1, 5]) (h0 := H5 x y n a b c d) rfl (by kernel_rfl) (by kernel_rfl) (by kernel_rfl) (by rw [hc]; kernel_rfl) (by kernel_rfl) he hw

def AppP (x y : List Int) (n t : Nat) (a b c d : Fc) : Prop := aAppend TY 1 22 22 (gS 2 t) (.slice (some ⟨4, 0, none⟩) 1 20) (P1 x n y ++ [some ⟨c4 a b c d, true⟩, some ⟨c4 a b c d, true⟩]) = some (gS 5 (t + 1), H5 x y n a b c d)
theorem r1v {x y y2 : List Int} {n t : Nat} {k : Int} {a b c d a' b' c' d' : Fc} (hn : ilt (t : Int) n = true) (hn2 : 0 ≤ (t : Int) ∧ (t : Int) < (n : Int)) (hw : IntKind.i64.wrap ((t : Int) + 1) = ((t + 1 : Nat) : Int)) (hc : ints y2 = ints y ++ c4 a' b' c' d') (hrd : readCells (P1 x n y) ⟨0, 0 + t * 20, none⟩ 20 = some (c4 a b c d))
    (hlp : (obs Tryz.prog TY none ([], true) 39).loop 1 (fb Tryz.f49 2) (eI n k (gS 2 t) t 3 0) (P1 x n y ++ [some ⟨c4 a b c d, true⟩]) .normal (eJ n k (gS 2 t) t 3) (P1 x n y ++ [some ⟨c4 a' b' c' d', true⟩]))
    (happ : AppP x y n t a' b' c' d') :
    RT x n t k (gS 2 t) (P1 x n y) .normal (eT n k (gS 2 (t + 1)) (t + 1)) (P1 x n y2) :=
  comes_pick (S := { dir := dd [((4, 0), ixD), ((4, 1), ldC (c4 a b c d)), ((11, 3), (none, .app fun _ _ => (gS 5 (t + 1), H5 x y n a' b' c' d')))], know := kk [(13, true)], loop := loops [(2, lpI (eJ n k (gS 2 t) t 3) (P1 x n y ++ [some ⟨c4 a' b' c' d', true⟩]))] }) (k := 60) (ts := [1, 2, 5, 10, 11, 12])
    (l0 := eW n k (gS 5 (t + 1)) t) (h0 := H5 x y n a' b' c' d')
    (A := (ilt (t : Int) n = true) ∧ (0 ≤ (t : Int) ∧ (t : Int) < (n : Int)) ∧ (readCells (P1 x n y) ⟨0, 0 + t * 20, none⟩ 20 = some (c4 a b c d)) ∧
      (obs Tryz.prog TY none ([], true) 39).loop 1 (fb Tryz.f49 2) (eI n k (gS 2 t) t 3 0) (P1 x n y ++ [some ⟨c4 a b c d, true⟩]) .normal (eJ n k (gS 2 t) t 3) (P1 x n y ++ [some ⟨c4 a' b' c' d', true⟩]) ∧
      (AppP x y n t a' b' c' d') ∧
      Dn .normal (eW n k (gS 5 (t + 1)) t) (H5 x y n a' b' c' d'))
    TY_ok mixed ok0 (fun e he => pk1 hc hw e he)
    ⟨hn, hn2, hrd, hlp, happ, dn _ _ _⟩ (by kernel_rfl)

theorem rEnd0 {x : List Int} {n t : Nat} {k : Int} (h : ilt (t : Int) n = false) : RT x n t k z0 (P0 x n) (.exit 0) [(5, z0)] (P0 x n) :=
  comes_pick (S := { dir := dd [], know := kk [(13, false)], loop := noloop }) (k := 60) (ts := [5]) (l0 := [(5, z0)]) (h0 := P0 x n) (A := ilt (t : Int) n = false ∧ Dn (.exit 0) [(5, z0)] (P0 x n)) TY_ok mixed ok0
    (fun e he => Ref.pick (ks := [0, 1]) rfl ⟨⟨_, rfl, subL_plain _ _ (ints_plain x), id⟩, ⟨_, rfl, ⟨_, _, rfl, .inr ⟨0, rfl, rfl⟩, rfl⟩, id⟩, trivial⟩ rfl (fun p hp => by
      simp only [List.mem_cons, List.not_mem_nil, or_false] at hp; subst hp; exact ⟨_, he _ (.head _), rfl⟩)) ⟨h, dn _ _ _⟩ (by kernel_rfl)
theorem rEnd1 {x y : List Int} {n t : Nat} {k : Int} (h : ilt (t : Int) n = false) : RT x n t k (gS 2 t) (P1 x n y) (.exit 0) [(5, gS 2 t)] (P1 x n y) :=
  comes_pick (S := { dir := dd [], know := kk [(13, false)], loop := noloop }) (k := 60) (ts := [5]) (l0 := [(5, gS 2 t)]) (h0 := P1 x n y) (A := ilt (t : Int) n = false ∧ Dn (.exit 0) [(5, gS 2 t)] (P1 x n y)) TY_ok mixed ok0
    (fun e he => Ref.pick (ks := [0, 1, 2]) rfl ⟨⟨_, rfl, subL_plain _ _ (ints_plain x), id⟩, ⟨_, rfl, ⟨_, _, rfl, .inr ⟨0, rfl, rfl⟩, rfl⟩, id⟩, ⟨_, rfl, subL_plain _ _ (ints_plain y), id⟩, trivial⟩ rfl (fun p hp => by
      simp only [List.mem_cons, List.not_mem_nil, or_false] at hp; subst hp; exact ⟨_, he _ (.head _), show sub _ (Value.slice (some ⟨2, 0, none⟩) t 20) _ from .inr ⟨2, rfl, rfl⟩⟩)) ⟨h, dn _ _ _⟩ (by kernel_rfl)

theorem app_row {x y : List Int} {n t : Nat} {a b c d : Fc} (ht : t ≤ 2000) (hy : y.length = 20 * t) : AppP x y n t a b c d :=
  app_own22 (m := 1) (zs := ints y) (ys := c4 a b c d) (by kernel_rfl) (Nat.le_of_ble_eq_true rfl) (by rw [ints_length]; omega) (by kernel_rfl) (by kernel_rfl) (by kernel_rfl) (by kernel_rfl) (by omega)

def zT (t : Nat) : Value := if t = 0 then z0 else gS 2 t
def HT (x : List Int) (n : Nat) (k : Int) (t : Nat) : Heap := if t = 0 then P0 x n else P1 x n (build t (shF (fc x) k))

theorem loop_ok {x : List Int} {n : Nat} {k : Int} (hn : n ≤ 1000) (hx : x.length = 20 * n) : (obs Tryz.prog TY none ([], true) 39).loop 1 (fb Tryz.f49 0) (eT n k z0 0) (P0 x n) .normal [(5, zT n)] (HT x n k n) := by
  have hfb : fb Tryz.f49 0 = .block 0 (.loop (lb Tryz.f49 0)) := by kernel_rfl
  have lt : ∀ t : Nat, t < n → ilt (t : Int) n = true := fun t ht => by rw [ilt_eq]; simp; omega
  refine comes_loop hfb rfl (fun t => eT n k (zT t) t) (HT x n k) (fun t => t ≤ n) (fun t => n - t) 0 (by omega) rfl rfl ?_
  intro t ht
  by_cases h4 : t < n
  · refine .inl ⟨t + 1, by omega, by omega, ?_⟩
    by_cases h0 : t = 0
    · subst h0
      exact r0v (y := build 1 (shF (fc x) k)) (lt 0 h4) ⟨by omega, by omega⟩ rfl (rd_row (w := false) rfl hx h4) (loopI0 x n 0 _ _ _ _ k)
    · have e1 : zT t = gS 2 t := if_neg h0
      have e2 : HT x n k t = P1 x n (build t (shF (fc x) k)) := if_neg h0
      rw [e1, e2]
      exact r1v (lt t h4) ⟨by omega, by omega⟩ (wrap_succ (by omega)) (ints_build_succ _ _) (rd_row (w := false) rfl hx h4) (loopI1 x _ n t _ _ _ _ k) (app_row (by omega) (build_length _ _))
  · have : t = n := by omega
    subst this
    refine .inr (.inl ⟨rfl, ?_⟩)
    by_cases h0 : t = 0
    · subst h0
      exact rEnd0 (by rw [ilt_eq]; simp)
    · have e1 : zT t = gS 2 t := if_neg h0
      have e2 : HT x t k t = P1 x t (build t (shF (fc x) k)) := if_neg h0
      rw [e1, e2]
      exact rEnd1 (by rw [ilt_eq]; simp)
end SH

/-- The contract: nothing for no tetrahedra, else a new list. -/
theorem shifted_sum {x : List Int} {n : Nat} {k : Int} (hn : n ≤ 1000) (hx : x.length = 20 * n) : Sum Tryz.prog 49 [gV 0 n, .int .i64 k] [some ⟨ints x, false⟩] fun o h2 => o = .ret (SH.zT n) ∧ h2 = SH.HT x n k n :=
  tFun_sum (S := { dir := dd [], know := kk [], loop := loops [(0, ([1, 2, 5, 10, 11, 12], fun _ _ => (.normal, [(5, SH.zT n)], SH.HT x n k n)))] }) (k := 60) TY_ok mixed fn49_ok
    (A := (obs Tryz.prog TY none ([], true) 39).loop 1 (fb Tryz.f49 0) (SH.eT n k SH.z0 0) (SH.P0 x n) .normal [(5, SH.zT n)] (SH.HT x n k n) ∧ AOut.ret (SH.zT n) = .ret (SH.zT n) ∧ SH.HT x n k n = SH.HT x n k n) ⟨SH.loop_ok hn hx, rfl, rfl⟩ (by kernel_rfl)
end Go.Ab
