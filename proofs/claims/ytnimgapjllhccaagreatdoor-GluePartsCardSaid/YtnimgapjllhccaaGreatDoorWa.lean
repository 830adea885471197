/- The function Part answers for all gluings: maps from numbers to numbers in the heap. Conditions: none beyond the given model and program. -/
import Derived.Test.YtnimgapjllhccaaGreatDoorPv
import Derived.Test.YtnimgapjllhccaaGreatDoorMv
import Derived.Test.YtnimgapjllhccaaGreatDoorRn
namespace Go.Ab
open Go.Proofs Go.MapKept

/-- How many before i have the label k. -/
def cntK (l : List Int) (k : Int) : Nat → Nat
  | 0 => 0
  | i + 1 => if cel l i = k then cntK l k i + 1 else cntK l k i
/-- The map: the old number and the new one, in turn. -/
def mcK (l : List Int) (k : Int) : Nat → List Int
  | 0 => []
  | i + 1 => if cel l i = k then mcK l k i ++ [(i : Int), (cntK l k i : Int)] else mcK l k i
/-- A face with its new number. -/
def pF (x l : List Int) (k : Int) : FF := fun v f => if ile 0 (fc x v f).u = true then ⟨(cntK l k (fc x v f).u.toNat : Int), (fc x v f).p⟩ else fc x v f
/-- The list so far. -/
def ptK (x l : List Int) (k : Int) : Nat → List Int
  | 0 => []
  | i + 1 => if cel l i = k then ptK x l k i ++ row (pF x l k) i else ptK x l k i

theorem mcK_len (l : List Int) (k : Int) : ∀ i, (mcK l k i).length = 2 * cntK l k i
  | 0 => rfl
  | i + 1 => by
    simp only [mcK, cntK]
    split
    · simp [mcK_len l k i]; omega
    · exact mcK_len l k i
theorem ptK_len (x l : List Int) (k : Int) : ∀ i, (ptK x l k i).length = 20 * cntK l k i
  | 0 => rfl
  | i + 1 => by
    simp only [ptK, cntK]
    split
    · rw [List.length_append, row_length, ptK_len x l k i]; omega
    · exact ptK_len x l k i
theorem cntK_le (l : List Int) (k : Int) : ∀ i, cntK l k i ≤ i
  | 0 => Nat.le_refl _
  | i + 1 => by have := cntK_le l k i; simp only [cntK]; split <;> omega

/-- What the map holds. -/
theorem mcK_get (l : List Int) (k : Int) : ∀ (i j : Nat) (v : Int), (mcK l k i)[2 * j]? = some v → 0 ≤ v ∧ v < i ∧ cel l v.toNat = k ∧ (mcK l k i)[2 * j + 1]? = some (cntK l k v.toNat : Int)
  | 0, j, v, h => by simp [mcK] at h
  | i + 1, j, v, h => by
    simp only [mcK] at h ⊢
    split at h
    · rename_i hk
      rw [if_pos hk]
      have hl := mcK_len l k i
      by_cases hj : j < cntK l k i
      · rw [List.getElem?_append_left (by omega)] at h ⊢
        obtain ⟨a, b, c, d⟩ := mcK_get l k i j v h
        exact ⟨a, by omega, c, d⟩
      · rw [List.getElem?_append_right (by omega)] at h
        have hlt := (List.getElem?_eq_some_iff.1 h).1
        have hj2 : j = cntK l k i := by simp at hlt; omega
        subst hj2
        rw [hl] at h
        simp only [Nat.sub_self, List.getElem?_cons_zero, Option.some.injEq] at h
        subst h
        refine ⟨by omega, by omega, by rw [Int.toNat_natCast]; exact hk, ?_⟩
        rw [List.getElem?_append_right (by omega), hl, show 2 * cntK l k i + 1 - 2 * cntK l k i = 1 by omega]
        simp
    · rename_i hk
      rw [if_neg hk]
      obtain ⟨a, b, c, d⟩ := mcK_get l k i j v h
      exact ⟨a, by omega, c, d⟩
theorem mcK_has (l : List Int) (k : Int) : ∀ (i v : Nat), v < i → cel l v = k → ∃ j : Nat, (mcK l k i)[2 * j]? = some (v : Int)
  | 0, v, h, _ => by omega
  | i + 1, v, h, hk => by
    simp only [mcK]
    have hl := mcK_len l k i
    by_cases hv : v = i
    · subst hv
      rw [if_pos hk]
      exact ⟨cntK l k v, by rw [List.getElem?_append_right (by omega), hl]; simp⟩
    · obtain ⟨j, hj⟩ := mcK_has l k i v (by omega) hk
      split
      · exact ⟨j, by rw [List.getElem?_append_left (List.getElem?_eq_some_iff.1 hj).1]; exact hj⟩
      · exact ⟨j, hj⟩

-- maps from numbers to numbers in the heap
theorem und75 : Tryz.prog.underlying 75 = some (.map 3 3) := by kernel_rfl
theorem und3 : Tryz.prog.underlying 3 = some (.int .i64) := by kernel_rfl
theorem keys_ints (l : List Int) : KeysAre (.int .i64) (ints l) := by
  intro j k h
  simp only [ints, List.getElem?_map] at h
  obtain ⟨v, _, rfl⟩ := Option.map_eq_some_iff.1 h
  rfl
theorem ints_get {l : List Int} {j : Nat} {v : Int} : (ints l)[j]? = some (.int .i64 v) ↔ l[j]? = some v := by
  simp only [ints, List.getElem?_map]
  constructor
  · intro h
    obtain ⟨u, hu, e⟩ := Option.map_eq_some_iff.1 h
    simp only [Value.int.injEq, true_and] at e
    rw [hu, e]
  · intro h; rw [h]; rfl
theorem mput {h : Heap} {b : Nat} {l : List Int} {k v : Int} (hb : hblk h b = some ⟨ints l, true⟩) (hn : ∀ j : Nat, l[2 * j]? ≠ some k) : MPut Tryz.prog 75 b (.int .i64 k) (.int .i64 v) h (h.set b (some ⟨ints (l ++ [k, v]), true⟩)) :=
  ⟨3, 3, .int .i64, _, und75, und3, hb, rfl, keys_ints l, rfl, fun j hj => hn j (ints_get.1 hj), by rw [ints_append]; rfl⟩
theorem mget {h : Heap} {b : Nat} {l : List Int} {k v : Int} {w : Bool} (hb : hblk h b = some ⟨ints l, w⟩) (h1 : ∃ j : Nat, l[2 * j]? = some k) (h2 : ∀ j : Nat, l[2 * j]? = some k → l[2 * j + 1]? = some v) : MGet Tryz.prog 75 b (.int .i64 k) h (.int .i64 v) :=
  ⟨3, 3, .int .i64, _, und75, und3, hb, keys_ints l, rfl, h1.imp fun j hj => ints_get.2 hj, fun j hj => ints_get.2 (h2 j (ints_get.1 hj))⟩
theorem mlen {h : Heap} {b n : Nat} {l : List Int} {w : Bool} (hb : hblk h b = some ⟨ints l, w⟩) (hn : l.length = 2 * n) : MLen Tryz.prog 75 b h (n : Int) :=
  ⟨3, 3, _, und75, hb, by rw [ints_length, hn]; omega⟩
theorem mput_K {h : Heap} {b i : Nat} {l : List Int} {k : Int} (hb : hblk h b = some ⟨ints (mcK l k i), true⟩) (hk : cel l i = k) : MPut Tryz.prog 75 b (.int .i64 (i : Int)) (.int .i64 (cntK l k i : Int)) h (h.set b (some ⟨ints (mcK l k (i + 1)), true⟩)) := by
  have := mput (v := (cntK l k i : Int)) hb (k := (i : Int)) (fun j hj => by have := (mcK_get l k i j _ hj).2.1; omega)
  simp only [mcK, if_pos hk]
  exact this
theorem mget_K {h : Heap} {b n : Nat} {l : List Int} {k u : Int} {w : Bool} (hb : hblk h b = some ⟨ints (mcK l k n), w⟩) (h0 : 0 ≤ u) (hn : u < n) (hk : cel l u.toNat = k) : MGet Tryz.prog 75 b (.int .i64 u) h (.int .i64 (cntK l k u.toNat : Int)) := by
  refine mget hb ?_ fun j hj => (mcK_get l k n j u hj).2.2.2
  obtain ⟨j, hj⟩ := mcK_has l k n u.toNat (by omega) hk
  exact ⟨j, by rw [hj, Int.toNat_of_nonneg h0]⟩
end Go.Ab

namespace Go.Ab
open Go.Proofs

namespace WB
def nilB : Option Blk := some ⟨[.slice none 0 0], true⟩
def mpD (v : Value) (h : Heap) : Option Bool × Td := (none, .mp fun _ _ => (v, h))
def mpr (i : Nat) : Value := .map (some i)
def Rl (h : Heap) (i : Nat) (v : Int) : Prop := readCells h ⟨3, 0 + i * 1, none⟩ 1 = some [.int .i64 v]
def Rr (h : Heap) (i : Nat) (a b c d : Fc) : Prop := readCells h ⟨0, 0 + i * 20, none⟩ 20 = some (c4 a b c d)
abbrev ML (h : Heap) (c : Nat) : Prop := MLen Tryz.prog 75 4 h (c : Int)
abbrev MP (h : Heap) (i c : Nat) (h' : Heap) : Prop := MPut Tryz.prog 75 4 (.int .i64 (i : Int)) (.int .i64 (c : Int)) h h'
abbrev MG (h : Heap) (u r : Int) : Prop := MGet Tryz.prog 75 4 (.int .i64 u) h (.int .i64 r)
theorem ok0 : codeOk 92 (lb Tryz.f24 0) = true := by kernel_rfl
theorem ok2 : codeOk 92 (lb Tryz.f24 2) = true := by kernel_rfl
theorem ok4 : codeOk 92 (lb Tryz.f24 4) = true := by kernel_rfl

-- the first loop
def hA (x l mc : List Int) (n : Nat) : Heap := [some ⟨ints x, false⟩, some ⟨[gS 0 n], true⟩, nilB, some ⟨ints l, true⟩, some ⟨ints mc, true⟩]
theorem hA_closed (x l mc : List Int) (n : Nat) : closedH 5 (hA x l mc n) :=
  closedH_cons (subL_plain _ _ (ints_plain _)) (closedH_cons (belowL_sub _ rfl) (closedH_cons (belowL_sub _ rfl) (closedH_cons (subL_plain _ _ (ints_plain _)) (closedH_cons (subL_plain _ _ (ints_plain _)) closedH_nil))))
def eA (k : Int) (n : Nat) (i : Int) : List (Nat × Value) := [(1, it k), (2, pt 1), (4, pt 2), (7, oS 3 n), (9, mpr 4), (38, oS 3 n), (39, it n), (40, it i)]
def eA' (k : Int) (n : Nat) : List (Nat × Value) := [(1, it k), (2, pt 1), (4, pt 2), (7, oS 3 n), (9, mpr 4)]
def tA : List Nat := [1, 2, 4, 7, 9, 38, 39, 40]
abbrev CA (x l mc : List Int) (n i : Nat) (k : Int) (ax : AX) (e : List (Nat × Value)) (mc' : List Int) : Prop := Comes none ([], true) Tryz.prog 92 1 (lb Tryz.f24 0) (eA k n i) (hA x l mc n) ax e (hA x l mc' n)
theorem aTake {x l mc mc' : List Int} {n i c : Nat} {k v : Int} (g0 : ilt (i : Int) n = true) (g1 : InN i n) (g2 : Rl (hA x l mc n) i v) (g3 : (v == k) = true) (g4 : ML (hA x l mc n) c) (g5 : MP (hA x l mc n) i c (hA x l mc' n)) : CA x l mc n i k .normal (eA k n (IntKind.i64.wrap ((i : Int) + 1))) mc' :=
  comes_run (S := { dir := dd [((10, 1), ixD), ((10, 2), ldC [.int .i64 v]), ((12, 3), mpD (.int .i64 (c : Int)) []), ((12, 4), mpD undef (hA x l mc' n))], know := kk [(41, true), (47, true)], loop := noloop }) (k := 60) (ts := tA) (junk := []) (h1 := hA x l mc' n) (l0 := eA k n (IntKind.i64.wrap ((i : Int) + 1)))
    (A := (ilt (i : Int) n = true) ∧ InN i n ∧ Rl (hA x l mc n) i v ∧ ((v == k) = true) ∧ ML (hA x l mc n) c ∧ MP (hA x l mc n) i c (hA x l mc' n) ∧ Dn .normal (eA k n (IntKind.i64.wrap ((i : Int) + 1))) (hA x l mc' n))
    TY_ok mixed ok0 (Nat.le_of_ble_eq_true rfl) (hA_closed _ _ _ _) rfl ⟨g0, g1, g2, g3, g4, g5, dn _ _ _⟩ (by kernel_rfl)
theorem aSkip {x l mc : List Int} {n i : Nat} {k v : Int} (g0 : ilt (i : Int) n = true) (g1 : InN i n) (g2 : Rl (hA x l mc n) i v) (g3 : (v == k) = false) : CA x l mc n i k .normal (eA k n (IntKind.i64.wrap ((i : Int) + 1))) mc :=
  comes_run (S := { dir := dd [((10, 1), ixD), ((10, 2), ldC [.int .i64 v])], know := kk [(41, true), (47, false)], loop := noloop }) (k := 60) (ts := tA) (junk := []) (h1 := hA x l mc n) (l0 := eA k n (IntKind.i64.wrap ((i : Int) + 1)))
    (A := (ilt (i : Int) n = true) ∧ InN i n ∧ Rl (hA x l mc n) i v ∧ ((v == k) = false) ∧ Dn .normal (eA k n (IntKind.i64.wrap ((i : Int) + 1))) (hA x l mc n))
    TY_ok mixed ok0 (Nat.le_of_ble_eq_true rfl) (hA_closed _ _ _ _) rfl ⟨g0, g1, g2, g3, dn _ _ _⟩ (by kernel_rfl)
theorem aEnd {x l mc : List Int} {n i : Nat} {k : Int} (g0 : ilt (i : Int) n = false) : CA x l mc n i k (.exit 0) (eA' k n) mc :=
  comes_run (S := { dir := dd [], know := kk [(41, false)], loop := noloop }) (k := 60) (ts := [1, 2, 4, 7, 9]) (junk := []) (h1 := hA x l mc n) (l0 := eA' k n) (A := (ilt (i : Int) n = false) ∧ Dn (.exit 0) (eA' k n) (hA x l mc n))
    TY_ok mixed ok0 (Nat.le_of_ble_eq_true rfl) (hA_closed _ _ _ _) rfl ⟨g0, dn _ _ _⟩ (by kernel_rfl)
abbrev LA (x l : List Int) (n : Nat) (k : Int) : Prop := (obs Tryz.prog TY none ([], true) 92).loop 1 (fb Tryz.f24 0) (eA k n 0) (hA x l [] n) .normal (eA' k n) (hA x l (mcK l k n) n)
theorem loopA {x l : List Int} {n : Nat} {k : Int} (hn : n ≤ 1000) (hl : l.length = n) : LA x l n k := by
  have hfb : fb Tryz.f24 0 = .block 0 (.loop (lb Tryz.f24 0)) := by kernel_rfl
  refine comes_loop hfb rfl (fun i : Nat => eA k n i) (fun i => hA x l (mcK l k i) n) (fun i => i ≤ n) (fun i => n - i) 0 (by omega) rfl rfl ?_
  intro i hi
  by_cases h4 : i < n
  · have rl : Rl (hA x l (mcK l k i) n) i (cel l i) := rd_int (w := true) rfl (by omega)
    have hlt : ilt (i : Int) n = true := by rw [ilt_eq]; simp; omega
    refine .inl ⟨i + 1, by omega, by omega, ?_⟩
    by_cases hk : cel l i = k
    · have h := aTake hlt ⟨by omega, by omega⟩ rl (by simpa using hk) (c := cntK l k i) (mlen rfl (mcK_len l k i)) (mput_K rfl hk)
      rwa [wrap_succ (by omega)] at h
    · have h := aSkip hlt ⟨by omega, by omega⟩ rl (by simpa using hk)
      rw [wrap_succ (by omega)] at h
      simp only [mcK, if_neg hk]
      exact h
  · have : i = n := by omega
    subst this
    exact .inr (.inl ⟨rfl, aEnd (by rw [ilt_eq]; simp)⟩)

-- the faces of a tetrahedron
def B0 (x l mc : List Int) (n : Nat) : Heap := [some ⟨ints x, false⟩, some ⟨[gS 0 n], true⟩, nilB, some ⟨ints l, true⟩, some ⟨ints mc, true⟩, nilB]
def B1 (x l mc y : List Int) (n j : Nat) : Heap := [some ⟨ints x, false⟩, some ⟨[gS 0 n], true⟩, nilB, some ⟨ints l, true⟩, some ⟨ints mc, true⟩, some ⟨[gS 6 j], true⟩, some ⟨ints y, true⟩]
def rB (a b c d : Fc) : Option Blk := some ⟨c4 a b c d, true⟩
def up (r : Int) (a : Fc) : Fc := if ile 0 a.u = true then ⟨r, a.p⟩ else a
def eB (k : Int) (n : Nat) (i : Int) : List (Nat × Value) := [(1, it k), (2, pt 1), (4, pt 2), (9, mpr 4), (12, pt 5), (53, oS 3 n), (54, it n), (55, it i)]
def tB : List Nat := [1, 2, 4, 9, 12, 53, 54, 55]
def eC (k : Int) (n i b : Nat) (a0 a1 a2 a3 : Fc) (f : Int) : List (Nat × Value) := [(1, it k), (2, pt 1), (4, pt 2), (9, mpr 4), (12, pt 5), (53, oS 3 n), (54, it n), (55, it i), (15, pt b), (68, tv a0 a1 a2 a3), (69, it f)]
def eD (k : Int) (n i b : Nat) : List (Nat × Value) := [(1, it k), (2, pt 1), (4, pt 2), (9, mpr 4), (12, pt 5), (53, oS 3 n), (54, it n), (55, it i), (15, pt b)]
def tC : List Nat := [1, 2, 4, 9, 12, 53, 54, 55, 15, 68, 69]
def tD : List Nat := [1, 2, 4, 9, 12, 53, 54, 55, 15]
theorem B0_closed (x l mc : List Int) (n : Nat) (a b c d : Fc) : closedH 7 (B0 x l mc n ++ [rB a b c d]) :=
  closedH_cons (subL_plain _ _ (ints_plain _)) (closedH_cons (belowL_sub _ rfl) (closedH_cons (belowL_sub _ rfl) (closedH_cons (subL_plain _ _ (ints_plain _)) (closedH_cons (subL_plain _ _ (ints_plain _)) (closedH_cons (belowL_sub _ rfl) (closedH_cons (subL_plain _ _ rfl) closedH_nil))))))
theorem B1_closed (x l mc y : List Int) (n j : Nat) (a b c d : Fc) : closedH 8 (B1 x l mc y n j ++ [rB a b c d]) :=
  closedH_cons (subL_plain _ _ (ints_plain _)) (closedH_cons (belowL_sub _ rfl) (closedH_cons (belowL_sub _ rfl) (closedH_cons (subL_plain _ _ (ints_plain _)) (closedH_cons (subL_plain _ _ (ints_plain _)) (closedH_cons (belowL_sub _ rfl) (closedH_cons (subL_plain _ _ (ints_plain _)) (closedH_cons (subL_plain _ _ rfl) closedH_nil)))))))
theorem B0_cl (x l mc : List Int) (n : Nat) : closedH 6 (B0 x l mc n) :=
  closedH_cons (subL_plain _ _ (ints_plain _)) (closedH_cons (belowL_sub _ rfl) (closedH_cons (belowL_sub _ rfl) (closedH_cons (subL_plain _ _ (ints_plain _)) (closedH_cons (subL_plain _ _ (ints_plain _)) (closedH_cons (belowL_sub _ rfl) closedH_nil)))))
theorem B1_cl (x l mc y : List Int) (n j : Nat) : closedH 7 (B1 x l mc y n j) :=
  closedH_cons (subL_plain _ _ (ints_plain _)) (closedH_cons (belowL_sub _ rfl) (closedH_cons (belowL_sub _ rfl) (closedH_cons (subL_plain _ _ (ints_plain _)) (closedH_cons (subL_plain _ _ (ints_plain _)) (closedH_cons (belowL_sub _ rfl) (closedH_cons (subL_plain _ _ (ints_plain _)) closedH_nil))))))
theorem c00p {x l mc : List Int} {n i : Nat} {k : Int} {r : Int} {a b c d : Fc} (h : ile 0 a.u = true) (g : MG (B0 x l mc n ++ [rB a b c d, zB a]) a.u r) : Comes none ([], true) Tryz.prog 92 1 (lb Tryz.f24 4) (eC k n i 6 a b c d 0) (B0 x l mc n ++ [rB a b c d]) .normal (eC k n i 6 a b c d 1) (B0 x l mc n ++ [rB ⟨r, a.p⟩ b c d]) :=
  comes_run (S := { dir := dd [((24, 4), mpD (.int .i64 r) [])], know := kk [(75, true)], loop := noloop }) (k := 60) (ts := tC) (junk := [zB a]) (h1 := (B0 x l mc n ++ [rB ⟨r, a.p⟩ b c d])) (l0 := (eC k n i 6 a b c d 1)) (A := (ile 0 a.u = true) ∧ MG (B0 x l mc n ++ [rB a b c d, zB a]) a.u r ∧ Dn .normal (eC k n i 6 a b c d 1) ((B0 x l mc n ++ [rB ⟨r, a.p⟩ b c d]) ++ [zB a])) TY_ok mixed ok4 (Nat.le_of_ble_eq_true rfl) (B0_closed x l mc n ⟨r, a.p⟩ b c d) rfl ⟨h, g, dn _ _ _⟩ (by kernel_rfl)
theorem c00n {x l mc : List Int} {n i : Nat} {k : Int} {a b c d : Fc} (h : ile 0 a.u = false) : Comes none ([], true) Tryz.prog 92 1 (lb Tryz.f24 4) (eC k n i 6 a b c d 0) (B0 x l mc n ++ [rB a b c d]) .normal (eC k n i 6 a b c d 1) (B0 x l mc n ++ [rB a b c d]) :=
  comes_run (S := { dir := dd [], know := kk [(75, false)], loop := noloop }) (k := 60) (ts := tC) (junk := [zB a]) (h1 := (B0 x l mc n ++ [rB a b c d])) (l0 := (eC k n i 6 a b c d 1)) (A := (ile 0 a.u = false) ∧ Dn .normal (eC k n i 6 a b c d 1) ((B0 x l mc n ++ [rB a b c d]) ++ [zB a])) TY_ok mixed ok4 (Nat.le_of_ble_eq_true rfl) (B0_closed x l mc n a b c d) rfl ⟨h, dn _ _ _⟩ (by kernel_rfl)
theorem c00 {x l mc : List Int} {n i : Nat} {k : Int} {r : Int} {a b c d : Fc} (g : ile 0 a.u = true → ∀ X : Heap, MG (B0 x l mc n ++ X) a.u r) : Comes none ([], true) Tryz.prog 92 1 (lb Tryz.f24 4) (eC k n i 6 a b c d 0) (B0 x l mc n ++ [rB a b c d]) .normal (eC k n i 6 a b c d 1) (B0 x l mc n ++ [rB (up r a) b c d]) := by
  unfold up
  cases h : ile 0 a.u with
  | true => simpa using c00p (i := i) (k := k) h (g h _)
  | false => simpa using c00n (i := i) (k := k) h
theorem c01p {x l mc : List Int} {n i : Nat} {k : Int} {r : Int} {a b c d a' : Fc} (h : ile 0 b.u = true) (g : MG (B0 x l mc n ++ [rB a' b c d, zB b]) b.u r) : Comes none ([], true) Tryz.prog 92 1 (lb Tryz.f24 4) (eC k n i 6 a b c d 1) (B0 x l mc n ++ [rB a' b c d]) .normal (eC k n i 6 a b c d 2) (B0 x l mc n ++ [rB a' ⟨r, b.p⟩ c d]) :=
  comes_run (S := { dir := dd [((24, 4), mpD (.int .i64 r) [])], know := kk [(75, true)], loop := noloop }) (k := 60) (ts := tC) (junk := [zB b]) (h1 := (B0 x l mc n ++ [rB a' ⟨r, b.p⟩ c d])) (l0 := (eC k n i 6 a b c d 2)) (A := (ile 0 b.u = true) ∧ MG (B0 x l mc n ++ [rB a' b c d, zB b]) b.u r ∧ Dn .normal (eC k n i 6 a b c d 2) ((B0 x l mc n ++ [rB a' ⟨r, b.p⟩ c d]) ++ [zB b])) TY_ok mixed ok4 (Nat.le_of_ble_eq_true rfl) (B0_closed x l mc n a' ⟨r, b.p⟩ c d) rfl ⟨h, g, dn _ _ _⟩ (by kernel_rfl)
theorem c01n {x l mc : List Int} {n i : Nat} {k : Int} {a b c d a' : Fc} (h : ile 0 b.u = false) : Comes none ([], true) Tryz.prog 92 1 (lb Tryz.f24 4) (eC k n i 6 a b c d 1) (B0 x l mc n ++ [rB a' b c d]) .normal (eC k n i 6 a b c d 2) (B0 x l mc n ++ [rB a' b c d]) :=
  comes_run (S := { dir := dd [], know := kk [(75, false)], loop := noloop }) (k := 60) (ts := tC) (junk := [zB b]) (h1 := (B0 x l mc n ++ [rB a' b c d])) (l0 := (eC k n i 6 a b c d 2)) (A := (ile 0 b.u = false) ∧ Dn .normal (eC k n i 6 a b c d 2) ((B0 x l mc n ++ [rB a' b c d]) ++ [zB b])) TY_ok mixed ok4 (Nat.le_of_ble_eq_true rfl) (B0_closed x l mc n a' b c d) rfl ⟨h, dn _ _ _⟩ (by kernel_rfl)
theorem c01 {x l mc : List Int} {n i : Nat} {k : Int} {r : Int} {a b c d a' : Fc} (g : ile 0 b.u = true → ∀ X : Heap, MG (B0 x l mc n ++ X) b.u r) : Comes none ([], true) Tryz.prog 92 1 (lb Tryz.f24 4) (eC k n i 6 a b c d 1) (B0 x l mc n ++ [rB a' b c d]) .normal (eC k n i 6 a b c d 2) (B0 x l mc n ++ [rB a' (up r b) c d]) := by
  unfold up
  cases h : ile 0 b.u with
  | true => simpa using c01p (i := i) (k := k) h (g h _)
  | false => simpa using c01n (i := i) (k := k) h
theorem c02p {x l mc : List Int} {n i : Nat} {k : Int} {r : Int} {a b c d a' b' : Fc} (h : ile 0 c.u = true) (g : MG (B0 x l mc n ++ [rB a' b' c d, zB c]) c.u r) : Comes none ([], true) Tryz.prog 92 1 (lb Tryz.f24 4) (eC k n i 6 a b c d 2) (B0 x l mc n ++ [rB a' b' c d]) .normal (eC k n i 6 a b c d 3) (B0 x l mc n ++ [rB a' b' ⟨r, c.p⟩ d]) :=
  comes_run (S := { dir := dd [((24, 4), mpD (.int .i64 r) [])], know := kk [(75, true)], loop := noloop }) (k := 60) (ts := tC) (junk := [zB c]) (h1 := (B0 x l mc n ++ [rB a' b' ⟨r, c.p⟩ d])) (l0 := (eC k n i 6 a b c d 3)) (A := (ile 0 c.u = true) ∧ MG (B0 x l mc n ++ [rB a' b' c d, zB c]) c.u r ∧ Dn .normal (eC k n i 6 a b c d 3) ((B0 x l mc n ++ [rB a' b' ⟨r, c.p⟩ d]) ++ [zB c])) TY_ok mixed ok4 (Nat.le_of_ble_eq_true rfl) (B0_closed x l mc n a' b' ⟨r, c.p⟩ d) rfl ⟨h, g, dn _ _ _⟩ (by kernel_rfl)
theorem c02n {x l mc : List Int} {n i : Nat} {k : Int} {a b c d a' b' : Fc} (h : ile 0 c.u = false) : Comes none ([], true) Tryz.prog 92 1 (lb Tryz.f24 4) (eC k n i 6 a b c d 2) (B0 x l mc n ++ [rB a' b' c d]) .normal (eC k n i 6 a b c d 3) (B0 x l mc n ++ [rB a' b' c d]) :=
  comes_run (S := { dir := dd [], know := kk [(75, false)], loop := noloop }) (k := 60) (ts := tC) (junk := [zB c]) (h1 := (B0 x l mc n ++ [rB a' b' c d])) (l0 := (eC k n i 6 a b c d 3)) (A := (ile 0 c.u = false) ∧ Dn .normal (eC k n i 6 a b c d 3) ((B0 x l mc n ++ [rB a' b' c d]) ++ [zB c])) TY_ok mixed ok4 (Nat.le_of_ble_eq_true rfl) (B0_closed x l mc n a' b' c d) rfl ⟨h, dn _ _ _⟩ (by kernel_rfl)
theorem c02 {x l mc : List Int} {n i : Nat} {k : Int} {r : Int} {a b c d a' b' : Fc} (g : ile 0 c.u = true → ∀ X : Heap, MG (B0 x l mc n ++ X) c.u r) : Comes none ([], true) Tryz.prog 92 1 (lb Tryz.f24 4) (eC k n i 6 a b c d 2) (B0 x l mc n ++ [rB a' b' c d]) .normal (eC k n i 6 a b c d 3) (B0 x l mc n ++ [rB a' b' (up r c) d]) := by
  unfold up
  cases h : ile 0 c.u with
  | true => simpa using c02p (i := i) (k := k) h (g h _)
  | false => simpa using c02n (i := i) (k := k) h
theorem c03p {x l mc : List Int} {n i : Nat} {k : Int} {r : Int} {a b c d a' b' c' : Fc} (h : ile 0 d.u = true) (g : MG (B0 x l mc n ++ [rB a' b' c' d, zB d]) d.u r) : Comes none ([], true) Tryz.prog 92 1 (lb Tryz.f24 4) (eC k n i 6 a b c d 3) (B0 x l mc n ++ [rB a' b' c' d]) .normal (eC k n i 6 a b c d 4) (B0 x l mc n ++ [rB a' b' c' ⟨r, d.p⟩]) :=
  comes_run (S := { dir := dd [((24, 4), mpD (.int .i64 r) [])], know := kk [(75, true)], loop := noloop }) (k := 60) (ts := tC) (junk := [zB d]) (h1 := (B0 x l mc n ++ [rB a' b' c' ⟨r, d.p⟩])) (l0 := (eC k n i 6 a b c d 4)) (A := (ile 0 d.u = true) ∧ MG (B0 x l mc n ++ [rB a' b' c' d, zB d]) d.u r ∧ Dn .normal (eC k n i 6 a b c d 4) ((B0 x l mc n ++ [rB a' b' c' ⟨r, d.p⟩]) ++ [zB d])) TY_ok mixed ok4 (Nat.le_of_ble_eq_true rfl) (B0_closed x l mc n a' b' c' ⟨r, d.p⟩) rfl ⟨h, g, dn _ _ _⟩ (by kernel_rfl)
theorem c03n {x l mc : List Int} {n i : Nat} {k : Int} {a b c d a' b' c' : Fc} (h : ile 0 d.u = false) : Comes none ([], true) Tryz.prog 92 1 (lb Tryz.f24 4) (eC k n i 6 a b c d 3) (B0 x l mc n ++ [rB a' b' c' d]) .normal (eC k n i 6 a b c d 4) (B0 x l mc n ++ [rB a' b' c' d]) :=
  comes_run (S := { dir := dd [], know := kk [(75, false)], loop := noloop }) (k := 60) (ts := tC) (junk := [zB d]) (h1 := (B0 x l mc n ++ [rB a' b' c' d])) (l0 := (eC k n i 6 a b c d 4)) (A := (ile 0 d.u = false) ∧ Dn .normal (eC k n i 6 a b c d 4) ((B0 x l mc n ++ [rB a' b' c' d]) ++ [zB d])) TY_ok mixed ok4 (Nat.le_of_ble_eq_true rfl) (B0_closed x l mc n a' b' c' d) rfl ⟨h, dn _ _ _⟩ (by kernel_rfl)
theorem c03 {x l mc : List Int} {n i : Nat} {k : Int} {r : Int} {a b c d a' b' c' : Fc} (g : ile 0 d.u = true → ∀ X : Heap, MG (B0 x l mc n ++ X) d.u r) : Comes none ([], true) Tryz.prog 92 1 (lb Tryz.f24 4) (eC k n i 6 a b c d 3) (B0 x l mc n ++ [rB a' b' c' d]) .normal (eC k n i 6 a b c d 4) (B0 x l mc n ++ [rB a' b' c' (up r d)]) := by
  unfold up
  cases h : ile 0 d.u with
  | true => simpa using c03p (i := i) (k := k) h (g h _)
  | false => simpa using c03n (i := i) (k := k) h
theorem c04 {x l mc : List Int} {n i : Nat} {k : Int} {a b c d a' b' c' d' : Fc} : Comes none ([], true) Tryz.prog 92 1 (lb Tryz.f24 4) (eC k n i 6 a b c d 4) (B0 x l mc n ++ [rB a' b' c' d']) (.exit 4) (eD k n i 6) (B0 x l mc n ++ [rB a' b' c' d']) :=
  comes_run (S := { dir := dd [], know := kk [], loop := noloop }) (k := 60) (ts := tD) (junk := []) (h1 := (B0 x l mc n ++ [rB a' b' c' d'])) (l0 := eD k n i 6) (A := Dn (.exit 4) (eD k n i 6) (B0 x l mc n ++ [rB a' b' c' d'])) TY_ok mixed ok4 (Nat.le_of_ble_eq_true rfl) (B0_closed x l mc n a' b' c' d') rfl (dn _ _ _) (by kernel_rfl)
def hC0 (x l mc : List Int) (n : Nat) (a b c d : Fc) (r0 r1 r2 r3 : Int) : Nat → Heap
  | 0 => (B0 x l mc n ++ [rB a b c d])
  | 1 => (B0 x l mc n ++ [rB (up r0 a) b c d])
  | 2 => (B0 x l mc n ++ [rB (up r0 a) (up r1 b) c d])
  | 3 => (B0 x l mc n ++ [rB (up r0 a) (up r1 b) (up r2 c) d])
  | _ => (B0 x l mc n ++ [rB (up r0 a) (up r1 b) (up r2 c) (up r3 d)])
abbrev LC0 (x l mc : List Int) (n i : Nat) (k : Int) (a b c d a' b' c' d' : Fc) : Prop := (obs Tryz.prog TY none ([], true) 92).loop 1 (fb Tryz.f24 4) (eC k n i 6 a b c d 0) (B0 x l mc n ++ [rB a b c d]) .normal (eD k n i 6) (B0 x l mc n ++ [rB a' b' c' d'])
theorem loopC0 {x l mc : List Int} {n i : Nat} {k : Int} {a b c d : Fc} {r0 r1 r2 r3 : Int} (g0 : ile 0 a.u = true → ∀ X : Heap, MG (B0 x l mc n ++ X) a.u r0) (g1 : ile 0 b.u = true → ∀ X : Heap, MG (B0 x l mc n ++ X) b.u r1) (g2 : ile 0 c.u = true → ∀ X : Heap, MG (B0 x l mc n ++ X) c.u r2) (g3 : ile 0 d.u = true → ∀ X : Heap, MG (B0 x l mc n ++ X) d.u r3) :
    LC0 x l mc n i k a b c d (up r0 a) (up r1 b) (up r2 c) (up r3 d) := by
  have hfb : fb Tryz.f24 4 = .block 4 (.loop (lb Tryz.f24 4)) := by kernel_rfl
  refine comes_loop hfb rfl (fun f : Nat => (eC k n i 6 a b c d f)) (hC0 x l mc n a b c d r0 r1 r2 r3) (fun f => f ≤ 4) (fun f => 4 - f) 0 (by omega) rfl rfl ?_
  intro f hf
  have : f = 0 ∨ f = 1 ∨ f = 2 ∨ f = 3 ∨ f = 4 := by omega
  rcases this with rfl | rfl | rfl | rfl | rfl
  · exact .inl ⟨1, by omega, by omega, c00 g0⟩
  · exact .inl ⟨2, by omega, by omega, c01 g1⟩
  · exact .inl ⟨3, by omega, by omega, c02 g2⟩
  · exact .inl ⟨4, by omega, by omega, c03 g3⟩
  · exact .inr (.inl ⟨rfl, c04⟩)
theorem c10p {x l mc y : List Int} {n j i : Nat} {k : Int} {r : Int} {a b c d : Fc} (h : ile 0 a.u = true) (g : MG (B1 x l mc y n j ++ [rB a b c d, zB a]) a.u r) : Comes none ([], true) Tryz.prog 92 1 (lb Tryz.f24 4) (eC k n i 7 a b c d 0) (B1 x l mc y n j ++ [rB a b c d]) .normal (eC k n i 7 a b c d 1) (B1 x l mc y n j ++ [rB ⟨r, a.p⟩ b c d]) :=
  comes_run (S := { dir := dd [((24, 4), mpD (.int .i64 r) [])], know := kk [(75, true)], loop := noloop }) (k := 60) (ts := tC) (junk := [zB a]) (h1 := (B1 x l mc y n j ++ [rB ⟨r, a.p⟩ b c d])) (l0 := (eC k n i 7 a b c d 1)) (A := (ile 0 a.u = true) ∧ MG (B1 x l mc y n j ++ [rB a b c d, zB a]) a.u r ∧ Dn .normal (eC k n i 7 a b c d 1) ((B1 x l mc y n j ++ [rB ⟨r, a.p⟩ b c d]) ++ [zB a])) TY_ok mixed ok4 (Nat.le_of_ble_eq_true rfl) (B1_closed x l mc y n j ⟨r, a.p⟩ b c d) rfl ⟨h, g, dn _ _ _⟩ (by kernel_rfl)
theorem c10n {x l mc y : List Int} {n j i : Nat} {k : Int} {a b c d : Fc} (h : ile 0 a.u = false) : Comes none ([], true) Tryz.prog 92 1 (lb Tryz.f24 4) (eC k n i 7 a b c d 0) (B1 x l mc y n j ++ [rB a b c d]) .normal (eC k n i 7 a b c d 1) (B1 x l mc y n j ++ [rB a b c d]) :=
  comes_run (S := { dir := dd [], know := kk [(75, false)], loop := noloop }) (k := 60) (ts := tC) (junk := [zB a]) (h1 := (B1 x l mc y n j ++ [rB a b c d])) (l0 := (eC k n i 7 a b c d 1)) (A := (ile 0 a.u = false) ∧ Dn .normal (eC k n i 7 a b c d 1) ((B1 x l mc y n j ++ [rB a b c d]) ++ [zB a])) TY_ok mixed ok4 (Nat.le_of_ble_eq_true rfl) (B1_closed x l mc y n j a b c d) rfl ⟨h, dn _ _ _⟩ (by kernel_rfl)
theorem c10 {x l mc y : List Int} {n j i : Nat} {k : Int} {r : Int} {a b c d : Fc} (g : ile 0 a.u = true → ∀ X : Heap, MG (B1 x l mc y n j ++ X) a.u r) : Comes none ([], true) Tryz.prog 92 1 (lb Tryz.f24 4) (eC k n i 7 a b c d 0) (B1 x l mc y n j ++ [rB a b c d]) .normal (eC k n i 7 a b c d 1) (B1 x l mc y n j ++ [rB (up r a) b c d]) := by
  unfold up
  cases h : ile 0 a.u with
  | true => simpa using c10p (i := i) (k := k) h (g h _)
  | false => simpa using c10n (i := i) (k := k) h
theorem c11p {x l mc y : List Int} {n j i : Nat} {k : Int} {r : Int} {a b c d a' : Fc} (h : ile 0 b.u = true) (g : MG (B1 x l mc y n j ++ [rB a' b c d, zB b]) b.u r) : Comes none ([], true) Tryz.prog 92 1 (lb Tryz.f24 4) (eC k n i 7 a b c d 1) (B1 x l mc y n j ++ [rB a' b c d]) .normal (eC k n i 7 a b c d 2) (B1 x l mc y n j ++ [rB a' ⟨r, b.p⟩ c d]) :=
  comes_run (S := { dir := dd [((24, 4), mpD (.int .i64 r) [])], know := kk [(75, true)], loop := noloop }) (k := 60) (ts := tC) (junk := [zB b]) (h1 := (B1 x l mc y n j ++ [rB a' ⟨r, b.p⟩ c d])) (l0 := (eC k n i 7 a b c d 2)) (A := (ile 0 b.u = true) ∧ MG (B1 x l mc y n j ++ [rB a' b c d, zB b]) b.u r ∧ Dn .normal (eC k n i 7 a b c d 2) ((B1 x l mc y n j ++ [rB a' ⟨r, b.p⟩ c d]) ++ [zB b])) TY_ok mixed ok4 (Nat.le_of_ble_eq_true rfl) (B1_closed x l mc y n j a' ⟨r, b.p⟩ c d) rfl ⟨h, g, dn _ _ _⟩ (by kernel_rfl)
theorem c11n {x l mc y : List Int} {n j i : Nat} {k : Int} {a b c d a' : Fc} (h : ile 0 b.u = false) : Comes none ([], true) Tryz.prog 92 1 (lb Tryz.f24 4) (eC k n i 7 a b c d 1) (B1 x l mc y n j ++ [rB a' b c d]) .normal (eC k n i 7 a b c d 2) (B1 x l mc y n j ++ [rB a' b c d]) :=
  comes_run (S := { dir := dd [], know := kk [(75, false)], loop := noloop }) (k := 60) (ts := tC) (junk := [zB b]) (h1 := (B1 x l mc y n j ++ [rB a' b c d])) (l0 := (eC k n i 7 a b c d 2)) (A := (ile 0 b.u = false) ∧ Dn .normal (eC k n i 7 a b c d 2) ((B1 x l mc y n j ++ [rB a' b c d]) ++ [zB b])) TY_ok mixed ok4 (Nat.le_of_ble_eq_true rfl) (B1_closed x l mc y n j a' b c d) rfl ⟨h, dn _ _ _⟩ (by kernel_rfl)
theorem c11 {x l mc y : List Int} {n j i : Nat} {k : Int} {r : Int} {a b c d a' : Fc} (g : ile 0 b.u = true → ∀ X : Heap, MG (B1 x l mc y n j ++ X) b.u r) : Comes none ([], true) Tryz.prog 92 1 (lb Tryz.f24 4) (eC k n i 7 a b c d 1) (B1 x l mc y n j ++ [rB a' b c d]) .normal (eC k n i 7 a b c d 2) (B1 x l mc y n j ++ [rB a' (up r b) c d]) := by
  unfold up
  cases h : ile 0 b.u with
  | true => simpa using c11p (i := i) (k := k) h (g h _)
  | false => simpa using c11n (i := i) (k := k) h
theorem c12p {x l mc y : List Int} {n j i : Nat} {k : Int} {r : Int} {a b c d a' b' : Fc} (h : ile 0 c.u = true) (g : MG (B1 x l mc y n j ++ [rB a' b' c d, zB c]) c.u r) : Comes none ([], true) Tryz.prog 92 1 (lb Tryz.f24 4) (eC k n i 7 a b c d 2) (B1 x l mc y n j ++ [rB a' b' c d]) .normal (eC k n i 7 a b c d 3) (B1 x l mc y n j ++ [rB a' b' ⟨r, c.p⟩ d]) :=
  comes_run (S := { dir := dd [((24, 4), mpD (.int .i64 r) [])], know := kk [(75, true)], loop := noloop }) (k := 60) (ts := tC) (junk := [zB c]) (h1 := (B1 x l mc y n j ++ [rB a' b' ⟨r, c.p⟩ d])) (l0 := (eC k n i 7 a b c d 3)) (A := (ile 0 c.u = true) ∧ MG (B1 x l mc y n j ++ [rB a' b' c d, zB c]) c.u r ∧ Dn .normal (eC k n i 7 a b c d 3) ((B1 x l mc y n j ++ [rB a' b' ⟨r, c.p⟩ d]) ++ [zB c])) TY_ok mixed ok4 (Nat.le_of_ble_eq_true rfl) (B1_closed x l mc y n j a' b' ⟨r, c.p⟩ d) rfl ⟨h, g, dn _ _ _⟩ (by kernel_rfl)
theorem c12n {x l mc y : List Int} {n j i : Nat} {k : Int} {a b c d a' b' : Fc} (h : ile 0 c.u = false) : Comes none ([], true) Tryz.prog 92 1 (lb Tryz.f24 4) (eC k n i 7 a b c d 2) (B1 x l mc y n j ++ [rB a' b' c d]) .normal (eC k n i 7 a b c d 3) (B1 x l mc y n j ++ [rB a' b' c d]) :=
  comes_run (S := { dir := dd [], know := kk [(75, false)], loop := noloop }) (k := 60) (ts := tC) (junk := [zB c]) (h1 := (B1 x l mc y n j ++ [rB a' b' c d])) (l0 := (eC k n i 7 a b c d 3)) (A := (ile 0 c.u = false) ∧ Dn .normal (eC k n i 7 a b c d 3) ((B1 x l mc y n j ++ [rB a' b' c d]) ++ [zB c])) TY_ok mixed ok4 (Nat.le_of_ble_eq_true rfl) (B1_closed x l mc y n j a' b' c d) rfl ⟨h, dn _ _ _⟩ (by kernel_rfl)
theorem c12 {x l mc y : List Int} {n j i : Nat} {k : Int} {r : Int} {a b c d a' b' : Fc} (g : ile 0 c.u = true → ∀ X : Heap, MG (B1 x l mc y n j ++ X) c.u r) : Comes none ([], true) Tryz.prog 92 1 (lb Tryz.f24 4) (eC k n i 7 a b c d 2) (B1 x l mc y n j ++ [rB a' b' c d]) .normal (eC k n i 7 a b c d 3) (B1 x l mc y n j ++ [rB a' b' (up r c) d]) := by
  unfold up
  cases h : ile 0 c.u with
  | true => simpa using c12p (i := i) (k := k) h (g h _)
  | false => simpa using c12n (i := i) (k := k) h
theorem c13p {x l mc y : List Int} {n j i : Nat} {k : Int} {r : Int} {a b c d a' b' c' : Fc} (h : ile 0 d.u = true) (g : MG (B1 x l mc y n j ++ [rB a' b' c' d, zB d]) d.u r) : Comes none ([], true) Tryz.prog 92 1 (lb Tryz.f24 4) (eC k n i 7 a b c d 3) (B1 x l mc y n j ++ [rB a' b' c' d]) .normal (eC k n i 7 a b c d 4) (B1 x l mc y n j ++ [rB a' b' c' ⟨r, d.p⟩]) :=
  comes_run (S := { dir := dd [((24, 4), mpD (.int .i64 r) [])], know := kk [(75, true)], loop := noloop }) (k := 60) (ts := tC) (junk := [zB d]) (h1 := (B1 x l mc y n j ++ [rB a' b' c' ⟨r, d.p⟩])) (l0 := (eC k n i 7 a b c d 4)) (A := (ile 0 d.u = true) ∧ MG (B1 x l mc y n j ++ [rB a' b' c' d, zB d]) d.u r ∧ Dn .normal (eC k n i 7 a b c d 4) ((B1 x l mc y n j ++ [rB a' b' c' ⟨r, d.p⟩]) ++ [zB d])) TY_ok mixed ok4 (Nat.le_of_ble_eq_true rfl) (B1_closed x l mc y n j a' b' c' ⟨r, d.p⟩) rfl ⟨h, g, dn _ _ _⟩ (by kernel_rfl)
theorem c13n {x l mc y : List Int} {n j i : Nat} {k : Int} {a b c d a' b' c' : Fc} (h : ile 0 d.u = false) : Comes none ([], true) Tryz.prog 92 1 (lb Tryz.f24 4) (eC k n i 7 a b c d 3) (B1 x l mc y n j ++ [rB a' b' c' d]) .normal (eC k n i 7 a b c d 4) (B1 x l mc y n j ++ [rB a' b' c' d]) :=
  comes_run (S := { dir := dd [], know := kk [(75, false)], loop := noloop }) (k := 60) (ts := tC) (junk := [zB d]) (h1 := (B1 x l mc y n j ++ [rB a' b' c' d])) (l0 := (eC k n i 7 a b c d 4)) (A := (ile 0 d.u = false) ∧ Dn .normal (eC k n i 7 a b c d 4) ((B1 x l mc y n j ++ [rB a' b' c' d]) ++ [zB d])) TY_ok mixed ok4 (Nat.le_of_ble_eq_true rfl) (B1_closed x l mc y n j a' b' c' d) rfl ⟨h, dn _ _ _⟩ (by kernel_rfl)
theorem c13 {x l mc y : List Int} {n j i : Nat} {k : Int} {r : Int} {a b c d a' b' c' : Fc} (g : ile 0 d.u = true → ∀ X : Heap, MG (B1 x l mc y n j ++ X) d.u r) : Comes none ([], true) Tryz.prog 92 1 (lb Tryz.f24 4) (eC k n i 7 a b c d 3) (B1 x l mc y n j ++ [rB a' b' c' d]) .normal (eC k n i 7 a b c d 4) (B1 x l mc y n j ++ [rB a' b' c' (up r d)]) := by
  unfold up
  cases h : ile 0 d.u with
  | true => simpa using c13p (i := i) (k := k) h (g h _)
  | false => simpa using c13n (i := i) (k := k) h
theorem c14 {x l mc y : List Int} {n j i : Nat} {k : Int} {a b c d a' b' c' d' : Fc} : Comes none ([], true) Tryz.prog 92 1 (lb Tryz.f24 4) (eC k n i 7 a b c d 4) (B1 x l mc y n j ++ [rB a' b' c' d']) (.exit 4) (eD k n i 7) (B1 x l mc y n j ++ [rB a' b' c' d']) :=
  comes_run (S := { dir := dd [], know := kk [], loop := noloop }) (k := 60) (ts := tD) (junk := []) (h1 := (B1 x l mc y n j ++ [rB a' b' c' d'])) (l0 := eD k n i 7) (A := Dn (.exit 4) (eD k n i 7) (B1 x l mc y n j ++ [rB a' b' c' d'])) TY_ok mixed ok4 (Nat.le_of_ble_eq_true rfl) (B1_closed x l mc y n j a' b' c' d') rfl (dn _ _ _) (by kernel_rfl)
def hC1 (x l mc y : List Int) (n j : Nat) (a b c d : Fc) (r0 r1 r2 r3 : Int) : Nat → Heap
  | 0 => (B1 x l mc y n j ++ [rB a b c d])
  | 1 => (B1 x l mc y n j ++ [rB (up r0 a) b c d])
  | 2 => (B1 x l mc y n j ++ [rB (up r0 a) (up r1 b) c d])
  | 3 => (B1 x l mc y n j ++ [rB (up r0 a) (up r1 b) (up r2 c) d])
  | _ => (B1 x l mc y n j ++ [rB (up r0 a) (up r1 b) (up r2 c) (up r3 d)])
abbrev LC1 (x l mc y : List Int) (n j i : Nat) (k : Int) (a b c d a' b' c' d' : Fc) : Prop := (obs Tryz.prog TY none ([], true) 92).loop 1 (fb Tryz.f24 4) (eC k n i 7 a b c d 0) (B1 x l mc y n j ++ [rB a b c d]) .normal (eD k n i 7) (B1 x l mc y n j ++ [rB a' b' c' d'])
theorem loopC1 {x l mc y : List Int} {n j i : Nat} {k : Int} {a b c d : Fc} {r0 r1 r2 r3 : Int} (g0 : ile 0 a.u = true → ∀ X : Heap, MG (B1 x l mc y n j ++ X) a.u r0) (g1 : ile 0 b.u = true → ∀ X : Heap, MG (B1 x l mc y n j ++ X) b.u r1) (g2 : ile 0 c.u = true → ∀ X : Heap, MG (B1 x l mc y n j ++ X) c.u r2) (g3 : ile 0 d.u = true → ∀ X : Heap, MG (B1 x l mc y n j ++ X) d.u r3) :
    LC1 x l mc y n j i k a b c d (up r0 a) (up r1 b) (up r2 c) (up r3 d) := by
  have hfb : fb Tryz.f24 4 = .block 4 (.loop (lb Tryz.f24 4)) := by kernel_rfl
  refine comes_loop hfb rfl (fun f : Nat => (eC k n i 7 a b c d f)) (hC1 x l mc y n j a b c d r0 r1 r2 r3) (fun f => f ≤ 4) (fun f => 4 - f) 0 (by omega) rfl rfl ?_
  intro f hf
  have : f = 0 ∨ f = 1 ∨ f = 2 ∨ f = 3 ∨ f = 4 := by omega
  rcases this with rfl | rfl | rfl | rfl | rfl
  · exact .inl ⟨1, by omega, by omega, c10 g0⟩
  · exact .inl ⟨2, by omega, by omega, c11 g1⟩
  · exact .inl ⟨3, by omega, by omega, c12 g2⟩
  · exact .inl ⟨4, by omega, by omega, c13 g3⟩
  · exact .inr (.inl ⟨rfl, c14⟩)
end WB
end Go.Ab

namespace Go.Ab
open Go.Proofs

theorem fn24_ok : Tryz.prog.funcs[24]? = some Tryz.f24 ∧ (Tryz.f24.name == "runtime.NumGoroutine") = false ∧ ∀ c, Tryz.f24.body = some c → codeOk Tryz.f24.ntmps c = true :=
  ⟨Tryz.func24, by kernel_rfl, codeOk_of (by kernel_rfl)⟩

namespace WB
def eW (k : Int) (n i : Nat) : List (Nat × Value) := [(1, it k), (2, pt 1), (4, pt 2), (9, mpr 4), (12, pt 5), (53, oS 3 n), (54, it n), (55, it (IntKind.i64.wrap ((i : Int) + 1)))]
def lpC (l : List (Nat × Value)) (h : Heap) : LoopD := (tC, fun _ _ => (.normal, l, h))
theorem pkB {x l mc y : List Int} {n i j b : Nat} {k : Int} {h0 : Heap} {ks : List Nat} (hks : ks = [0, 1, 2, 3, 4, 5, b]) (ho : orderOk 1 ks = true) (g0 : hblk h0 0 = some ⟨ints x, false⟩) (g1 : hblk h0 1 = some ⟨[gS 0 n], true⟩) (g2 : hblk h0 2 = nilB) (g3 : hblk h0 3 = some ⟨ints l, true⟩) (g4 : hblk h0 4 = some ⟨ints mc, true⟩)
    (g5 : hblk h0 5 = some ⟨[gS b j], true⟩) (gb : hblk h0 b = some ⟨ints y, true⟩) (hf : flags 1 h0 = [false]) {e : Env} (he : ∀ p ∈ eW k n i, e p.1 = some p.2) (hw : IntKind.i64.wrap ((i : Int) + 1) = ((i + 1 : Nat) : Int)) :
    Ref 1 (envL (mkE 92 (eB k n ((i + 1 : Nat) : Int)))) (B1 x l mc y n j) e h0 := by
  subst hks
  refine Ref.pick (ks := [0, 1, 2, 3, 4, 5, b]) ho ⟨⟨_, g0, subL_plain _ _ (ints_plain x), id⟩, ⟨_, g1, ⟨_, _, rfl, .inr ⟨0, rfl, rfl⟩, rfl⟩, id⟩, ⟨_, g2, subL_plain _ _ rfl, id⟩, ⟨_, g3, subL_plain _ _ (ints_plain l), id⟩, ⟨_, g4, subL_plain _ _ (ints_plain mc), id⟩, ⟨_, g5, ⟨_, _, rfl, .inr ⟨b, rfl, rfl⟩, rfl⟩, id⟩, ⟨_, gb, subL_plain _ _ (ints_plain y), id⟩, trivial⟩ (by rw [hf]; rfl) ?_
  intro p hp
  simp only [eB, List.mem_cons, List.not_mem_nil, or_false] at hp
  rcases hp with rfl | rfl | rfl | rfl | rfl | rfl | rfl | rfl
  · exact ⟨_, he _ (.head _), rfl⟩
  · exact ⟨_, he _ (.tail _ (.head _)), 1, rfl, rfl⟩
  · exact ⟨_, he _ (.tail _ (.tail _ (.head _))), 2, rfl, rfl⟩
  · exact ⟨_, he _ (.tail _ (.tail _ (.tail _ (.head _)))), 4, rfl, rfl⟩
  · exact ⟨_, he _ (.tail _ (.tail _ (.tail _ (.tail _ (.head _))))), 5, rfl, rfl⟩
  · exact ⟨_, he _ (.tail _ (.tail _ (.tail _ (.tail _ (.tail _ (.head _)))))), .inr ⟨3, rfl, rfl⟩⟩
  · exact ⟨_, he _ (.tail _ (.tail _ (.tail _ (.tail _ (.tail _ (.tail _ (.head _))))))), rfl⟩
  · have h12 := he (55, it (IntKind.i64.wrap ((i : Int) + 1))) (.tail _ (.tail _ (.tail _ (.tail _ (.tail _ (.tail _ (.tail _ (.head _))))))))
    rw [hw] at h12
    exact ⟨_, h12, rfl⟩

def E0 (x l mc : List Int) (n : Nat) (a b c d : Fc) : Heap := [some ⟨ints x, false⟩, some ⟨[gS 0 n], true⟩, nilB, some ⟨ints l, true⟩, some ⟨ints mc, true⟩, some ⟨[gS 8 1], true⟩, rB a b c d, rB a b c d, rB a b c d]
def A0 (x l mc : List Int) (n : Nat) (a b c d : Fc) : Heap := B0 x l mc n ++ [rB a b c d, rB a b c d]
def A0' (x l mc : List Int) (n : Nat) (a b c d : Fc) : Heap := B0 x l mc n ++ [rB a b c d, rB a b c d, rB a b c d]
def E1 (x l mc y : List Int) (n j : Nat) (a b c d : Fc) : Heap := [some ⟨ints x, false⟩, some ⟨[gS 0 n], true⟩, nilB, some ⟨ints l, true⟩, some ⟨ints mc, true⟩, some ⟨[gS 9 (j + 1)], true⟩, none, rB a b c d, rB a b c d, some ⟨ints y ++ c4 a b c d, true⟩]
def A1 (x l mc y : List Int) (n j : Nat) (a b c d : Fc) : Heap := B1 x l mc y n j ++ [rB a b c d, rB a b c d]
def A1' (x l mc y : List Int) (n j : Nat) (a b c d : Fc) : Heap := [some ⟨ints x, false⟩, some ⟨[gS 0 n], true⟩, nilB, some ⟨ints l, true⟩, some ⟨ints mc, true⟩, some ⟨[gS 6 j], true⟩, none, rB a b c d, rB a b c d, some ⟨ints y ++ c4 a b c d, true⟩]
def Ap0 (x l mc : List Int) (n : Nat) (a b c d : Fc) : Prop := aAppend TY 1 22 22 (.slice none 0 0) (.slice (some ⟨7, 0, none⟩) 1 20) (A0 x l mc n a b c d) = some (gS 8 1, A0' x l mc n a b c d)
def Ap1 (x l mc y : List Int) (n j : Nat) (a b c d : Fc) : Prop := aAppend TY 1 22 22 (gS 6 j) (.slice (some ⟨8, 0, none⟩) 1 20) (A1 x l mc y n j a b c d) = some (gS 9 (j + 1), A1' x l mc y n j a b c d)
abbrev CB (n i : Nat) (k : Int) (h : Heap) (ax : AX) (e : List (Nat × Value)) (h' : Heap) : Prop := Comes none ([], true) Tryz.prog 92 1 (lb Tryz.f24 2) (eB k n i) h ax e h'

theorem skip0 {x l mc : List Int} {n i : Nat} {k v : Int} (g0 : ilt (i : Int) n = true) (g1 : InN i n) (g2 : Rl (B0 x l mc n) i v) (g3 : (v != k) = true) : CB n i k (B0 x l mc n) .normal (eB k n (IntKind.i64.wrap ((i : Int) + 1))) (B0 x l mc n) :=
  comes_run (S := { dir := dd [((17, 1), ixD), ((17, 2), ldC [.int .i64 v])], know := kk [(56, true), (62, true)], loop := noloop }) (k := 60) (ts := tB) (junk := []) (h1 := B0 x l mc n) (l0 := eB k n (IntKind.i64.wrap ((i : Int) + 1)))
    (A := (ilt (i : Int) n = true) ∧ InN i n ∧ Rl (B0 x l mc n) i v ∧ ((v != k) = true) ∧ Dn .normal (eB k n (IntKind.i64.wrap ((i : Int) + 1))) (B0 x l mc n)) TY_ok mixed ok2 (Nat.le_of_ble_eq_true rfl) (B0_cl x l mc n) rfl ⟨g0, g1, g2, g3, dn _ _ _⟩ (by kernel_rfl)
theorem bEnd0 {x l mc : List Int} {n i : Nat} {k : Int} (g0 : ilt (i : Int) n = false) : CB n i k (B0 x l mc n) (.exit 2) [(4, pt 2), (12, pt 5)] (B0 x l mc n) :=
  comes_run (S := { dir := dd [], know := kk [(56, false)], loop := noloop }) (k := 60) (ts := [4, 12]) (junk := []) (h1 := B0 x l mc n) (l0 := [(4, pt 2), (12, pt 5)]) (A := (ilt (i : Int) n = false) ∧ Dn (.exit 2) [(4, pt 2), (12, pt 5)] (B0 x l mc n)) TY_ok mixed ok2 (Nat.le_of_ble_eq_true rfl) (B0_cl x l mc n) rfl ⟨g0, dn _ _ _⟩ (by kernel_rfl)
theorem take0 {x l mc y : List Int} {n i : Nat} {k v : Int} {a b c d a' b' c' d' : Fc} (hw : IntKind.i64.wrap ((i : Int) + 1) = ((i + 1 : Nat) : Int)) (hc : ints y = c4 a' b' c' d') (g0 : ilt (i : Int) n = true) (g1 : InN i n) (g2 : Rl (B0 x l mc n) i v) (g3 : (v != k) = false) (g4 : Rr (B0 x l mc n) i a b c d) (g5 : LC0 x l mc n i k a b c d a' b' c' d') (g6 : Ap0 x l mc n a' b' c' d') :
    CB n i k (B0 x l mc n) .normal (eB k n ((i + 1 : Nat) : Int)) (B1 x l mc y n 1) :=
  comes_pick (S := { dir := dd [((17, 1), ixD), ((17, 2), ldC [.int .i64 v]), ((19, 3), ixD), ((19, 4), ldC (c4 a b c d)), ((26, 4), (none, .app fun _ _ => (gS 8 1, A0' x l mc n a' b' c' d')))], know := kk [(56, true), (62, false)], loop := loops [(4, lpC (eD k n i 6) (B0 x l mc n ++ [rB a' b' c' d']))] }) (k := 60) (ts := tB)
    (l0 := eW k n i) (h0 := E0 x l mc n a' b' c' d')
    (A := (ilt (i : Int) n = true) ∧ InN i n ∧ Rl (B0 x l mc n) i v ∧ ((v != k) = false) ∧ InN i n ∧ Rr (B0 x l mc n) i a b c d ∧ LC0 x l mc n i k a b c d a' b' c' d' ∧ Ap0 x l mc n a' b' c' d' ∧ Dn .normal (eW k n i) (E0 x l mc n a' b' c' d'))
    TY_ok mixed ok2 (fun e he => pkB (x := x) (l := l) (mc := mc) (y := y) (n := n) (i := i) (j := 1) (b := 8) (k := k) (ks := [0, 1, 2, 3, 4, 5, 8]) (h0 := E0 x l mc n a' b' c' d') rfl (by kernel_rfl) (by kernel_rfl) (by kernel_rfl) (by kernel_rfl) (by kernel_rfl) (by kernel_rfl) (by kernel_rfl) (by rw [hc]; kernel_rfl) (by kernel_rfl) he hw)
    ⟨g0, g1, g2, g3, g1, g4, g5, g6, dn _ _ _⟩ (by kernel_rfl)

theorem skip1 {x l mc y : List Int} {n j i : Nat} {k v : Int} (g0 : ilt (i : Int) n = true) (g1 : InN i n) (g2 : Rl (B1 x l mc y n j) i v) (g3 : (v != k) = true) : CB n i k (B1 x l mc y n j) .normal (eB k n (IntKind.i64.wrap ((i : Int) + 1))) (B1 x l mc y n j) :=
  comes_run (S := { dir := dd [((17, 1), ixD), ((17, 2), ldC [.int .i64 v])], know := kk [(56, true), (62, true)], loop := noloop }) (k := 60) (ts := tB) (junk := []) (h1 := B1 x l mc y n j) (l0 := eB k n (IntKind.i64.wrap ((i : Int) + 1)))
    (A := (ilt (i : Int) n = true) ∧ InN i n ∧ Rl (B1 x l mc y n j) i v ∧ ((v != k) = true) ∧ Dn .normal (eB k n (IntKind.i64.wrap ((i : Int) + 1))) (B1 x l mc y n j)) TY_ok mixed ok2 (Nat.le_of_ble_eq_true rfl) (B1_cl x l mc y n j) rfl ⟨g0, g1, g2, g3, dn _ _ _⟩ (by kernel_rfl)
theorem bEnd1 {x l mc y : List Int} {n j i : Nat} {k : Int} (g0 : ilt (i : Int) n = false) : CB n i k (B1 x l mc y n j) (.exit 2) [(4, pt 2), (12, pt 5)] (B1 x l mc y n j) :=
  comes_run (S := { dir := dd [], know := kk [(56, false)], loop := noloop }) (k := 60) (ts := [4, 12]) (junk := []) (h1 := B1 x l mc y n j) (l0 := [(4, pt 2), (12, pt 5)]) (A := (ilt (i : Int) n = false) ∧ Dn (.exit 2) [(4, pt 2), (12, pt 5)] (B1 x l mc y n j)) TY_ok mixed ok2 (Nat.le_of_ble_eq_true rfl) (B1_cl x l mc y n j) rfl ⟨g0, dn _ _ _⟩ (by kernel_rfl)
theorem take1 {x l mc y y2 : List Int} {n j i : Nat} {k v : Int} {a b c d a' b' c' d' : Fc} (hw : IntKind.i64.wrap ((i : Int) + 1) = ((i + 1 : Nat) : Int)) (hc : ints y2 = ints y ++ c4 a' b' c' d') (g0 : ilt (i : Int) n = true) (g1 : InN i n) (g2 : Rl (B1 x l mc y n j) i v) (g3 : (v != k) = false) (g4 : Rr (B1 x l mc y n j) i a b c d) (g5 : LC1 x l mc y n j i k a b c d a' b' c' d') (g6 : Ap1 x l mc y n j a' b' c' d') :
    CB n i k (B1 x l mc y n j) .normal (eB k n ((i + 1 : Nat) : Int)) (B1 x l mc y2 n (j + 1)) :=
  comes_pick (S := { dir := dd [((17, 1), ixD), ((17, 2), ldC [.int .i64 v]), ((19, 3), ixD), ((19, 4), ldC (c4 a b c d)), ((26, 4), (none, .app fun _ _ => (gS 9 (j + 1), A1' x l mc y n j a' b' c' d')))], know := kk [(56, true), (62, false)], loop := loops [(4, lpC (eD k n i 7) (B1 x l mc y n j ++ [rB a' b' c' d']))] }) (k := 60) (ts := tB)
    (l0 := eW k n i) (h0 := E1 x l mc y n j a' b' c' d')
    (A := (ilt (i : Int) n = true) ∧ InN i n ∧ Rl (B1 x l mc y n j) i v ∧ ((v != k) = false) ∧ InN i n ∧ Rr (B1 x l mc y n j) i a b c d ∧ LC1 x l mc y n j i k a b c d a' b' c' d' ∧ Ap1 x l mc y n j a' b' c' d' ∧ Dn .normal (eW k n i) (E1 x l mc y n j a' b' c' d'))
    TY_ok mixed ok2 (fun e he => pkB (x := x) (l := l) (mc := mc) (y := y2) (n := n) (i := i) (j := (j + 1)) (b := 9) (k := k) (ks := [0, 1, 2, 3, 4, 5, 9]) (h0 := E1 x l mc y n j a' b' c' d') rfl (by kernel_rfl) (by kernel_rfl) (by kernel_rfl) (by kernel_rfl) (by kernel_rfl) (by kernel_rfl) (by kernel_rfl) (by rw [hc]; kernel_rfl) (by kernel_rfl) he hw)
    ⟨g0, g1, g2, g3, g1, g4, g5, g6, dn _ _ _⟩ (by kernel_rfl)

theorem ap0 {x l mc : List Int} {n : Nat} {a b c d : Fc} : Ap0 x l mc n a b c d :=
  app_nil22 (m := 1) (ys := c4 a b c d) (by kernel_rfl) (by kernel_rfl) (Nat.le_refl _) (by kernel_rfl) (by kernel_rfl) (Nat.le_of_ble_eq_true rfl)
theorem ap1 {x l mc y : List Int} {n j : Nat} {a b c d : Fc} (hj : j ≤ 2000) (hy : y.length = 20 * j) : Ap1 x l mc y n j a b c d :=
  app_own22 (m := 1) (zs := ints y) (ys := c4 a b c d) (by kernel_rfl) (Nat.le_of_ble_eq_true rfl) (by rw [ints_length]; omega) (by kernel_rfl) (by kernel_rfl) (by kernel_rfl) (by kernel_rfl) (by omega)
/-- The heap of a round. -/
def HB (x l : List Int) (n : Nat) (k : Int) (i : Nat) : Heap := if cntK l k i = 0 then B0 x l (mcK l k n) n else B1 x l (mcK l k n) (ptK x l k i) n (cntK l k i)
theorem up_pF {x l : List Int} {k : Int} {i f : Nat} : up (cntK l k (fc x i f).u.toNat : Int) (fc x i f) = pF x l k i f := rfl
abbrev LB (x l : List Int) (n : Nat) (k : Int) : Prop := (obs Tryz.prog TY none ([], true) 92).loop 1 (fb Tryz.f24 2) (eB k n 0) (B0 x l (mcK l k n) n) .normal [(4, pt 2), (12, pt 5)] (HB x l n k n)
theorem loopB {x l : List Int} {n : Nat} {k : Int} (hn : n ≤ 1000) (hx : x.length = 20 * n) (hl : l.length = n) (hg : ∀ v f, v < n → f < 4 → cel l v = k → 0 ≤ (fc x v f).u → (fc x v f).u < n ∧ cel l (fc x v f).u.toNat = k) : LB x l n k := by
  have hfb : fb Tryz.f24 2 = .block 2 (.loop (lb Tryz.f24 2)) := by kernel_rfl
  refine comes_loop hfb rfl (fun i : Nat => eB k n i) (HB x l n k) (fun i => i ≤ n) (fun i => n - i) 0 (by omega) rfl rfl ?_
  intro i hi
  by_cases h4 : i < n
  · have hlt : ilt (i : Int) n = true := by rw [ilt_eq]; simp; omega
    have iN : InN i n := ⟨by omega, by omega⟩
    have hw := wrap_succ (k := i) (by omega)
    have hu : ∀ f, f < 4 → cel l i = k → ile 0 (fc x i f).u = true → 0 ≤ (fc x i f).u ∧ (fc x i f).u < n ∧ cel l (fc x i f).u.toNat = k := fun f hf hk h => by
      have h0 : 0 ≤ (fc x i f).u := by rw [ile_eq] at h; simpa using h
      exact ⟨h0, hg i f h4 hf hk h0⟩
    refine .inl ⟨i + 1, by omega, by omega, ?_⟩
    by_cases hz : cntK l k i = 0
    · have e1 : HB x l n k i = B0 x l (mcK l k n) n := if_pos hz
      rw [e1]
      have rl : Rl (B0 x l (mcK l k n) n) i (cel l i) := rd_int (w := true) rfl (by omega)
      by_cases hk : cel l i = k
      · have ez : ptK x l k i = [] := List.length_eq_zero_iff.1 (by rw [ptK_len, hz])
        have e2 : HB x l n k (i + 1) = B1 x l (mcK l k n) (row (pF x l k) i) n 1 := by
          unfold HB
          simp only [cntK, ptK, if_pos hk, hz, ez, List.nil_append]
          rfl
        rw [e2]
        have mg : ∀ f, f < 4 → ile 0 (fc x i f).u = true → ∀ X : Heap, MG (B0 x l (mcK l k n) n ++ X) (fc x i f).u (cntK l k (fc x i f).u.toNat : Int) := fun f hf h X =>
          mget_K (w := true) rfl (hu f hf hk h).1 (hu f hf hk h).2.1 (hu f hf hk h).2.2
        exact take0 (a := fc x i 0) (b := fc x i 1) (c := fc x i 2) (d := fc x i 3) (a' := pF x l k i 0) (b' := pF x l k i 1) (c' := pF x l k i 2) (d' := pF x l k i 3) hw rfl hlt iN rl (by simpa using hk) (rd_row (w := false) rfl hx h4)
          (loopC0 (mg 0 (by omega)) (mg 1 (by omega)) (mg 2 (by omega)) (mg 3 (by omega))) ap0
      · have e2 : HB x l n k (i + 1) = B0 x l (mcK l k n) n := by
          unfold HB
          simp only [cntK, if_neg hk, hz, if_true]
        rw [e2]
        have h := skip0 hlt iN rl (by simpa using hk)
        rwa [hw] at h
    · have e1 : HB x l n k i = B1 x l (mcK l k n) (ptK x l k i) n (cntK l k i) := if_neg hz
      rw [e1]
      have rl : Rl (B1 x l (mcK l k n) (ptK x l k i) n (cntK l k i)) i (cel l i) := rd_int (w := true) rfl (by omega)
      by_cases hk : cel l i = k
      · have e2 : HB x l n k (i + 1) = B1 x l (mcK l k n) (ptK x l k i ++ row (pF x l k) i) n (cntK l k i + 1) := by
          unfold HB
          simp only [cntK, ptK, if_pos hk]
          rw [if_neg (by omega)]
        rw [e2]
        have mg : ∀ f, f < 4 → ile 0 (fc x i f).u = true → ∀ X : Heap, MG (B1 x l (mcK l k n) (ptK x l k i) n (cntK l k i) ++ X) (fc x i f).u (cntK l k (fc x i f).u.toNat : Int) := fun f hf h X =>
          mget_K (w := true) rfl (hu f hf hk h).1 (hu f hf hk h).2.1 (hu f hf hk h).2.2
        have hcl := cntK_le l k i
        exact take1 (a := fc x i 0) (b := fc x i 1) (c := fc x i 2) (d := fc x i 3) (a' := pF x l k i 0) (b' := pF x l k i 1) (c' := pF x l k i 2) (d' := pF x l k i 3) hw (by rw [ints_append]; rfl) hlt iN rl (by simpa using hk) (rd_row (w := false) rfl hx h4)
          (loopC1 (mg 0 (by omega)) (mg 1 (by omega)) (mg 2 (by omega)) (mg 3 (by omega))) (ap1 (by omega) (ptK_len x l k i))
      · have e2 : HB x l n k (i + 1) = B1 x l (mcK l k n) (ptK x l k i) n (cntK l k i) := by
          unfold HB
          simp only [cntK, ptK, if_neg hk, if_neg hz]
        rw [e2]
        have h := skip1 hlt iN rl (by simpa using hk)
        rwa [hw] at h
  · have : i = n := by omega
    subst this
    refine .inr (.inl ⟨rfl, ?_⟩)
    by_cases hz : cntK l k i = 0
    · have e1 : HB x l i k i = B0 x l (mcK l k i) i := if_pos hz
      rw [e1]; exact bEnd0 (by rw [ilt_eq]; simp)
    · have e1 : HB x l i k i = B1 x l (mcK l k i) (ptK x l k i) i (cntK l k i) := if_neg hz
      rw [e1]; exact bEnd1 (by rw [ilt_eq]; simp)

-- the contract
def h2 (x : List Int) (n : Nat) : Heap := [some ⟨ints x, false⟩, some ⟨[gS 0 n], true⟩, nilB]
def h3 (x l : List Int) (n : Nat) : Heap := [some ⟨ints x, false⟩, some ⟨[gS 0 n], true⟩, nilB, some ⟨ints l, true⟩]
abbrev Gv (f : FuncId) (xs : List Value) (h : Heap) (v : Value) (h' : Heap) : Prop := Gives Tryz.prog f xs h (.ret v) h' ∧ ∃ x, h' = h ++ x
def ck (e : Int) : Option Bool × Td := ansD (.int .i64 e) id
def ps (x l : List Int) (n N : Nat) : Option Bool × Td := (none, .ans fun _ _ => (PV.pRes (oS 3 n) (N : Int), h3 x l n))
theorem bad7 {x : List Int} {n : Nat} {k : Int} (g : Gv 13 [gV 0 n] (h2 x n) (.int .i64 7) (h2 x n)) : Sum Tryz.prog 24 [gV 0 n, .int .i64 k] [some ⟨ints x, false⟩] fun o _ => o = .ret (gErr 7) :=
  tFun_sum (S := { dir := dd [((1, 1), ck 7)], know := kk [], loop := noloop }) (k := 60) TY_ok mixed fn24_ok (A := Gv 13 [gV 0 n] (h2 x n) (.int .i64 7) (h2 x n) ∧ AOut.ret (gErr 7) = .ret (gErr 7)) ⟨g, rfl⟩ (by kernel_rfl)
theorem badLow {x l : List Int} {n N : Nat} {k : Int} (g : Gv 13 [gV 0 n] (h2 x n) (.int .i64 0) (h2 x n)) (g2 : Gv 43 [gV 0 n] (h2 x n) (PV.pRes (oS 3 n) (N : Int)) (h3 x l n)) (g3 : ilt k 0 = true) : Sum Tryz.prog 24 [gV 0 n, .int .i64 k] [some ⟨ints x, false⟩] fun o _ => o = .ret (gErr 1) :=
  tFun_sum (S := { dir := dd [((1, 1), ck 0), ((4, 1), ps x l n N), ((5, 3), knowD true)], know := kk [], loop := noloop }) (k := 60) TY_ok mixed fn24_ok (A := Gv 13 [gV 0 n] (h2 x n) (.int .i64 0) (h2 x n) ∧ Gv 43 [gV 0 n] (h2 x n) (PV.pRes (oS 3 n) (N : Int)) (h3 x l n) ∧ (ilt k 0 = true) ∧ AOut.ret (gErr 1) = .ret (gErr 1)) ⟨g, g2, g3, rfl⟩ (by kernel_rfl)
theorem badHigh {x l : List Int} {n N : Nat} {k : Int} (g : Gv 13 [gV 0 n] (h2 x n) (.int .i64 0) (h2 x n)) (g2 : Gv 43 [gV 0 n] (h2 x n) (PV.pRes (oS 3 n) (N : Int)) (h3 x l n)) (g3 : ilt k 0 = false) (g4 : ile (N : Int) k = true) : Sum Tryz.prog 24 [gV 0 n, .int .i64 k] [some ⟨ints x, false⟩] fun o _ => o = .ret (gErr 1) :=
  tFun_sum (S := { dir := dd [((1, 1), ck 0), ((4, 1), ps x l n N), ((5, 3), knowD false)], know := kk [(35, true)], loop := noloop }) (k := 60) TY_ok mixed fn24_ok (A := Gv 13 [gV 0 n] (h2 x n) (.int .i64 0) (h2 x n) ∧ Gv 43 [gV 0 n] (h2 x n) (PV.pRes (oS 3 n) (N : Int)) (h3 x l n) ∧ (ilt k 0 = false) ∧ (ile (N : Int) k = true) ∧ AOut.ret (gErr 1) = .ret (gErr 1)) ⟨g, g2, g3, g4, rfl⟩ (by kernel_rfl)
def hZ (x l mc y : List Int) (n j : Nat) : Heap := [some ⟨ints x, false⟩, some ⟨[gS 0 n], true⟩, some ⟨[gS 6 j], true⟩, some ⟨ints l, true⟩, some ⟨ints mc, true⟩, some ⟨[gS 6 j], true⟩, some ⟨ints y, true⟩]
theorem good {x l y : List Int} {n N j : Nat} {k : Int} (g : Gv 13 [gV 0 n] (h2 x n) (.int .i64 0) (h2 x n)) (g2 : Gv 43 [gV 0 n] (h2 x n) (PV.pRes (oS 3 n) (N : Int)) (h3 x l n)) (g3 : ilt k 0 = false) (g4 : ile (N : Int) k = false) (g5 : LA x l n k)
    (g6 : (obs Tryz.prog TY none ([], true) 92).loop 1 (fb Tryz.f24 2) (eB k n 0) (B0 x l (mcK l k n) n) .normal [(4, pt 2), (12, pt 5)] (B1 x l (mcK l k n) y n j)) : Sum Tryz.prog 24 [gV 0 n, .int .i64 k] [some ⟨ints x, false⟩] fun o h => o = .ret (gRes 6 j 0) ∧ h = hZ x l (mcK l k n) y n j :=
  tFun_sum (S := { dir := dd [((1, 1), ck 0), ((4, 1), ps x l n N), ((5, 3), knowD false), ((7, 0), mpD undef [])], know := kk [(35, false)], loop := loops [(0, (tA, fun _ _ => (.normal, eA' k n, hA x l (mcK l k n) n))), (2, (tB, fun _ _ => (.normal, [(4, pt 2), (12, pt 5)], B1 x l (mcK l k n) y n j)))] }) (k := 90) TY_ok mixed fn24_ok
    (A := Gv 13 [gV 0 n] (h2 x n) (.int .i64 0) (h2 x n) ∧ Gv 43 [gV 0 n] (h2 x n) (PV.pRes (oS 3 n) (N : Int)) (h3 x l n) ∧ (ilt k 0 = false) ∧ (ile (N : Int) k = false) ∧ LA x l n k ∧ (obs Tryz.prog TY none ([], true) 92).loop 1 (fb Tryz.f24 2) (eB k n 0) (B0 x l (mcK l k n) n) .normal [(4, pt 2), (12, pt 5)] (B1 x l (mcK l k n) y n j) ∧ AOut.ret (gRes 6 j 0) = .ret (gRes 6 j 0) ∧ hZ x l (mcK l k n) y n j = hZ x l (mcK l k n) y n j)
    ⟨g, g2, g3, g4, g5, g6, rfl, rfl⟩ (by kernel_rfl)
end WB

/-- The list of a part. -/
def partK (x : List Int) (n : Nat) (k : Int) : List Int := ptK x (partsL x n) k n
def partC (x : List Int) (n : Nat) (k : Int) : Nat := cntK (partsL x n) k n

theorem cntK_pos {l : List Int} {k : Int} : ∀ {i v : Nat}, v < i → cel l v = k → 0 < cntK l k i
  | 0, v, h, _ => by omega
  | i + 1, v, h, hk => by
    simp only [cntK]
    by_cases e : v = i
    · subst e; rw [if_pos hk]; omega
    · have := cntK_pos (i := i) (v := v) (by omega) hk
      split <;> omega

section
variable {x : List Int} {n : Nat} {k : Int}
theorem part_pre (hn : n ≤ 1000) (hx : x.length = 20 * n) (hc : chk n x = 0) : WB.Gv 13 [gV 0 n] (WB.h2 x n) (.int .i64 0) (WB.h2 x n) ∧ WB.Gv 43 [gV 0 n] (WB.h2 x n) (PV.pRes (oS 3 n) (partsN x n : Int)) (WB.h3 x (partsL x n) n) :=
  ⟨gives_one (hc ▸ gcheck_sum hx) rfl (w := false) rfl, gives_one_any (gparts_sum hn hx hc) (w := false) rfl rfl⟩
theorem part_bad7 (hx : x.length = 20 * n) (hc : chk n x = 7) : Sum Tryz.prog 24 [gV 0 n, .int .i64 k] [some ⟨ints x, false⟩] fun o _ => o = .ret (gErr 7) :=
  WB.bad7 (gives_one (hc ▸ gcheck_sum hx) rfl (w := false) rfl)
theorem part_out (hn : n ≤ 1000) (hx : x.length = 20 * n) (hc : chk n x = 0) (hk : ¬ (0 ≤ k ∧ k < partsN x n)) : Sum Tryz.prog 24 [gV 0 n, .int .i64 k] [some ⟨ints x, false⟩] fun o _ => o = .ret (gErr 1) := by
  obtain ⟨g1, g2⟩ := part_pre hn hx hc
  by_cases h : k < 0
  · exact WB.badLow g1 g2 (ilt_neg.2 h)
  · exact WB.badHigh g1 g2 (ilt_nonneg.2 (by omega)) (by rw [ile_eq]; simp; omega)
/-- The contract of Part. -/
theorem part_ok (hn : n ≤ 1000) (hx : x.length = 20 * n) (hc : chk n x = 0) (h0 : 0 ≤ k) (hk : k < partsN x n) :
    Sum Tryz.prog 24 [gV 0 n, .int .i64 k] [some ⟨ints x, false⟩] fun o h => o = .ret (gRes 1 (partC x n k) 0) ∧ h = [some ⟨ints x, false⟩] ++ [some ⟨ints (partK x n k), true⟩] := by
  obtain ⟨g1, g2⟩ := part_pre hn hx hc
  have hl : (partsL x n).length = n := (parts_spec hc n (Nat.le_refl _)).len
  have hp := parts_spec hc n (Nat.le_refl _)
  have hg : ∀ v f, v < n → f < 4 → cel (partsL x n) v = k → 0 ≤ (fc x v f).u → (fc x v f).u < n ∧ cel (partsL x n) (fc x v f).u.toNat = k := by
    intro v f hv hf hk h
    have hb := (face_back hc hv hf h).1
    refine ⟨by omega, ?_⟩
    rw [← hk]
    exact ((hp.same v (fc x v f).u.toNat hv (by omega) (hp.done v hv)).2 (.tail (.refl _) ⟨hv, f, hf, by omega⟩)).symm
  obtain ⟨r, hr⟩ := hp.rep
  obtain ⟨r1, r2, _⟩ := hr k.toNat (by unfold partsN at hk; omega)
  have hpos : cntK (partsL x n) k n ≠ 0 := by
    have := cntK_pos (k := k) (l := partsL x n) r1 (by unfold partsL; rw [r2]; omega)
    omega
  have hB := WB.loopB hn hx hl hg
  have e1 : WB.HB x (partsL x n) n k n = WB.B1 x (partsL x n) (mcK (partsL x n) k n) (partK x n k) n (partC x n k) := if_neg hpos
  have hs := WB.good g1 g2 (ilt_nonneg.2 h0) (by rw [ile_eq]; simp; omega) (WB.loopA hn hl) (by rw [← e1]; exact hB)
  exact Sum.pick (ks := [0, 6]) hs (by kernel_rfl) ⟨⟨_, rfl, subL_plain _ _ (ints_plain x), id⟩, ⟨_, rfl, subL_plain _ _ (ints_plain _), id⟩, trivial⟩ (by kernel_rfl) ⟨_, rfl, _, _, rfl, sub_gV rfl, _, _, rfl, rfl, rfl⟩
end
end Go.Ab
