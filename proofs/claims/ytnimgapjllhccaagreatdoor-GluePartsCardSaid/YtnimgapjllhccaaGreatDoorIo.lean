/- The function IsOrder of the specification answers as a plain function. Conditions: none beyond the given model and program. -/
import Derived.Test.YtnimgapjllhccaaGreatDoorPn
namespace Go.Ab
open Go.Proofs

def pmL (p : Pm) : List Value := [.int .i64 p.a, .int .i64 p.b, .int .i64 p.c, .int .i64 p.d]
def oS (b m : Nat) : Value := .slice (some ⟨b, 0, none⟩) m 1
def pS (b m : Nat) : Value := .slice (some ⟨b, 0, none⟩) m 4
def bls (n : Nat) (f : Nat → Bool) : List Value := (List.range n).map fun v => .bool (f v)
theorem bls_plain (n : Nat) (f : Nat → Bool) : plainL (bls n f) = true := by
  rw [plainL_iff]; intro v hv
  simp only [bls, List.mem_map] at hv
  obtain ⟨i, _, rfl⟩ := hv; rfl
theorem bls_length (n : Nat) (f : Nat → Bool) : (bls n f).length = n := by simp [bls]
theorem bls_get {n v : Nat} {f : Nat → Bool} (h : v < n) : (bls n f)[v]? = some (.bool (f v)) := by simp [bls, h]
theorem rd_bls {h : Heap} {b n v : Nat} {f : Nat → Bool} {w : Bool} (hb : hblk h b = some ⟨bls n f, w⟩) (hv : v < n) : readCells h ⟨b, 0 + v * 1, none⟩ 1 = some [.bool (f v)] := by
  simp only [readCells, hb, bls_length]
  rw [if_pos (by simp; omega)]
  simp only [Nat.zero_add, Nat.mul_one]
  have : ((bls n f).drop v).take 1 = [.bool (f v)] := by
    refine List.ext_getElem? fun i => ?_
    rw [List.getElem?_take, List.getElem?_drop]
    cases i with
    | zero => simp [bls_get hv]
    | succ i => simp
  rw [this]
theorem splice_bls {n v : Nat} {f : Nat → Bool} (hv : v < n) : splice (bls n f) v [.bool true] = bls n fun u => if u = v then true else f u := by
  refine List.ext_getElem? fun i => ?_
  rw [splice_get (by simp [bls_length]; omega)]
  by_cases hi : i < n
  · rw [bls_get hi, bls_get hi]
    by_cases h2 : i = v
    · subst h2; simp
    · rw [if_neg (by simp; omega), if_neg h2]
  · rw [if_neg (by simp; omega), List.getElem?_eq_none (by rw [bls_length]; omega), List.getElem?_eq_none (by rw [bls_length]; omega)]
theorem wr_bls {h : Heap} {b n v : Nat} {f : Nat → Bool} (hb : hblk h b = some ⟨bls n f, true⟩) (hv : v < n) : writeCells h ⟨b, 0 + v * 1, none⟩ [.bool true] = some (h.set b (some ⟨bls n (fun u => if u = v then true else f u), true⟩)) := by
  simp only [writeCells, hb, bls_length]
  rw [if_pos (by simp; omega)]
  simp only [Nat.zero_add, Nat.mul_one]
  rw [splice_bls hv]
theorem rd_int {x : List Int} {h : Heap} {b o : Nat} {w : Bool} (hb : hblk h b = some ⟨ints x, w⟩) (ho : o < x.length) : readCells h ⟨b, 0 + o * 1, none⟩ 1 = some [.int .i64 (cel x o)] := by
  rw [show 0 + o * 1 = o by omega]; exact rd_cell hb (by omega)
theorem rd_pm {x : List Int} {h : Heap} {b i : Nat} {w : Bool} (hb : hblk h b = some ⟨ints x, w⟩) (ho : 4 * i + 4 ≤ x.length) : readCells h ⟨b, 0 + i * 4, none⟩ 4 = some (pmL (pmAt x (4 * i))) := by
  unfold readCells
  rw [hb]
  simp only [ints_length, true_and]
  rw [if_pos (by omega), show 0 + i * 4 = 4 * i by omega, cells_ints x (4 * i) 4 ho]
  rfl

namespace IQ
def H (o q : List Int) (n : Nat) (f : Nat → Bool) : Heap := [some ⟨ints o, false⟩, some ⟨ints q, false⟩, some ⟨bls n f, true⟩]
theorem H_closed (o q : List Int) (n : Nat) (f : Nat → Bool) : closedH 3 (H o q n f) := closedH_cons (subL_plain _ _ (ints_plain o)) (closedH_cons (subL_plain _ _ (ints_plain q)) (closedH_cons (subL_plain _ _ (bls_plain n f)) closedH_nil))
def eT (n i : Nat) : List (Nat × Value) := [(0, oS 0 n), (1, pS 1 n), (2, .int .i64 n), (7, .slice (some ⟨2, 0, none⟩) n 1), (8, .int .i64 i)]
def eW (n i : Nat) : List (Nat × Value) := [(0, oS 0 n), (1, pS 1 n), (2, .int .i64 n), (7, .slice (some ⟨2, 0, none⟩) n 1), (8, .int .i64 (IntKind.i64.wrap ((i : Int) + 1)))]
def eF : List (Nat × Value) := [(6, .bool false)]
theorem ok0 : codeOk 62 (lb Tryz.f26 0) = true := by kernel_rfl
abbrev C (o q : List Int) (n i : Nat) (f g : Nat → Bool) (ax : AX) (l : List (Nat × Value)) : Prop := Comes none ([], true) Tryz.prog 62 2 (lb Tryz.f26 0) (eT n i) (H o q n f) ax l (H o q n g)
def sc (d : List ((Nat × Nat) × (Option Bool × Td))) (k : List (Nat × Bool)) : Ts := { dir := dd d, know := kk k, loop := noloop }
def In (i n : Nat) : Prop := 0 ≤ (i : Int) ∧ (i : Int) < (n : Int)
def InV (v : Int) (n : Nat) : Prop := 0 ≤ v ∧ v < (n : Int)
def R0 (o q : List Int) (n : Nat) (f : Nat → Bool) (i : Nat) (v : Int) : Prop := readCells (H o q n f) ⟨0, 0 + i * 1, none⟩ 1 = some [.int .i64 v]
def R2 (o q : List Int) (n : Nat) (f : Nat → Bool) (v : Int) (b : Bool) : Prop := readCells (H o q n f) ⟨2, 0 + v.toNat * 1, none⟩ 1 = some [.bool b]
def R1 (o q : List Int) (n : Nat) (f : Nat → Bool) (i : Nat) (p : Pm) : Prop := readCells (H o q n f) ⟨1, 0 + i * 4, none⟩ 4 = some (pmL p)
def VP (p : Pm) (b : Bool) : Prop := Plain Tryz.prog 38 [pmv p] (.bool b)
def W (o q : List Int) (n : Nat) (f g : Nat → Bool) (v : Int) : Prop := writeCells (H o q n f) ⟨2, 0 + v.toNat * 1, none⟩ [.bool true] = some (H o q n g)
def dv (v : Int) : List ((Nat × Nat) × (Option Bool × Td)) := [((7, 2), ixD), ((7, 3), ldC [.int .i64 v])]
abbrev A0 (o q : List Int) (n i : Nat) (f : Nat → Bool) (v : Int) (X : Prop) : Prop := ilt (i : Int) n = true ∧ In i n ∧ R0 o q n f i v ∧ X

theorem bEnd {o q : List Int} {n i : Nat} {f : Nat → Bool} (h1 : ilt (i : Int) n = false) : C o q n i f f (.exit 0) [] :=
  comes_run (S := sc [] [(23, false)]) (k := 60) (ts := []) (junk := []) (h1 := H o q n f) (A := ilt (i : Int) n = false ∧ Dn (.exit 0) [] (H o q n f)) TY_ok mixed ok0 (show 2 ≤ (H o q n f).length from Nat.le_of_ble_eq_true rfl) (H_closed o q n f) rfl ⟨h1, dn _ _ _⟩ (by kernel_rfl)
theorem bNeg {o q : List Int} {n i : Nat} {f : Nat → Bool} {v : Int} {X : Prop} (h : A0 o q n i f v X) (h1 : ilt v 0 = true) : C o q n i f f .ret eF :=
  comes_run (S := sc (dv v ++ [((7, 6), knowD true)]) [(23, true)]) (k := 60) (ts := [6]) (junk := []) (h1 := H o q n f) (l0 := eF) (A := A0 o q n i f v ((ilt v 0 = true) ∧ Dn .ret eF (H o q n f))) TY_ok mixed ok0 (show 2 ≤ (H o q n f).length from Nat.le_of_ble_eq_true rfl) (H_closed o q n f) rfl ⟨h.1, h.2.1, h.2.2.1, h1, dn _ _ _⟩ (by kernel_rfl)
def d2 (v : Int) : List ((Nat × Nat) × (Option Bool × Td)) := dv v ++ [((7, 6), knowD false), ((7, 8), ixD), ((7, 9), ldC [.int .i64 v])]
theorem bBig {o q : List Int} {n i : Nat} {f : Nat → Bool} {v : Int} {X : Prop} (h : A0 o q n i f v X) (h1 : ilt v 0 = false) (h2 : ile (n : Int) v = true) : C o q n i f f .ret eF :=
  comes_run (S := sc (d2 v ++ [((7, 14), knowD true)]) [(23, true)]) (k := 60) (ts := [6]) (junk := []) (h1 := H o q n f) (l0 := eF) (A := A0 o q n i f v ((ilt v 0 = false) ∧ In i n ∧ R0 o q n f i v ∧ (ile (n : Int) v = true) ∧ Dn .ret eF (H o q n f))) TY_ok mixed ok0 (show 2 ≤ (H o q n f).length from Nat.le_of_ble_eq_true rfl) (H_closed o q n f) rfl ⟨h.1, h.2.1, h.2.2.1, h1, h.2.1, h.2.2.1, h2, dn _ _ _⟩ (by kernel_rfl)
def d3 (v : Int) (b : Bool) : List ((Nat × Nat) × (Option Bool × Td)) := d2 v ++ [((7, 14), knowD false), ((7, 17), ixD), ((7, 18), ldC [.int .i64 v]), ((7, 19), ixD), ((7, 20), ldC [.bool b])]
abbrev A3 (o q : List Int) (n i : Nat) (f : Nat → Bool) (v : Int) (b : Bool) (X : Prop) : Prop := A0 o q n i f v ((ilt v 0 = false) ∧ In i n ∧ R0 o q n f i v ∧ (ile (n : Int) v = false) ∧ In i n ∧ R0 o q n f i v ∧ InV v n ∧ R2 o q n f v b ∧ X)
theorem bSeen {o q : List Int} {n i : Nat} {f : Nat → Bool} {v : Int} {X : Prop} (h : A0 o q n i f v X) (h1 : ilt v 0 = false) (h2 : ile (n : Int) v = false) (h3 : InV v n) (h4 : R2 o q n f v true) : C o q n i f f .ret eF :=
  comes_run (S := sc (d3 v true) [(23, true)]) (k := 60) (ts := [6]) (junk := []) (h1 := H o q n f) (l0 := eF) (A := A3 o q n i f v true (Dn .ret eF (H o q n f))) TY_ok mixed ok0 (show 2 ≤ (H o q n f).length from Nat.le_of_ble_eq_true rfl) (H_closed o q n f) rfl
    ⟨h.1, h.2.1, h.2.2.1, h1, h.2.1, h.2.2.1, h2, h.2.1, h.2.2.1, h3, h4, dn _ _ _⟩ (by kernel_rfl)
theorem bInv {o q : List Int} {n i : Nat} {f : Nat → Bool} {v : Int} {p : Pm} {X : Prop} (h : A0 o q n i f v X) (h1 : ilt v 0 = false) (h2 : ile (n : Int) v = false) (h3 : InV v n) (h4 : R2 o q n f v false) (h5 : R1 o q n f i p) (h6 : VP p false) : C o q n i f f .ret eF :=
  comes_run (S := sc (d3 v false ++ [((7, 25), ixD), ((7, 26), ldC (pmL p)), ((7, 27), plD (.bool false))]) [(23, true)]) (k := 60) (ts := [6]) (junk := []) (h1 := H o q n f) (l0 := eF) (A := A3 o q n i f v false (In i n ∧ R1 o q n f i p ∧ VP p false ∧ Dn .ret eF (H o q n f))) TY_ok mixed ok0 (show 2 ≤ (H o q n f).length from Nat.le_of_ble_eq_true rfl) (H_closed o q n f) rfl
    ⟨h.1, h.2.1, h.2.2.1, h1, h.2.1, h.2.2.1, h2, h.2.1, h.2.2.1, h3, h4, h.2.1, h5, h6, dn _ _ _⟩ (by kernel_rfl)
theorem bGood {o q : List Int} {n i : Nat} {f g : Nat → Bool} {v : Int} {p : Pm} {X : Prop} (h : A0 o q n i f v X) (h1 : ilt v 0 = false) (h2 : ile (n : Int) v = false) (h3 : InV v n) (h4 : R2 o q n f v false) (h5 : R1 o q n f i p) (h6 : VP p true) (h7 : W o q n f g v) : C o q n i f g .normal (eW n i) :=
  comes_run (S := sc (d3 v false ++ [((7, 25), ixD), ((7, 26), ldC (pmL p)), ((7, 27), plD (.bool true)), ((9, 3), ixD), ((9, 4), ldC [.int .i64 v]), ((9, 5), ixD), ((9, 6), (none, .st fun _ _ _ => H o q n g))]) [(23, true)]) (k := 60) (ts := [0, 1, 2, 7, 8]) (junk := []) (h1 := H o q n g) (l0 := eW n i)
    (A := A3 o q n i f v false (In i n ∧ R1 o q n f i p ∧ VP p true ∧ In i n ∧ R0 o q n f i v ∧ InV v n ∧ W o q n f g v ∧ Dn .normal (eW n i) (H o q n g))) TY_ok mixed ok0 (show 2 ≤ (H o q n g).length from Nat.le_of_ble_eq_true rfl) (H_closed o q n g) rfl
    ⟨h.1, h.2.1, h.2.2.1, h1, h.2.1, h.2.2.1, h2, h.2.1, h.2.2.1, h3, h4, h.2.1, h5, h6, h.2.1, h.2.2.1, h3, h7, dn _ _ _⟩ (by kernel_rfl)
end IQ
end Go.Ab

namespace Go.Ab
open Go.Proofs

def seen (o : List Int) (i v : Nat) : Bool := (List.range i).any fun j => cel o j == (v : Int)
theorem seen_zero (o : List Int) : seen o 0 = fun _ => false := by funext v; rfl
theorem seen_succ {o : List Int} {i : Nat} (h : 0 ≤ cel o i) : (fun u => if u = (cel o i).toNat then true else seen o i u) = seen o (i + 1) := by
  funext u
  simp only [seen, List.range_succ, List.any_append, List.any_cons, List.any_nil, Bool.or_false]
  by_cases hu : u = (cel o i).toNat
  · rw [if_pos hu]
    have : (cel o i == (u : Int)) = true := by simp; omega
    rw [this]; simp
  · rw [if_neg hu]
    have : (cel o i == (u : Int)) = false := by simp; omega
    rw [this]; simp

def okAt (n : Nat) (o q : List Int) (i : Nat) : Bool := decide (0 ≤ cel o i) && (decide (cel o i < n) && (!(seen o i (cel o i).toNat) && (pmAt q (4 * i)).valid))
def ordOk (n : Nat) (o q : List Int) : Bool := (List.range n).all (okAt n o q)

theorem mk70 {n : Nat} {h : Heap} (hn : n ≤ 1000) : aMakeSlice TY 70 (.int .i64 n) (.int .i64 n) h = some (.slice (some ⟨h.length, 0, none⟩) n 1, h ++ [some ⟨bls n (fun _ => false), true⟩]) := by
  have t1 : TY 70 = some ti70 := rfl
  have t2 : TY 4 = some ti4 := rfl
  simp only [aMakeSlice, t1, t2, Option.bind_some, ti70, ti4]
  rw [if_pos (by refine ⟨by omega, by omega, by omega, by omega, by omega⟩)]
  have e : zcells (Value.bool false).cells.toList ((n : Int).toNat) = bls n (fun _ => false) := by
    simp only [zcells, bls, Int.toNat_natCast]
    simp [Value.cells, Nat.mod_one]
  rw [e]
  simp

namespace IQ
theorem step {o q : List Int} {n i : Nat} (hn : n ≤ 1000) (ho : o.length = n) (hq : q.length = 4 * n) (hi : i < n) :
    (okAt n o q i = true → C o q n i (seen o i) (seen o (i + 1)) .normal (eT n (i + 1))) ∧ (okAt n o q i = false → C o q n i (seen o i) (seen o i) .ret eF) := by
  have hA : A0 o q n i (seen o i) (cel o i) True := ⟨by rw [ilt_eq]; simp; omega, ⟨by omega, by omega⟩, rd_int (w := false) rfl (by omega), trivial⟩
  have hp : R1 o q n (seen o i) i (pmAt q (4 * i)) := rd_pm (w := false) rfl (by omega)
  have hw : eT n (i + 1) = eW n i := by simp only [eT, eW, wrap_succ (show i < 1000000000 by omega)]
  unfold okAt
  cases h1 : ilt (cel o i) 0 with
  | true =>
    have h1' : cel o i < 0 := by rw [ilt_eq] at h1; simpa using h1
    refine ⟨fun h => ?_, fun _ => bNeg hA h1⟩
    have : decide (0 ≤ cel o i) = false := by simp; omega
    rw [this] at h; simp at h
  | false =>
    have h1' : 0 ≤ cel o i := by rw [ilt_eq] at h1; simpa using h1
    rw [show decide (0 ≤ cel o i) = true by simpa using h1']
    simp only [Bool.true_and]
    cases h2 : ile (n : Int) (cel o i) with
    | true =>
      have h2' : (n : Int) ≤ cel o i := by rw [ile_eq] at h2; simpa using h2
      refine ⟨fun h => ?_, fun _ => bBig hA h1 h2⟩
      have : decide (cel o i < (n : Int)) = false := by simp; omega
      rw [this] at h; simp at h
    | false =>
      have h2' : cel o i < (n : Int) := by rw [ile_eq] at h2; simpa using h2
      rw [show decide (cel o i < (n : Int)) = true by simpa using h2']
      simp only [Bool.true_and]
      have h3 : InV (cel o i) n := ⟨h1', h2'⟩
      have h4 : ∀ b, seen o i (cel o i).toNat = b → R2 o q n (seen o i) (cel o i) b := fun b hb => by
        have := rd_bls (h := H o q n (seen o i)) (b := 2) (n := n) (v := (cel o i).toNat) (f := seen o i) (w := true) rfl (by omega)
        rw [hb] at this; exact this
      cases hs : seen o i (cel o i).toNat with
      | true => exact ⟨fun h => by simp at h, fun _ => bSeen hA h1 h2 h3 (h4 _ hs)⟩
      | false =>
        simp only [Bool.not_false, Bool.true_and]
        cases hv : (pmAt q (4 * i)).valid with
        | false => exact ⟨fun h => by simp at h, fun _ => bInv hA h1 h2 h3 (h4 _ hs) hp (v6 hv)⟩
        | true =>
          refine ⟨fun _ => ?_, fun h => by simp at h⟩
          rw [hw]
          refine bGood hA h1 h2 h3 (h4 _ hs) hp (v6 hv) ?_
          unfold W
          rw [wr_bls (b := 2) (n := n) (f := seen o i) rfl (by omega), seen_succ h1']
          rfl

theorem loop_ok {o q : List Int} {n : Nat} (hn : n ≤ 1000) (ho : o.length = n) (hq : q.length = 4 * n) :
    (ordOk n o q = true → (obs Tryz.prog TY none ([], true) 62).loop 2 (fb Tryz.f26 0) (eT n 0) (H o q n (fun _ => false)) .normal [] (H o q n (seen o n))) ∧
    (ordOk n o q = false → ∃ g, (obs Tryz.prog TY none ([], true) 62).loop 2 (fb Tryz.f26 0) (eT n 0) (H o q n (fun _ => false)) .ret eF (H o q n g)) := by
  have hfb : fb Tryz.f26 0 = .block 0 (.loop (lb Tryz.f26 0)) := by kernel_rfl
  refine ⟨fun h => ?_, fun h => ?_⟩
  · have hall : ∀ i, i < n → okAt n o q i = true := fun i hi => List.all_eq_true.1 h i (List.mem_range.2 hi)
    refine comes_loop hfb rfl (fun i => eT n i) (fun i => H o q n (seen o i)) (fun i => i ≤ n) (fun i => n - i) 0 (by omega) rfl (by rw [seen_zero]) ?_
    intro i hi
    by_cases h4 : i < n
    · exact .inl ⟨i + 1, by omega, by omega, (step hn ho hq h4).1 (hall i h4)⟩
    · have : i = n := by omega
      subst this
      exact .inr (.inl ⟨rfl, bEnd (by rw [ilt_eq]; simp)⟩)
  · obtain ⟨j, hj, hbad⟩ := RC.all_range_not h
    obtain ⟨k, ⟨hk, hkb⟩, hmin⟩ := least_of (fun i => i < n ∧ okAt n o q i = false) ⟨j, hj, hbad⟩
    have hgood : ∀ i, i < k → okAt n o q i = true := by
      intro i hi
      cases hc : okAt n o q i with
      | true => rfl
      | false => have := hmin i ⟨by omega, hc⟩; omega
    refine ⟨seen o k, comes_loop hfb rfl (fun i => eT n i) (fun i => H o q n (seen o i)) (fun i => i ≤ k) (fun i => n - i) 0 (by omega) rfl (by rw [seen_zero]) ?_⟩
    intro i hi
    by_cases hik : i = k
    · subst hik
      exact .inr (.inr ⟨rfl, (step hn ho hq hk).2 hkb⟩)
    · exact .inl ⟨i + 1, by omega, by omega, (step hn ho hq (by omega)).1 (hgood i (by omega))⟩
def Ha (o q : List Int) : Heap := [some ⟨ints o, false⟩, some ⟨ints q, false⟩]
def MkP (o q : List Int) (n : Nat) : Prop := aMakeSlice TY 70 (.int .i64 n) (.int .i64 n) (Ha o q) = some (.slice (some ⟨2, 0, none⟩) n 1, H o q n (fun _ => false))
end IQ

/-- The answer of IsOrder. -/
def isOrd (m k n : Nat) (o q : List Int) : Bool := decide (m = n) && (decide (k = n) && ordOk n o q)
theorem isorder_sum {o q : List Int} {m k n : Nat} (hn : n ≤ 1000) (ho : o.length = m) (hq : q.length = 4 * k) : Sum Tryz.prog 26 [oS 0 m, pS 1 k, .int .i64 n] [some ⟨ints o, false⟩, some ⟨ints q, false⟩] fun out _ => out = .ret (.bool (isOrd m k n o q)) := by
  unfold isOrd
  by_cases h1 : m = n
  · by_cases h2 : k = n
    · rw [h1] at ho ⊢
      rw [h2] at hq ⊢
      rw [show decide (n = n) = true by simp]
      simp only [Bool.true_and]
      have mk : IQ.MkP o q n := mk70 hn
      have a1 : ((n : Int) != (n : Int)) = false := by simp
      cases hc : ordOk n o q with
      | true =>
        exact tFun_sum (S := { dir := dd [((1, 5), knowD false), ((3, 1), (none, .op fun _ _ => (.slice (some ⟨2, 0, none⟩) n 1, IQ.H o q n (fun _ => false))))], know := kk [(18, false)], loop := loops [(0, ([0, 1, 2, 7, 8], fun _ _ => (.normal, [], IQ.H o q n (seen o n))))] }) (k := 60) TY_ok mixed fn26_ok
          (A := (((n : Int) != (n : Int)) = false) ∧ (((n : Int) != (n : Int)) = false) ∧ IQ.MkP o q n ∧ (obs Tryz.prog TY none ([], true) 62).loop 2 (fb Tryz.f26 0) (IQ.eT n 0) (IQ.H o q n (fun _ => false)) .normal [] (IQ.H o q n (seen o n)) ∧ AOut.ret (.bool true) = .ret (.bool true)) ⟨a1, a1, mk, (IQ.loop_ok hn ho hq).1 hc, rfl⟩ (by kernel_rfl)
      | false =>
        obtain ⟨g, hg⟩ := (IQ.loop_ok hn ho hq).2 hc
        exact tFun_sum (S := { dir := dd [((1, 5), knowD false), ((3, 1), (none, .op fun _ _ => (.slice (some ⟨2, 0, none⟩) n 1, IQ.H o q n (fun _ => false))))], know := kk [(18, false)], loop := loops [(0, ([0, 1, 2, 7, 8], fun _ _ => (.ret, IQ.eF, IQ.H o q n g)))] }) (k := 60) TY_ok mixed fn26_ok
          (A := (((n : Int) != (n : Int)) = false) ∧ (((n : Int) != (n : Int)) = false) ∧ IQ.MkP o q n ∧ (obs Tryz.prog TY none ([], true) 62).loop 2 (fb Tryz.f26 0) (IQ.eT n 0) (IQ.H o q n (fun _ => false)) .ret IQ.eF (IQ.H o q n g) ∧ AOut.ret (.bool false) = .ret (.bool false)) ⟨a1, a1, mk, hg, rfl⟩ (by kernel_rfl)
    · rw [show decide (k = n) = false by simpa using h2]
      simp only [Bool.false_and, Bool.and_false]
      exact tFun_sum (S := { dir := dd [((1, 5), knowD false)], know := kk [(18, true)], loop := noloop }) (k := 60) TY_ok mixed fn26_ok
        (A := (((m : Int) != (n : Int)) = false) ∧ (((k : Int) != (n : Int)) = true) ∧ AOut.ret (.bool false) = .ret (.bool false)) ⟨by simp; omega, by simp; omega, rfl⟩ (by kernel_rfl)
  · rw [show decide (m = n) = false by simpa using h1]
    simp only [Bool.false_and]
    exact tFun_sum (S := { dir := dd [((1, 5), knowD true)], know := kk [], loop := noloop }) (k := 60) TY_ok mixed fn26_ok
      (A := (((m : Int) != (n : Int)) = true) ∧ AOut.ret (.bool false) = .ret (.bool false)) ⟨by simp; omega, rfl⟩ (by kernel_rfl)
end Go.Ab
