/- The function matches of the specification answers. Conditions: none beyond the given model and program. -/
import Derived.Test.YtnimgapjllhccaaGreatDoorMa
import Derived.Test.YtnimgapjllhccaaGreatDoorMp
namespace Go.Ab
open Go.Proofs

def mH (x y : List Int) (n : Nat) (p : Pm) (T : Nat → Int) (B : Nat → Pm) (g : Nat → Bool) (q : List Int) : Heap :=
  [some ⟨ints x, false⟩, some ⟨ints y, false⟩, some ⟨[gS 0 n], true⟩, some ⟨[gS 1 n], true⟩, some ⟨pmL p, true⟩, some ⟨ints (inl n T), true⟩, some ⟨ints (pms n B), true⟩, some ⟨bls n g, true⟩, some ⟨ints q, true⟩]
theorem mH_closed (x y : List Int) (n : Nat) (p : Pm) (T : Nat → Int) (B : Nat → Pm) (g : Nat → Bool) (q : List Int) : closedH 9 (mH x y n p T B g q) :=
  closedH_cons (subL_plain _ _ (ints_plain x)) (closedH_cons (subL_plain _ _ (ints_plain y)) (closedH_cons (belowL_sub _ rfl) (closedH_cons (belowL_sub _ rfl) (closedH_cons (subL_plain _ _ rfl) (closedH_cons (subL_plain _ _ (ints_plain _)) (closedH_cons (subL_plain _ _ (ints_plain _)) (closedH_cons (subL_plain _ _ (bls_plain n g)) (closedH_cons (subL_plain _ _ (ints_plain q)) closedH_nil))))))))
def qB (p : Pm) : Option Blk := some ⟨pmL p, true⟩
def R13 (x y : List Int) (n : Nat) (p : Pm) (T : Nat → Int) (B : Nat → Pm) (g : Nat → Bool) (q : List Int) (e : Heap) : Heap :=
  [some ⟨ints x, false⟩, some ⟨ints y, false⟩, some ⟨[gS 0 n], true⟩, some ⟨[gS 1 n], true⟩, some ⟨pmL p, true⟩, some ⟨ints (inl n T), true⟩, some ⟨ints (pms n B), true⟩, some ⟨bls n g, true⟩, none] ++ e ++ [some ⟨ints q, true⟩]
theorem pick13 (x y : List Int) (n : Nat) (p : Pm) (T : Nat → Int) (B : Nat → Pm) (g : Nat → Bool) (q : List Int) {e : Heap} {b : Nat} (hb : hblk (R13 x y n p T B g q e) b = some ⟨ints q, true⟩) : PickB ([0, 1, 2, 3, 4, 5, 6, 7, b].map some) (R13 x y n p T B g q e) [0, 1, 2, 3, 4, 5, 6, 7, b] (mH x y n p T B g q) :=
  ⟨⟨_, rfl, subL_plain _ _ (ints_plain x), id⟩, ⟨_, rfl, subL_plain _ _ (ints_plain y), id⟩, ⟨_, rfl, ⟨_, _, rfl, sub_gS rfl, rfl⟩, id⟩, ⟨_, rfl, ⟨_, _, rfl, sub_gS rfl, rfl⟩, id⟩, ⟨_, rfl, subL_plain _ _ rfl, id⟩, ⟨_, rfl, subL_plain _ _ (ints_plain _), id⟩, ⟨_, rfl, subL_plain _ _ (ints_plain _), id⟩, ⟨_, rfl, subL_plain _ _ (bls_plain n g), id⟩, ⟨_, hb, subL_plain _ _ (ints_plain q), id⟩, trivial⟩

namespace MB
def pf : List FuncId := [27, 28]
def sc (d : List ((Nat × Nat) × (Option Bool × Td))) (k : List (Nat × Bool)) : Ts := { dir := dd d, know := kk k, loop := noloop, pf := pf }
def eF (n m i : Nat) (s f : Int) : List (Nat × Value) := [(5, pt 2), (6, pt 3), (11, oS 5 n), (12, pS 6 n), (14, oS 7 n), (15, oS 8 m), (16, it i), (17, it s), (18, it f)]
def eFm (n m i b : Nat) (s f : Int) : List (Nat × Value) := [(5, pt 2), (6, pt 3), (11, oS 5 n), (12, pS 6 n), (14, oS 7 n), (15, oS b m), (16, it i), (17, it s), (18, it f)]
def tF : List Nat := [5, 6, 11, 12, 14, 15, 16, 17, 18]
def eG (n m i : Nat) : List (Nat × Value) := [(5, pt 2), (6, pt 3), (11, oS 5 n), (12, pS 6 n), (14, oS 7 n), (15, oS 8 m), (16, it i)]
def tG : List Nat := [5, 6, 11, 12, 14, 15, 16]
def eX : List (Nat × Value) := [(10, .bool false)]
theorem ok4 : codeOkP pf 164 (lb Tryz.f52 4) = true := by kernel_rfl
theorem ok2 : codeOkP pf 164 (lb Tryz.f52 2) = true := by kernel_rfl
theorem ok0 : codeOkP pf 164 (lb Tryz.f52 0) = true := by kernel_rfl
def Ra (h : Heap) (s : Int) (f : Nat) (a : Fc) : Prop := readCells h ⟨0, 0 + s.toNat * 20 + f * 5, none⟩ 5 = some a.cells
def Rb (h : Heap) (w e : Int) (b : Fc) : Prop := readCells h ⟨1, 0 + w.toNat * 20 + e.toNat * 5, none⟩ 5 = some b.cells
def Re (h : Heap) (s : Int) (f : Nat) (e : Int) : Prop := readCells h ⟨6, 0 + s.toNat * 4 + f * 1, none⟩ 1 = some [.int .i64 e]
def Rp (h : Heap) (s : Int) (p : Pm) : Prop := readCells h ⟨6, 0 + s.toNat * 4, none⟩ 4 = some (pmL p)
def Rk (h : Heap) (u : Int) (k : Bool) : Prop := readCells h ⟨7, 0 + u.toNat * 1, none⟩ 1 = some [.bool k]
def Wp (h : Heap) (u : Int) (p : Pm) (h' : Heap) : Prop := writeCells h ⟨6, 0 + u.toNat * 4, none⟩ (pmL p) = some h'
def Wk (h : Heap) (u : Int) (h' : Heap) : Prop := writeCells h ⟨7, 0 + u.toNat * 1, none⟩ [.bool true] = some h'
def Ap (m c : Nat) (h : Heap) (r : Value) (h' : Heap) : Prop := aAppend TY 2 36 36 (oS 8 m) (oS c 1) h = some (r, h')
abbrev IvP (p : Pm) : Prop := Plain Tryz.prog 28 [pmv p] (pmv (inverseP p))
abbrev CpP (p q r : Pm) : Prop := Plain Tryz.prog 27 [pmv p, pmv q] (pmv r)

section
variable {x y : List Int} {n m i f : Nat} {p q c1 c2 r : Pm} {T : Nat → Int} {B : Nat → Pm} {g : Nat → Bool} {l : List Int} {s w e c : Int} {a b : Fc} {X Y : Prop}
abbrev O1 (x y : List Int) (n f : Nat) (p : Pm) (T : Nat → Int) (B : Nat → Pm) (g : Nat → Bool) (l : List Int) (s w e : Int) (a b : Fc) (X : Prop) : Prop :=
  (ilt (f : Int) 4 = true) ∧ InI s n ∧ InN f 4 ∧ Ra (mH x y n p T B g l) s f a ∧ InI s n ∧ RdO (mH x y n p T B g l ++ [zB a]) 5 s w ∧ InI s n ∧ InN f 4 ∧ Re (mH x y n p T B g l ++ [zB a]) s f e ∧ InI w n ∧ InI e 4 ∧ Rb (mH x y n p T B g l ++ [zB a]) w e b ∧ X
def d1 (w e : Int) (a b : Fc) : List ((Nat × Nat) × (Option Bool × Td)) := [((19, 4), ixD), ((19, 5), ixD), ((19, 6), ldF a), ((20, 4), ixD), ((20, 5), ldC [.int .i64 w]), ((20, 9), ixD), ((20, 10), ixD), ((20, 11), ldC [.int .i64 e]), ((20, 12), ixD), ((20, 13), ixD), ((20, 14), ldF b)]
abbrev O2 (x y : List Int) (n : Nat) (p : Pm) (T : Nat → Int) (B : Nat → Pm) (g : Nat → Bool) (l : List Int) (s c : Int) (a b : Fc) (q c1 c2 : Pm) (X : Prop) : Prop :=
  (ilt a.u 0 = false) ∧ (ilt b.u 0 = false) ∧ InI s n ∧ Rp (mH x y n p T B g l ++ [zB a, zB b]) s q ∧ IvP a.p ∧ CpP q (inverseP a.p) c1 ∧ CpP b.p c1 c2 ∧ InI a.u n ∧ RdO (mH x y n p T B g l ++ [zB a, zB b, qB c2]) 5 a.u c ∧ X
def d2 (c : Int) (a b : Fc) (q c1 c2 : Pm) : List ((Nat × Nat) × (Option Bool × Td)) := [((21, 4), knowD false), ((24, 4), ixD), ((24, 5), ldC (pmL q)), ((24, 8), plD (pmv (inverseP a.p))), ((24, 9), plD (pmv c1)), ((24, 10), plD (pmv c2)), ((25, 3), ixD), ((25, 4), ldC [.int .i64 c])]
abbrev CF (x y : List Int) (n m i f : Nat) (p : Pm) (T : Nat → Int) (B : Nat → Pm) (g : Nat → Bool) (l : List Int) (s : Int) (ax : AX) (r : List (Nat × Value)) (h' : Heap) : Prop := Comes none ([], true) Tryz.prog 164 2 (lb Tryz.f52 4) (eF n m i s f) (mH x y n p T B g l) ax r h'

theorem fGood (h : O1 x y n f p T B g l s w e a b X) (h1 : ilt a.u 0 = true) (h2 : (a.u != b.u) = false) : CF x y n m i f p T B g l s .normal (eF n m i s (IntKind.i64.wrap ((f : Int) + 1))) (mH x y n p T B g l) :=
  comes_run (S := sc (d1 w e a b ++ [((21, 4), knowD true)]) [(67, true), (104, false)]) (k := 60) (ts := tF) (junk := [zB a, zB b]) (h1 := (mH x y n p T B g l)) (l0 := (eF n m i s (IntKind.i64.wrap ((f : Int) + 1))))
    (A := O1 x y n f p T B g l s w e a b ((ilt a.u 0 = true) ∧ ((a.u != b.u) = false) ∧ Dn .normal (eF n m i s (IntKind.i64.wrap ((f : Int) + 1))) ((mH x y n p T B g l) ++ [zB a, zB b]))) TY_ok mixed ok4 (Nat.le_of_ble_eq_true rfl) (mH_closed x y n p T B g l) rfl ⟨h.1, h.2.1, h.2.2.1, h.2.2.2.1, h.2.2.2.2.1, h.2.2.2.2.2.1, h.2.2.2.2.2.2.1, h.2.2.2.2.2.2.2.1, h.2.2.2.2.2.2.2.2.1, h.2.2.2.2.2.2.2.2.2.1, h.2.2.2.2.2.2.2.2.2.2.1, h.2.2.2.2.2.2.2.2.2.2.2.1, h1, h2, dn _ _ _⟩ (by kernel_rfl)

theorem fBad (h : O1 x y n f p T B g l s w e a b X) (h1 : ilt a.u 0 = true) (h2 : (a.u != b.u) = true) : CF x y n m i f p T B g l s .ret eX (mH x y n p T B g l) :=
  comes_run (S := sc (d1 w e a b ++ [((21, 4), knowD true)]) [(67, true), (104, true)]) (k := 60) (ts := [10]) (junk := [zB a, zB b]) (h1 := (mH x y n p T B g l)) (l0 := eX)
    (A := O1 x y n f p T B g l s w e a b ((ilt a.u 0 = true) ∧ ((a.u != b.u) = true) ∧ Dn .ret eX ((mH x y n p T B g l) ++ [zB a, zB b]))) TY_ok mixed ok4 (Nat.le_of_ble_eq_true rfl) (mH_closed x y n p T B g l) rfl ⟨h.1, h.2.1, h.2.2.1, h.2.2.2.1, h.2.2.2.2.1, h.2.2.2.2.2.1, h.2.2.2.2.2.2.1, h.2.2.2.2.2.2.2.1, h.2.2.2.2.2.2.2.2.1, h.2.2.2.2.2.2.2.2.2.1, h.2.2.2.2.2.2.2.2.2.2.1, h.2.2.2.2.2.2.2.2.2.2.2.1, h1, h2, dn _ _ _⟩ (by kernel_rfl)

theorem gBad (h : O1 x y n f p T B g l s w e a b X) (h1 : ilt a.u 0 = false) (h2 : ilt b.u 0 = true) (h3 : (a.u != b.u) = true) : CF x y n m i f p T B g l s .ret eX (mH x y n p T B g l) :=
  comes_run (S := sc (d1 w e a b ++ [((21, 4), knowD false)]) [(67, true), (99, true), (104, true)]) (k := 60) (ts := [10]) (junk := [zB a, zB b]) (h1 := (mH x y n p T B g l)) (l0 := eX)
    (A := O1 x y n f p T B g l s w e a b ((ilt a.u 0 = false) ∧ (ilt b.u 0 = true) ∧ ((a.u != b.u) = true) ∧ Dn .ret eX ((mH x y n p T B g l) ++ [zB a, zB b]))) TY_ok mixed ok4 (Nat.le_of_ble_eq_true rfl) (mH_closed x y n p T B g l) rfl ⟨h.1, h.2.1, h.2.2.1, h.2.2.2.1, h.2.2.2.2.1, h.2.2.2.2.2.1, h.2.2.2.2.2.2.1, h.2.2.2.2.2.2.2.1, h.2.2.2.2.2.2.2.2.1, h.2.2.2.2.2.2.2.2.2.1, h.2.2.2.2.2.2.2.2.2.2.1, h.2.2.2.2.2.2.2.2.2.2.2.1, h1, h2, h3, dn _ _ _⟩ (by kernel_rfl)

theorem nBad (h : O1 x y n f p T B g l s w e a b X) (k : O2 x y n p T B g l s c a b q c1 c2 Y) (h1 : ilt c 0 = true) (h2 : InI b.u n) (h3 : Rk ((mH x y n p T B g l) ++ [zB a, zB b, qB c2]) b.u true) : CF x y n m i f p T B g l s .ret eX (mH x y n p T B g l) :=
  comes_run (S := sc (d1 w e a b ++ d2 c a b q c1 c2 ++ [((26, 3), ixD), ((26, 4), ldC [.bool true])]) [(67, true), (99, false), (121, true)]) (k := 60) (ts := [10]) (junk := [zB a, zB b, qB c2]) (h1 := (mH x y n p T B g l)) (l0 := eX)
    (A := O1 x y n f p T B g l s w e a b (O2 x y n p T B g l s c a b q c1 c2 ((ilt c 0 = true) ∧ (InI b.u n) ∧ (Rk ((mH x y n p T B g l) ++ [zB a, zB b, qB c2]) b.u true) ∧ Dn .ret eX ((mH x y n p T B g l) ++ [zB a, zB b, qB c2])))) TY_ok mixed ok4 (Nat.le_of_ble_eq_true rfl) (mH_closed x y n p T B g l) rfl ⟨h.1, h.2.1, h.2.2.1, h.2.2.2.1, h.2.2.2.2.1, h.2.2.2.2.2.1, h.2.2.2.2.2.2.1, h.2.2.2.2.2.2.2.1, h.2.2.2.2.2.2.2.2.1, h.2.2.2.2.2.2.2.2.2.1, h.2.2.2.2.2.2.2.2.2.2.1, h.2.2.2.2.2.2.2.2.2.2.2.1, k.1, k.2.1, k.2.2.1, k.2.2.2.1, k.2.2.2.2.1, k.2.2.2.2.2.1, k.2.2.2.2.2.2.1, k.2.2.2.2.2.2.2.1, k.2.2.2.2.2.2.2.2.1, h1, h2, h3, dn _ _ _⟩ (by kernel_rfl)

theorem oBad1 (h : O1 x y n f p T B g l s w e a b X) (k : O2 x y n p T B g l s c a b q c1 c2 Y) (h1 : ilt c 0 = false) (h2 : InI a.u n) (h3 : RdO ((mH x y n p T B g l) ++ [zB a, zB b, qB c2]) 5 a.u c) (h4 : (c != b.u) = true) : CF x y n m i f p T B g l s .ret eX (mH x y n p T B g l) :=
  comes_run (S := sc (d1 w e a b ++ d2 c a b q c1 c2 ++ [((32, 3), ixD), ((32, 4), ldC [.int .i64 c]), ((32, 9), knowD true)]) [(67, true), (99, false), (121, false)]) (k := 60) (ts := [10]) (junk := [zB a, zB b, qB c2]) (h1 := (mH x y n p T B g l)) (l0 := eX)
    (A := O1 x y n f p T B g l s w e a b (O2 x y n p T B g l s c a b q c1 c2 ((ilt c 0 = false) ∧ (InI a.u n) ∧ (RdO ((mH x y n p T B g l) ++ [zB a, zB b, qB c2]) 5 a.u c) ∧ ((c != b.u) = true) ∧ Dn .ret eX ((mH x y n p T B g l) ++ [zB a, zB b, qB c2])))) TY_ok mixed ok4 (Nat.le_of_ble_eq_true rfl) (mH_closed x y n p T B g l) rfl ⟨h.1, h.2.1, h.2.2.1, h.2.2.2.1, h.2.2.2.2.1, h.2.2.2.2.2.1, h.2.2.2.2.2.2.1, h.2.2.2.2.2.2.2.1, h.2.2.2.2.2.2.2.2.1, h.2.2.2.2.2.2.2.2.2.1, h.2.2.2.2.2.2.2.2.2.2.1, h.2.2.2.2.2.2.2.2.2.2.2.1, k.1, k.2.1, k.2.2.1, k.2.2.2.1, k.2.2.2.2.1, k.2.2.2.2.2.1, k.2.2.2.2.2.2.1, k.2.2.2.2.2.2.2.1, k.2.2.2.2.2.2.2.2.1, h1, h2, h3, h4, dn _ _ _⟩ (by kernel_rfl)

theorem oGood (h : O1 x y n f p T B g l s w e a b X) (k : O2 x y n p T B g l s c a b q c1 c2 Y) (h1 : ilt c 0 = false) (h2 : InI a.u n) (h3 : RdO ((mH x y n p T B g l) ++ [zB a, zB b, qB c2]) 5 a.u c) (h4 : (c != b.u) = false) (h5 : InI a.u n) (h6 : Rp ((mH x y n p T B g l) ++ [zB a, zB b, qB c2]) a.u r) (h7 : (!(eqP r c2)) = false) : CF x y n m i f p T B g l s .normal (eF n m i s (IntKind.i64.wrap ((f : Int) + 1))) (mH x y n p T B g l) :=
  comes_run (S := sc (d1 w e a b ++ d2 c a b q c1 c2 ++ [((32, 3), ixD), ((32, 4), ldC [.int .i64 c]), ((32, 9), knowD false), ((32, 12), ixD), ((32, 13), ldC (pmL r))]) [(67, true), (99, false), (121, false), (163, false)]) (k := 60) (ts := tF) (junk := [zB a, zB b, qB c2]) (h1 := (mH x y n p T B g l)) (l0 := (eF n m i s (IntKind.i64.wrap ((f : Int) + 1))))
    (A := O1 x y n f p T B g l s w e a b (O2 x y n p T B g l s c a b q c1 c2 ((ilt c 0 = false) ∧ (InI a.u n) ∧ (RdO ((mH x y n p T B g l) ++ [zB a, zB b, qB c2]) 5 a.u c) ∧ ((c != b.u) = false) ∧ (InI a.u n) ∧ (Rp ((mH x y n p T B g l) ++ [zB a, zB b, qB c2]) a.u r) ∧ ((!(eqP r c2)) = false) ∧ Dn .normal (eF n m i s (IntKind.i64.wrap ((f : Int) + 1))) ((mH x y n p T B g l) ++ [zB a, zB b, qB c2])))) TY_ok mixed ok4 (Nat.le_of_ble_eq_true rfl) (mH_closed x y n p T B g l) rfl ⟨h.1, h.2.1, h.2.2.1, h.2.2.2.1, h.2.2.2.2.1, h.2.2.2.2.2.1, h.2.2.2.2.2.2.1, h.2.2.2.2.2.2.2.1, h.2.2.2.2.2.2.2.2.1, h.2.2.2.2.2.2.2.2.2.1, h.2.2.2.2.2.2.2.2.2.2.1, h.2.2.2.2.2.2.2.2.2.2.2.1, k.1, k.2.1, k.2.2.1, k.2.2.2.1, k.2.2.2.2.1, k.2.2.2.2.2.1, k.2.2.2.2.2.2.1, k.2.2.2.2.2.2.2.1, k.2.2.2.2.2.2.2.2.1, h1, h2, h3, h4, h5, h6, h7, dn _ _ _⟩ (by kernel_rfl)

theorem oBad2 (h : O1 x y n f p T B g l s w e a b X) (k : O2 x y n p T B g l s c a b q c1 c2 Y) (h1 : ilt c 0 = false) (h2 : InI a.u n) (h3 : RdO ((mH x y n p T B g l) ++ [zB a, zB b, qB c2]) 5 a.u c) (h4 : (c != b.u) = false) (h5 : InI a.u n) (h6 : Rp ((mH x y n p T B g l) ++ [zB a, zB b, qB c2]) a.u r) (h7 : (!(eqP r c2)) = true) : CF x y n m i f p T B g l s .ret eX (mH x y n p T B g l) :=
  comes_run (S := sc (d1 w e a b ++ d2 c a b q c1 c2 ++ [((32, 3), ixD), ((32, 4), ldC [.int .i64 c]), ((32, 9), knowD false), ((32, 12), ixD), ((32, 13), ldC (pmL r))]) [(67, true), (99, false), (121, false), (163, true)]) (k := 60) (ts := [10]) (junk := [zB a, zB b, qB c2]) (h1 := (mH x y n p T B g l)) (l0 := eX)
    (A := O1 x y n f p T B g l s w e a b (O2 x y n p T B g l s c a b q c1 c2 ((ilt c 0 = false) ∧ (InI a.u n) ∧ (RdO ((mH x y n p T B g l) ++ [zB a, zB b, qB c2]) 5 a.u c) ∧ ((c != b.u) = false) ∧ (InI a.u n) ∧ (Rp ((mH x y n p T B g l) ++ [zB a, zB b, qB c2]) a.u r) ∧ ((!(eqP r c2)) = true) ∧ Dn .ret eX ((mH x y n p T B g l) ++ [zB a, zB b, qB c2])))) TY_ok mixed ok4 (Nat.le_of_ble_eq_true rfl) (mH_closed x y n p T B g l) rfl ⟨h.1, h.2.1, h.2.2.1, h.2.2.2.1, h.2.2.2.2.1, h.2.2.2.2.2.1, h.2.2.2.2.2.2.1, h.2.2.2.2.2.2.2.1, h.2.2.2.2.2.2.2.2.1, h.2.2.2.2.2.2.2.2.2.1, h.2.2.2.2.2.2.2.2.2.2.1, h.2.2.2.2.2.2.2.2.2.2.2.1, k.1, k.2.1, k.2.2.1, k.2.2.2.1, k.2.2.2.2.1, k.2.2.2.2.2.1, k.2.2.2.2.2.2.1, k.2.2.2.2.2.2.2.1, k.2.2.2.2.2.2.2.2.1, h1, h2, h3, h4, h5, h6, h7, dn _ _ _⟩ (by kernel_rfl)

theorem nGood {T2 : Nat → Int} {B2 : Nat → Pm} {g2 : Nat → Bool} {l2 : List Int} (h : O1 x y n f p T B g l s w e a b X) (k : O2 x y n p T B g l s c a b q c1 c2 Y) (h1 : ilt c 0 = true) (h2 : InI b.u n) (h3 : Rk ((mH x y n p T B g l) ++ [zB a, zB b, qB c2]) b.u false) (h4 : InI a.u n) (h5 : WrO ((mH x y n p T B g l) ++ [zB a, zB b, qB c2]) 5 a.u b.u (mH x y n p T2 B g l ++ [zB a, zB b, qB c2])) (h6 : Wp (mH x y n p T2 B g l ++ [zB a, zB b, qB c2]) a.u c2 (mH x y n p T2 B2 g l ++ [zB a, zB b, qB c2])) (h7 : Wk (mH x y n p T2 B2 g l ++ [zB a, zB b, qB c2]) b.u (mH x y n p T2 B2 g2 l ++ [zB a, zB b, qB c2])) (h8 : Ap m 12 (mH x y n p T2 B2 g2 l ++ [zB a, zB b, qB c2, uB a.u]) (oS 13 (m + 1)) (R13 x y n p T2 B2 g2 l2 [zB a, zB b, qB c2, uB a.u])) : CF x y n m i f p T B g l s .normal (eF n (m + 1) i s (IntKind.i64.wrap ((f : Int) + 1))) (mH x y n p T2 B2 g2 l2) :=
  comes_pick (S := sc (d1 w e a b ++ d2 c a b q c1 c2 ++ [((26, 3), ixD), ((26, 4), ldC [.bool false]), ((28, 5), ixD), ((28, 6), stD (mH x y n p T2 B g l ++ [zB a, zB b, qB c2])), ((29, 4), ixD), ((29, 5), stD (mH x y n p T2 B2 g l ++ [zB a, zB b, qB c2])), ((30, 3), ixD), ((30, 4), stD (mH x y n p T2 B2 g2 l ++ [zB a, zB b, qB c2])), ((31, 4), apD (oS 13 (m + 1)) (R13 x y n p T2 B2 g2 l2 [zB a, zB b, qB c2, uB a.u]))]) [(67, true), (99, false), (121, true)]) (k := 60) (ts := tF) (l0 := (eFm n (m + 1) i 13 s (IntKind.i64.wrap ((f : Int) + 1)))) (h0 := (R13 x y n p T2 B2 g2 l2 [zB a, zB b, qB c2, uB a.u]))
    (A := O1 x y n f p T B g l s w e a b (O2 x y n p T B g l s c a b q c1 c2 ((ilt c 0 = true) ∧ (InI b.u n) ∧ (Rk ((mH x y n p T B g l) ++ [zB a, zB b, qB c2]) b.u false) ∧ (InI a.u n) ∧ (WrO ((mH x y n p T B g l) ++ [zB a, zB b, qB c2]) 5 a.u b.u (mH x y n p T2 B g l ++ [zB a, zB b, qB c2])) ∧ (InI a.u n) ∧ (Wp (mH x y n p T2 B g l ++ [zB a, zB b, qB c2]) a.u c2 (mH x y n p T2 B2 g l ++ [zB a, zB b, qB c2])) ∧ (InI b.u n) ∧ (Wk (mH x y n p T2 B2 g l ++ [zB a, zB b, qB c2]) b.u (mH x y n p T2 B2 g2 l ++ [zB a, zB b, qB c2])) ∧ (Ap m 12 (mH x y n p T2 B2 g2 l ++ [zB a, zB b, qB c2, uB a.u]) (oS 13 (m + 1)) (R13 x y n p T2 B2 g2 l2 [zB a, zB b, qB c2, uB a.u])) ∧ Dn .normal (eFm n (m + 1) i 13 s (IntKind.i64.wrap ((f : Int) + 1))) (R13 x y n p T2 B2 g2 l2 [zB a, zB b, qB c2, uB a.u])))) TY_ok mixed ok4
    (fun e he => Ref.ord (ks := [0, 1, 2, 3, 4, 5, 6, 7, 13]) (by kernel_rfl) (pick13 x y n p T2 B2 g2 l2 (by kernel_rfl)) (by kernel_rfl) (by kernel_rfl) he)
    ⟨h.1, h.2.1, h.2.2.1, h.2.2.2.1, h.2.2.2.2.1, h.2.2.2.2.2.1, h.2.2.2.2.2.2.1, h.2.2.2.2.2.2.2.1, h.2.2.2.2.2.2.2.2.1, h.2.2.2.2.2.2.2.2.2.1, h.2.2.2.2.2.2.2.2.2.2.1, h.2.2.2.2.2.2.2.2.2.2.2.1, k.1, k.2.1, k.2.2.1, k.2.2.2.1, k.2.2.2.2.1, k.2.2.2.2.2.1, k.2.2.2.2.2.2.1, k.2.2.2.2.2.2.2.1, k.2.2.2.2.2.2.2.2.1, h1, h2, h3, h4, h5, h4, h6, h2, h7, h8, dn _ _ _⟩ (by kernel_rfl)

theorem fEnd (h1 : ilt (f : Int) 4 = false) : CF x y n m i f p T B g l s (.exit 4) (eG n m i) (mH x y n p T B g l) :=
  comes_run (S := sc [] [(67, false)]) (k := 60) (ts := tG) (junk := []) (h1 := (mH x y n p T B g l)) (l0 := eG n m i) (A := (ilt (f : Int) 4 = false) ∧ Dn (.exit 4) (eG n m i) (mH x y n p T B g l)) TY_ok mixed ok4 (Nat.le_of_ble_eq_true rfl) (mH_closed x y n p T B g l) rfl ⟨h1, dn _ _ _⟩ (by kernel_rfl)
end
end MB
end Go.Ab

namespace Go.Ab
open Go.Proofs

theorem fn52_ok : Tryz.prog.funcs[52]? = some Tryz.f52 ∧ (Tryz.f52.name == "runtime.NumGoroutine") = false ∧ ∀ c, Tryz.f52.body = some c → codeOkP MB.pf Tryz.f52.ntmps c = true :=
  ⟨Tryz.func52, by kernel_rfl, fun c hc => by
    have h : Tryz.f52.body.map (codeOkP MB.pf Tryz.f52.ntmps) = some true := by kernel_rfl
    rw [hc] at h
    simpa using h⟩

namespace MB
section
variable {x y : List Int} {n t u i : Nat} {p : Pm} {s : MS}
abbrev sH (x y : List Int) (n : Nat) (p : Pm) (s : MS) : Heap := mH x y n p s.T s.B s.g s.q

theorem face (lx : x.length = 20 * n) (ly : y.length = 20 * n) (hx : chk n x = 0) (hy : chk n y = 0) (hn : n ≤ 1000) {f : Nat} (h : MI x y n t u p i f s) (hi : i < s.q.length) (hf : f < 4) :
    (∀ s', mF x y s (cel s.q i).toNat f = some s' → CF x y n s.q.length i f p s.T s.B s.g s.q (cel s.q i) .normal (eF n s'.q.length i (cel s.q i) ((f + 1 : Nat) : Int)) (sH x y n p s')) ∧
    (mF x y s (cel s.q i).toNat f = none → CF x y n s.q.length i f p s.T s.B s.g s.q (cel s.q i) .ret eX (sH x y n p s)) := by
  obtain ⟨q0, q1, q2⟩ := h.qin i hi
  have hv : (cel s.q i).toNat < n := by omega
  obtain ⟨l1, l2, _⟩ := h.lab _ hv q2
  have hsh := h.short
  have hr := at_range l2 (i := (f : Int)) (by omega) (by omega)
  have hfree := face_free hx hv hf
  have hbk := fun h0 => face_back hx hv hf h0
  have hoth := h.other hy hi hf
  have hw : IntKind.i64.wrap ((f : Int) + 1) = ((f + 1 : Nat) : Int) := wrap_succ (by omega)
  have hA : O1 x y n f p s.T s.B s.g s.q (cel s.q i) (s.T (cel s.q i).toNat) ((s.B (cel s.q i).toNat).at (f : Nat)) (fc x (cel s.q i).toNat f) (otherF y s (cel s.q i).toNat f) True := by
    refine ⟨by rw [ilt_eq]; simp; omega, ⟨q0, q1⟩, ⟨by omega, by omega⟩, ?_, ⟨q0, q1⟩, ?_, ⟨q0, q1⟩, ⟨by omega, by omega⟩, ?_, ⟨q2, l1⟩, ⟨hr.1, hr.2⟩, ?_, trivial⟩
    · have := rd_face (h := mH x y n p s.T s.B s.g s.q) (b := 0) (x := x) (o := 20 * (cel s.q i).toNat + 5 * f) (w := false) rfl (by omega)
      unfold Ra
      rw [show 0 + (cel s.q i).toNat * 20 + f * 5 = 20 * (cel s.q i).toNat + 5 * f by omega]
      exact this
    · have := rd_int (h := mH x y n p s.T s.B s.g s.q ++ [zB (fc x (cel s.q i).toNat f)]) (b := 5) (x := inl n s.T) (o := (cel s.q i).toNat) (w := true) rfl (by rw [inl_length]; exact hv)
      rw [cel_inl hv] at this
      exact this
    · have := rd_cell (h := mH x y n p s.T s.B s.g s.q ++ [zB (fc x (cel s.q i).toNat f)]) (b := 6) (x := pms n s.B) (o := 4 * (cel s.q i).toNat + f) (w := true) rfl (by rw [pms_length]; omega)
      rw [pms_cel hv hf] at this
      unfold Re
      rw [show 0 + (cel s.q i).toNat * 4 + f * 1 = 4 * (cel s.q i).toNat + f by omega]
      exact this
    · have := rd_face (h := mH x y n p s.T s.B s.g s.q ++ [zB (fc x (cel s.q i).toNat f)]) (b := 1) (x := y) (o := 20 * (s.T (cel s.q i).toNat).toNat + 5 * ((s.B (cel s.q i).toNat).at (f : Nat)).toNat) (w := false) rfl (by omega)
      unfold Rb
      rw [show 0 + (s.T (cel s.q i).toNat).toNat * 20 + ((s.B (cel s.q i).toNat).at (f : Nat)).toNat * 5 = 20 * (s.T (cel s.q i).toNat).toNat + 5 * ((s.B (cel s.q i).toNat).at (f : Nat)).toNat by omega]
      exact this
  unfold mF
  simp only
  generalize hav : fc x (cel s.q i).toNat f = a at *
  generalize hbv : otherF y s (cel s.q i).toNat f = b at *
  cases h1 : ilt a.u 0 with
  | true =>
    rw [if_pos (.inl rfl)]
    by_cases e : a.u = b.u
    · rw [if_pos e]
      refine ⟨fun s' hs => ?_, fun hh => by cases hh⟩
      cases hs
      rw [← hw]
      exact fGood hA h1 (by rw [e]; simp)
    · rw [if_neg e]
      exact ⟨fun s' hs => (by cases hs), fun _ => fBad hA h1 (by simpa using e)⟩
  | false =>
    have a0 := ilt_nonneg.1 h1
    cases h2 : ilt b.u 0 with
    | true =>
      have b0 := ilt_neg.1 h2
      rw [if_pos (.inr rfl), if_neg (by omega)]
      exact ⟨fun s' hs => (by cases hs), fun _ => gBad hA h1 h2 (by simp; omega)⟩
    | false =>
      have b0 := ilt_nonneg.1 h2
      obtain ⟨alt, av, _⟩ := hbk a0
      have hb := hoth.resolve_left (by omega)
      rw [if_neg (by rintro (h | h) <;> cases h)]
      have hin : InI a.u n := ⟨a0, alt⟩
      have hinb : InI b.u n := ⟨b0, hb.2.1⟩
      have rdT : ∀ (T : Nat → Int) (B : Nat → Pm) (g : Nat → Bool) (e : Heap), RdO (mH x y n p T B g s.q ++ e) 5 a.u (T a.u.toNat) := by
        intro T B g e
        have := rd_int (h := mH x y n p T B g s.q ++ e) (b := 5) (x := inl n T) (o := a.u.toNat) (w := true) rfl (by rw [inl_length]; omega)
        rw [cel_inl (by omega)] at this
        exact this
      have rdP : ∀ (v : Int) (e : Heap), 0 ≤ v → v < n → Rp (mH x y n p s.T s.B s.g s.q ++ e) v (s.B v.toNat) := by
        intro v e v0 v1
        have := rd_pm (h := mH x y n p s.T s.B s.g s.q ++ e) (b := 6) (x := pms n s.B) (i := v.toNat) (w := true) rfl (by rw [pms_length]; omega)
        rw [pms_at (by omega)] at this
        exact this
      have hK : O2 x y n p s.T s.B s.g s.q (cel s.q i) (s.T a.u.toNat) a b (s.B (cel s.q i).toNat) (composeP (s.B (cel s.q i).toNat) (inverseP a.p)) (wantP b.p (s.B (cel s.q i).toNat) a.p) True :=
        ⟨h1, h2, ⟨q0, q1⟩, rdP _ _ q0 q1, c10_2 av, c8_3 l2 (inverse_valid av), c8_3 hb.2.2 (compose_valid' l2 (inverse_valid av)), hin, rdT _ _ _ _, trivial⟩
      cases h3 : ilt (s.T a.u.toNat) 0 with
      | true =>
        rw [if_pos rfl]
        have rdG : Rk (mH x y n p s.T s.B s.g s.q ++ [zB a, zB b, qB (wantP b.p (s.B (cel s.q i).toNat) a.p)]) b.u (s.g b.u.toNat) :=
          rd_bls (b := 7) (w := true) rfl (by omega)
        cases h4 : s.g b.u.toNat with
        | true =>
          rw [if_pos rfl]
          rw [h4] at rdG
          exact ⟨fun s' hs => (by cases hs), fun _ => nBad hA hK h3 hinb rdG⟩
        | false =>
          rw [if_neg (by simp)]
          rw [h4] at rdG
          refine ⟨fun s' hs => ?_, fun hh => by cases hh⟩
          cases hs
          simp only [List.length_append, List.length_cons, List.length_nil, Nat.zero_add]
          rw [← hw]
          exact nGood hA hK h3 hinb rdG hin (wr_inl (b := 5) rfl (by omega)) (wr_pms (b := 6) rfl (by omega)) (wr_bls (b := 7) rfl (by omega))
            (app_own36 (b := 8) (c := 12) (w := true) rfl (Nat.le_of_ble_eq_true rfl) rfl rfl (by omega))
      | false =>
        rw [if_neg (by simp)]
        by_cases e1 : s.T a.u.toNat = b.u
        · have hne : (s.T a.u.toNat != b.u) = false := by rw [e1]; simp
          cases e2 : eqP (s.B a.u.toNat) (wantP b.p (s.B (cel s.q i).toNat) a.p) with
          | true =>
            rw [if_pos ⟨e1, rfl⟩]
            refine ⟨fun s' hs => ?_, fun hh => by cases hh⟩
            cases hs
            rw [← hw]
            exact oGood hA hK h3 hin (rdT _ _ _ _) hne hin (rdP _ _ a0 alt) (by rw [e2]; rfl)
          | false =>
            rw [if_neg (by rintro ⟨_, h⟩; cases h)]
            exact ⟨fun s' hs => (by cases hs), fun _ => oBad2 hA hK h3 hin (rdT _ _ _ _) hne hin (rdP _ _ a0 alt) (by rw [e2]; rfl)⟩
        · rw [if_neg (fun hh => e1 hh.1)]
          exact ⟨fun s' hs => (by cases hs), fun _ => oBad1 hA hK h3 hin (rdT _ _ _ _) (by simpa using e1)⟩

theorem mT_bad {v : Nat} : ∀ {m : Nat}, mT x y s v m = none → ∃ f s1, f < m ∧ mT x y s v f = some s1 ∧ mF x y s1 v f = none := by
  intro m
  induction m with
  | zero => intro h; simp [mT] at h
  | succ m ih =>
    intro h
    simp only [mT] at h
    cases hm : mT x y s v m with
    | none => obtain ⟨f, s1, h1, h2⟩ := ih hm; exact ⟨f, s1, by omega, h2⟩
    | some s1 => rw [hm, Option.bind_some] at h; exact ⟨m, s1, by omega, hm, h⟩
theorem mT_all {v : Nat} : ∀ {m f : Nat} {s2 : MS}, mT x y s v m = some s2 → f < m → ∃ s1 s3, mT x y s v f = some s1 ∧ mF x y s1 v f = some s3 ∧ mT x y s v (f + 1) = some s3 := by
  intro m
  induction m with
  | zero => intro f s2 _ h; omega
  | succ m ih =>
    intro f s2 h hf
    have h0 := h
    simp only [mT] at h
    obtain ⟨s1, h1, h2⟩ := Option.bind_eq_some_iff.1 h
    by_cases e : f = m
    · subst e; exact ⟨s1, s2, h1, h2, h0⟩
    · exact ih h1 (by omega)

abbrev gT (x y : List Int) (s : MS) (v f : Nat) : MS := (mT x y s v f).getD s
abbrev LF (x y : List Int) (n m i : Nat) (p : Pm) (s : MS) (v : Int) (ax : AX) (l : List (Nat × Value)) (s' : MS) : Prop := (obs Tryz.prog TY none ([], true) 164).loop 2 (fb Tryz.f52 4) (eF n m i v 0) (sH x y n p s) ax l (sH x y n p s')
theorem loopF (lx : x.length = 20 * n) (ly : y.length = 20 * n) (hx : chk n x = 0) (hy : chk n y = 0) (hn : n ≤ 1000) (h : MI x y n t u p i 0 s) (hi : i < s.q.length) :
    (∀ s', mT x y s (cel s.q i).toNat 4 = some s' → LF x y n s.q.length i p s (cel s.q i) .normal (eG n s'.q.length i) s') ∧ (mT x y s (cel s.q i).toNat 4 = none → ∃ s', LF x y n s.q.length i p s (cel s.q i) .ret eX s') := by
  have hfb : fb Tryz.f52 4 = .block 4 (.loop (lb Tryz.f52 4)) := by kernel_rfl
  have step : ∀ f s1 s3, f < 4 → mT x y s (cel s.q i).toNat f = some s1 → mF x y s1 (cel s.q i).toNat f = some s3 → CF x y n s1.q.length i f p s1.T s1.B s1.g s1.q (cel s.q i) .normal (eF n s3.q.length i (cel s.q i) ((f + 1 : Nat) : Int)) (sH x y n p s3) := by
    intro f s1 s3 hf h1 h3
    obtain ⟨a, b, c⟩ := h.tet hx hy hi f s1 (by omega) h1
    have := (face lx ly hx hy hn a (by omega) hf).1 s3
    rw [b] at this
    exact this h3
  refine ⟨fun s' hs => ?_, fun hs => ?_⟩
  · refine comes_loop hfb rfl (fun f : Nat => eF n (gT x y s (cel s.q i).toNat f).q.length i (cel s.q i) f) (fun f => sH x y n p (gT x y s (cel s.q i).toNat f)) (fun f => f ≤ 4) (fun f => 4 - f) 0 (by omega) rfl rfl ?_
    intro f hf
    by_cases h4 : f < 4
    · obtain ⟨s1, s3, h1, h2, h3⟩ := mT_all hs h4
      refine .inl ⟨f + 1, by omega, by omega, ?_⟩
      simp only [gT, h1, h3, Option.getD_some]
      exact step f s1 s3 h4 h1 h2
    · have : f = 4 := by omega
      subst this
      simp only [gT, hs, Option.getD_some]
      exact .inr (.inl ⟨by first | trivial | rfl, fEnd (by rfl)⟩)
  · obtain ⟨j, sj, hj, hj1, hj2⟩ := mT_bad hs
    refine ⟨sj, ?_⟩
    refine comes_loop hfb rfl (fun f : Nat => eF n (gT x y s (cel s.q i).toNat f).q.length i (cel s.q i) f) (fun f => sH x y n p (gT x y s (cel s.q i).toNat f)) (fun f => f ≤ j) (fun f => 4 - f) 0 (by omega) rfl rfl ?_
    intro f hf
    by_cases h4 : f < j
    · obtain ⟨s1, s3, h1, h2, h3⟩ := mT_all hj1 h4
      refine .inl ⟨f + 1, by omega, by omega, ?_⟩
      simp only [gT, h1, h3, Option.getD_some]
      exact step f s1 s3 (by omega) h1 h2
    · have : f = j := by omega
      subst this
      simp only [gT, hj1, Option.getD_some]
      obtain ⟨a, b, c⟩ := h.tet hx hy hi f sj (by omega) hj1
      have := (face lx ly hx hy hn a (by omega) hj).2
      rw [b] at this
      exact .inr (.inr ⟨by first | trivial | rfl, this hj2⟩)

def eGw (n m i : Nat) : List (Nat × Value) := [(5, pt 2), (6, pt 3), (11, oS 5 n), (12, pS 6 n), (14, oS 7 n), (15, oS 8 m), (16, it (IntKind.i64.wrap ((i : Int) + 1)))]
abbrev CQ (x y : List Int) (n m i : Nat) (p : Pm) (s : MS) (ax : AX) (l : List (Nat × Value)) (s' : MS) : Prop := Comes none ([], true) Tryz.prog 164 2 (lb Tryz.f52 2) (eG n m i) (sH x y n p s) ax l (sH x y n p s')
def RdQ (h : Heap) (i : Nat) (v : Int) : Prop := readCells h ⟨8, 0 + i * 1, none⟩ 1 = some [.int .i64 v]
def lpD (ax : AX) (ts : List Nat) (l : List (Nat × Value)) (h : Heap) : LoopD := (ts, fun _ _ => (ax, l, h))
theorem qStep {m m' : Nat} {s' : MS} {v : Int} (h1 : ilt (i : Int) m = true) (h2 : InN i m) (h3 : RdQ (sH x y n p s) i v) (h6 : LF x y n m i p s v .normal (eG n m' i) s') : CQ x y n m i p s .normal (eGw n m' i) s' :=
  comes_run (S := { dir := dd [((15, 2), ixD), ((15, 3), ldC [.int .i64 v])], know := kk [(59, true)], loop := loops [(4, lpD .normal tF (eG n m' i) (sH x y n p s'))], pf := pf }) (k := 60) (ts := tG) (junk := []) (h1 := sH x y n p s') (l0 := eGw n m' i)
    (A := (ilt (i : Int) m = true) ∧ InN i m ∧ RdQ (sH x y n p s) i v ∧ LF x y n m i p s v .normal (eG n m' i) s' ∧ Dn .normal (eGw n m' i) (sH x y n p s')) TY_ok mixed ok2 (Nat.le_of_ble_eq_true rfl) (mH_closed x y n p _ _ _ _) rfl ⟨h1, h2, h3, h6, dn _ _ _⟩ (by kernel_rfl)
theorem qBad {m : Nat} {s' : MS} {v : Int} (h1 : ilt (i : Int) m = true) (h2 : InN i m) (h3 : RdQ (sH x y n p s) i v) (h6 : LF x y n m i p s v .ret eX s') : CQ x y n m i p s .ret eX s' :=
  comes_run (S := { dir := dd [((15, 2), ixD), ((15, 3), ldC [.int .i64 v])], know := kk [(59, true)], loop := loops [(4, lpD .ret tF eX (sH x y n p s'))], pf := pf }) (k := 60) (ts := [10]) (junk := []) (h1 := sH x y n p s') (l0 := eX)
    (A := (ilt (i : Int) m = true) ∧ InN i m ∧ RdQ (sH x y n p s) i v ∧ LF x y n m i p s v .ret eX s' ∧ Dn .ret eX (sH x y n p s')) TY_ok mixed ok2 (Nat.le_of_ble_eq_true rfl) (mH_closed x y n p _ _ _ _) rfl ⟨h1, h2, h3, h6, dn _ _ _⟩ (by kernel_rfl)
theorem qEnd {m : Nat} (h1 : ilt (i : Int) m = false) : CQ x y n m i p s (.exit 2) [] s :=
  comes_run (S := { dir := dd [], know := kk [(59, false)], loop := noloop, pf := pf }) (k := 60) (ts := []) (junk := []) (h1 := sH x y n p s) (l0 := []) (A := (ilt (i : Int) m = false) ∧ Dn (.exit 2) [] (sH x y n p s)) TY_ok mixed ok2 (Nat.le_of_ble_eq_true rfl) (mH_closed x y n p _ _ _ _) rfl ⟨h1, dn _ _ _⟩ (by kernel_rfl)

theorem mQ_bad : ∀ {m : Nat}, mQ x y s m = none → ∃ j s1, j < m ∧ mQ x y s j = some s1 ∧ j < s1.q.length ∧ mT x y s1 (cel s1.q j).toNat 4 = none := by
  intro m
  induction m with
  | zero => intro h; simp [mQ] at h
  | succ m ih =>
    intro h
    simp only [mQ] at h
    cases hm : mQ x y s m with
    | none => obtain ⟨j, s1, h1, h2⟩ := ih hm; exact ⟨j, s1, by omega, h2⟩
    | some s1 =>
      rw [hm, Option.bind_some] at h
      split at h
      · rename_i hl; exact ⟨m, s1, by omega, hm, hl, h⟩
      · cases h
theorem mQ_all : ∀ {m j : Nat} {s2 : MS}, mQ x y s m = some s2 → j < m → ∃ s1, mQ x y s j = some s1 ∧ (j < s1.q.length → ∃ s3, mT x y s1 (cel s1.q j).toNat 4 = some s3 ∧ mQ x y s (j + 1) = some s3) := by
  intro m
  induction m with
  | zero => intro j s2 _ h; omega
  | succ m ih =>
    intro j s2 h hj
    have h0 := h
    simp only [mQ] at h
    obtain ⟨s1, h1, h2⟩ := Option.bind_eq_some_iff.1 h
    by_cases e : j = m
    · subst e
      refine ⟨s1, h1, fun hl => ?_⟩
      rw [if_pos hl] at h2
      exact ⟨s2, h2, h0⟩
    · exact ih h1 (by omega)
theorem mQ_stay {i : Nat} {s1 : MS} (h : mQ x y s i = some s1) (hl : s1.q.length ≤ i) : ∀ j, mQ x y s (i + j) = some s1
  | 0 => h
  | j + 1 => by
    rw [show i + (j + 1) = i + j + 1 by omega]
    simp only [mQ, mQ_stay h hl j, Option.bind_some]
    rw [if_neg (by omega)]

abbrev gQ (x y : List Int) (s : MS) (i : Nat) : MS := (mQ x y s i).getD s
abbrev LQ (x y : List Int) (n : Nat) (p : Pm) (s : MS) (m : Nat) (ax : AX) (l : List (Nat × Value)) (s' : MS) : Prop := (obs Tryz.prog TY none ([], true) 164).loop 2 (fb Tryz.f52 2) (eG n m 0) (sH x y n p s) ax l (sH x y n p s')
theorem loopQ (lx : x.length = 20 * n) (ly : y.length = 20 * n) (hx : chk n x = 0) (hy : chk n y = 0) (hn : n ≤ 1000) (h : MI x y n t u p 0 0 s) :
    ((mQ x y s n).isSome = true → ∃ s', LQ x y n p s s.q.length .normal [] s') ∧ ((mQ x y s n).isSome = false → ∃ s', LQ x y n p s s.q.length .ret eX s') := by
  have hfb : fb Tryz.f52 2 = .block 2 (.loop (lb Tryz.f52 2)) := by kernel_rfl
  have step : ∀ j s1 s3, mQ x y s j = some s1 → j < s1.q.length → mT x y s1 (cel s1.q j).toNat 4 = some s3 → CQ x y n s1.q.length j p s1 .normal (eG n s3.q.length (j + 1)) s3 := by
    intro j s1 s3 h1 h2 h3
    obtain ⟨k, hk, hb, hd⟩ := h.run hx hy j s1 h1
    have hkj : k = j := by omega
    subst hkj
    have hsh := hb.short
    have hl := (loopF lx ly hx hy hn hb h2).1 s3 h3
    have := qStep (by rw [ilt_eq]; simp; omega) ⟨by omega, by omega⟩ (rd_int (w := true) rfl h2) hl
    unfold eGw at this
    rw [wrap_succ (by omega)] at this
    exact this
  refine ⟨fun hs => ?_, fun hs => ?_⟩
  · obtain ⟨s2, hs2⟩ := Option.isSome_iff_exists.1 hs
    refine ⟨s2, ?_⟩
    refine comes_loop hfb rfl (fun i : Nat => eG n (gQ x y s i).q.length i) (fun i => sH x y n p (gQ x y s i)) (fun i => i ≤ n ∧ i ≤ (gQ x y s i).q.length) (fun i => n - i) 0 ⟨by omega, by omega⟩ rfl rfl ?_
    rintro i ⟨hin, hil⟩
    have hsome : ∃ s1, mQ x y s i = some s1 := by
      by_cases e : i = n
      · subst e; exact ⟨s2, hs2⟩
      · obtain ⟨s1, h1, _⟩ := mQ_all hs2 (show i < n by omega); exact ⟨s1, h1⟩
    obtain ⟨s1, h1⟩ := hsome
    obtain ⟨k, hk, hb, hd⟩ := h.run hx hy i s1 h1
    have hle := hb.le
    have hsh := hb.short
    simp only [gQ, h1, Option.getD_some] at hil ⊢
    by_cases hl : i < s1.q.length
    · obtain ⟨s1', h1', h3⟩ := mQ_all hs2 (show i < n by omega)
      rw [h1] at h1'; cases h1'
      obtain ⟨s3, h4, h5⟩ := h3 hl
      have hkj : k = i := by omega
      subst hkj
      have := (hb.tet hx hy hl 4 s3 (by omega) h4).2.2
      refine .inl ⟨k + 1, ⟨by omega, by rw [h5, Option.getD_some]; omega⟩, by omega, ?_⟩
      rw [h5, Option.getD_some]
      exact step k s1 s3 h1 hl h4
    · have hst := mQ_stay h1 (by omega) (n - i)
      rw [show i + (n - i) = n by omega, hs2] at hst
      cases hst
      exact .inr (.inl ⟨by first | trivial | rfl, qEnd (by rw [ilt_eq]; simp; omega)⟩)
  · have hnone : mQ x y s n = none := by
      cases hq : mQ x y s n with
      | none => rfl
      | some s1 => rw [hq] at hs; cases hs
    obtain ⟨j, sj, hj, hj1, hj2, hj3⟩ := mQ_bad hnone
    obtain ⟨k, hk, hb, hd⟩ := h.run hx hy j sj hj1
    have hkj : k = j := by omega
    subst hkj
    have hsh := hb.short
    obtain ⟨s', hl⟩ := (loopF lx ly hx hy hn hb hj2).2 hj3
    refine ⟨s', ?_⟩
    refine comes_loop hfb rfl (fun i : Nat => eG n (gQ x y s i).q.length i) (fun i => sH x y n p (gQ x y s i)) (fun i => i ≤ k) (fun i => n - i) 0 (by omega) rfl rfl ?_
    intro i hi
    by_cases hij : i < k
    · obtain ⟨s1, h1, h3⟩ := mQ_all hj1 hij
      have hl1 : i < s1.q.length := by
        rcases Nat.lt_or_ge i s1.q.length with h4 | h4
        · exact h4
        · have hst := mQ_stay h1 h4 (k - i)
          rw [show i + (k - i) = k by omega, hj1] at hst
          cases hst
          omega
      obtain ⟨s3, h4, h5⟩ := h3 hl1
      refine .inl ⟨i + 1, by omega, by omega, ?_⟩
      simp only [gQ, h1, h5, Option.getD_some]
      exact step i s1 s3 h1 hl1 h4
    · have : i = k := by omega
      subst this
      simp only [gQ, hj1, Option.getD_some]
      exact .inr (.inr ⟨by first | trivial | rfl, qBad (by rw [ilt_eq]; simp; omega) ⟨by omega, by omega⟩ (rd_int (w := true) rfl hj2) hl⟩)
end

-- the list of no places
def iH (x y : List Int) (n : Nat) (p : Pm) (T : Nat → Int) : Heap := [some ⟨ints x, false⟩, some ⟨ints y, false⟩, some ⟨[gS 0 n], true⟩, some ⟨[gS 1 n], true⟩, some ⟨pmL p, true⟩, some ⟨ints (inl n T), true⟩, some ⟨ints (pms n fun _ => .zero), true⟩]
theorem iH_closed (x y : List Int) (n : Nat) (p : Pm) (T : Nat → Int) : closedH 7 (iH x y n p T) :=
  closedH_cons (subL_plain _ _ (ints_plain x)) (closedH_cons (subL_plain _ _ (ints_plain y)) (closedH_cons (belowL_sub _ rfl) (closedH_cons (belowL_sub _ rfl) (closedH_cons (subL_plain _ _ rfl) (closedH_cons (subL_plain _ _ (ints_plain _)) (closedH_cons (subL_plain _ _ (ints_plain _)) closedH_nil))))))
def eI (n t u : Nat) (i : Int) : List (Nat × Value) := [(2, it t), (3, it u), (5, pt 2), (6, pt 3), (9, pt 4), (11, oS 5 n), (12, pS 6 n), (13, it i)]
def eJ (n t u : Nat) : List (Nat × Value) := [(2, it t), (3, it u), (5, pt 2), (6, pt 3), (9, pt 4), (11, oS 5 n), (12, pS 6 n)]
def tI : List Nat := [2, 3, 5, 6, 9, 11, 12, 13]
def tJ : List Nat := [2, 3, 5, 6, 9, 11, 12]
abbrev CI (x y : List Int) (n t u i : Nat) (p : Pm) (T : Nat → Int) (ax : AX) (l : List (Nat × Value)) (T' : Nat → Int) : Prop := Comes none ([], true) Tryz.prog 164 2 (lb Tryz.f52 0) (eI n t u i) (iH x y n p T) ax l (iH x y n p T')
def WrI (h : Heap) (i : Nat) (h' : Heap) : Prop := writeCells h ⟨5, 0 + i * 1, none⟩ [.int .i64 (-1)] = some h'
theorem iStep {x y : List Int} {n t u i : Nat} {p : Pm} {T T2 : Nat → Int} (h1 : ilt (i : Int) n = true) (h2 : InN i n) (h3 : WrI (iH x y n p T) i (iH x y n p T2)) : CI x y n t u i p T .normal (eI n t u (IntKind.i64.wrap ((i : Int) + 1))) T2 :=
  comes_run (S := { dir := dd [((6, 2), ixD), ((6, 3), stD (iH x y n p T2))], know := kk [(33, true)], loop := noloop, pf := pf }) (k := 60) (ts := tI) (junk := []) (h1 := iH x y n p T2) (l0 := eI n t u (IntKind.i64.wrap ((i : Int) + 1)))
    (A := (ilt (i : Int) n = true) ∧ InN i n ∧ WrI (iH x y n p T) i (iH x y n p T2) ∧ Dn .normal (eI n t u (IntKind.i64.wrap ((i : Int) + 1))) (iH x y n p T2)) TY_ok mixed ok0 (Nat.le_of_ble_eq_true rfl) (iH_closed x y n p T2) rfl ⟨h1, h2, h3, dn _ _ _⟩ (by kernel_rfl)
theorem iEnd {x y : List Int} {n t u i : Nat} {p : Pm} {T : Nat → Int} (h1 : ilt (i : Int) n = false) : CI x y n t u i p T (.exit 0) (eJ n t u) T :=
  comes_run (S := { dir := dd [], know := kk [(33, false)], loop := noloop, pf := pf }) (k := 60) (ts := tJ) (junk := []) (h1 := iH x y n p T) (l0 := eJ n t u) (A := (ilt (i : Int) n = false) ∧ Dn (.exit 0) (eJ n t u) (iH x y n p T)) TY_ok mixed ok0 (Nat.le_of_ble_eq_true rfl) (iH_closed x y n p T) rfl ⟨h1, dn _ _ _⟩ (by kernel_rfl)
abbrev LI (x y : List Int) (n t u : Nat) (p : Pm) : Prop := (obs Tryz.prog TY none ([], true) 164).loop 2 (fb Tryz.f52 0) (eI n t u 0) (iH x y n p (fun _ => 0)) .normal (eJ n t u) (iH x y n p (fun _ => -1))
theorem inl_congr {n : Nat} {F G : Nat → Int} (h : ∀ v, v < n → F v = G v) : inl n F = inl n G := by
  unfold inl
  exact List.map_congr_left fun v hv => h v (List.mem_range.1 hv)
theorem loopI {x y : List Int} {n t u : Nat} {p : Pm} (hn : n ≤ 1000) : LI x y n t u p := by
  have hfb : fb Tryz.f52 0 = .block 0 (.loop (lb Tryz.f52 0)) := by kernel_rfl
  refine comes_loop hfb rfl (fun i : Nat => eI n t u i) (fun i => iH x y n p (fun v => if v < i then -1 else 0)) (fun i => i ≤ n) (fun i => n - i) 0 (by omega) rfl (by simp) ?_
  intro i hi
  by_cases h4 : i < n
  · have hw : WrI (iH x y n p (fun v => if v < i then -1 else 0)) i (iH x y n p (fun v => if v < i + 1 then -1 else 0)) := by
      have := wr_inl (h := iH x y n p (fun v => if v < i then -1 else 0)) (b := 5) (n := n) (v := i) (f := fun v => if v < i then -1 else 0) (k := -1) rfl h4
      rw [inl_congr (n := n) (F := fun u => if u = i then -1 else if u < i then -1 else 0) (G := fun v => if v < i + 1 then -1 else 0) (fun v _ => by
        by_cases e : v = i
        · subst e; simp
        · by_cases e2 : v < i
          · rw [if_neg e, if_pos e2, if_pos (by omega)]
          · rw [if_neg e, if_neg e2, if_neg (by omega)])] at this
      exact this
    have h := iStep (t := t) (u := u) (by rw [ilt_eq]; simp; omega) ⟨by omega, by omega⟩ hw
    rw [wrap_succ (by omega)] at h
    exact .inl ⟨i + 1, by omega, by omega, h⟩
  · have : i = n := by omega
    subst this
    have h : Comes none ([], true) Tryz.prog 164 2 (lb Tryz.f52 0) (eI i t u i) (iH x y i p fun _ => -1) (.exit 0) (eJ i t u) (iH x y i p fun _ => -1) := iEnd (by rw [ilt_eq]; simp)
    have e : iH x y i p (fun v => if v < i then -1 else 0) = iH x y i p (fun _ => -1) := by
      unfold iH
      rw [inl_congr (n := i) (F := fun v => if v < i then -1 else 0) (G := fun _ => -1) (fun v hv => by rw [if_pos hv])]
    refine .inr (.inl ⟨rfl, ?_⟩)
    show Comes none ([], true) Tryz.prog 164 2 (lb Tryz.f52 0) (eI i t u i) (iH x y i p fun v => if v < i then -1 else 0) (.exit 0) (eJ i t u) (iH x y i p fun _ => -1)
    rw [e]
    exact h

def bH (x y : List Int) (n : Nat) (p : Pm) : Heap := [some ⟨ints x, false⟩, some ⟨ints y, false⟩, some ⟨[gS 0 n], true⟩, some ⟨[gS 1 n], true⟩, some ⟨pmL p, true⟩]
def b1 (x y : List Int) (n : Nat) (p : Pm) : Heap := [some ⟨ints x, false⟩, some ⟨ints y, false⟩, some ⟨[gS 0 n], true⟩, some ⟨[gS 1 n], true⟩, some ⟨pmL p, true⟩, some ⟨ints (inl n fun _ => 0), true⟩]
def kH (x y : List Int) (n : Nat) (p : Pm) (T : Nat → Int) (B : Nat → Pm) (g : Nat → Bool) : Heap := [some ⟨ints x, false⟩, some ⟨ints y, false⟩, some ⟨[gS 0 n], true⟩, some ⟨[gS 1 n], true⟩, some ⟨pmL p, true⟩, some ⟨ints (inl n T), true⟩, some ⟨ints (pms n B), true⟩, some ⟨bls n g, true⟩]
def Mk1 (x y : List Int) (n : Nat) (p : Pm) : Prop := aMakeSlice TY 36 (.int .i64 n) (.int .i64 n) (bH x y n p) = some (oS 5 n, b1 x y n p)
def Mk2 (x y : List Int) (n : Nat) (p : Pm) : Prop := aMakeSlice TY 43 (.int .i64 n) (.int .i64 n) (b1 x y n p) = some (pS 6 n, iH x y n p (fun _ => 0))
def Mk3 (x y : List Int) (n : Nat) (p : Pm) : Prop := aMakeSlice TY 70 (.int .i64 n) (.int .i64 n) (iH x y n p (fun _ => -1)) = some (oS 7 n, kH x y n p (fun _ => -1) (fun _ => .zero) (fun _ => false))
def W1 (x y : List Int) (n t u : Nat) (p : Pm) : Prop := writeCells (kH x y n p (fun _ => -1) (fun _ => .zero) (fun _ => false)) ⟨5, 0 + t * 1, none⟩ [.int .i64 u] = some (kH x y n p (mStart t u p).T (fun _ => .zero) (fun _ => false))
def W2 (x y : List Int) (n t u : Nat) (p : Pm) : Prop := writeCells (kH x y n p (mStart t u p).T (fun _ => .zero) (fun _ => false)) ⟨6, 0 + t * 4, none⟩ (pmL p) = some (kH x y n p (mStart t u p).T (mStart t u p).B (fun _ => false))
def W3 (x y : List Int) (n t u : Nat) (p : Pm) : Prop := writeCells (kH x y n p (mStart t u p).T (mStart t u p).B (fun _ => false)) ⟨7, 0 + u * 1, none⟩ [.bool true] = some (kH x y n p (mStart t u p).T (mStart t u p).B (mStart t u p).g)
def dF (x y : List Int) (n t u : Nat) (p : Pm) : List ((Nat × Nat) × (Option Bool × Td)) := [((1, 3), (none, .op fun _ _ => (oS 5 n, b1 x y n p))), ((2, 3), (none, .op fun _ _ => (pS 6 n, iH x y n p (fun _ => 0)))), ((7, 3), (none, .op fun _ _ => (oS 7 n, kH x y n p (fun _ => -1) (fun _ => .zero) (fun _ => false)))),
  ((8, 3), ixD), ((8, 4), stD (kH x y n p (mStart t u p).T (fun _ => .zero) (fun _ => false))), ((9, 3), ixD), ((9, 4), stD (kH x y n p (mStart t u p).T (mStart t u p).B (fun _ => false))), ((10, 2), ixD), ((10, 3), stD (kH x y n p (mStart t u p).T (mStart t u p).B (mStart t u p).g))]
abbrev OF (x y : List Int) (n t u : Nat) (p : Pm) (X : Prop) : Prop := Mk1 x y n p ∧ Mk2 x y n p ∧ LI x y n t u p ∧ Mk3 x y n p ∧ InN t n ∧ W1 x y n t u p ∧ InN t n ∧ W2 x y n t u p ∧ InN u n ∧ W3 x y n t u p ∧ X
theorem of_all {x y : List Int} {n t u : Nat} {p : Pm} {X : Prop} (hn : n ≤ 1000) (ht : t < n) (hu : u < n) (hX : X) : OF x y n t u p X :=
  ⟨mk36 hn, mk43 hn, loopI hn, mk70 hn, ⟨by omega, by omega⟩, wr_inl (b := 5) rfl ht, ⟨by omega, by omega⟩, wr_pms (b := 6) rfl ht, ⟨by omega, by omega⟩, wr_bls (b := 7) rfl hu, hX⟩
end MB

/-- The contract of matches. -/
theorem matches_sum {x y : List Int} {n t u : Nat} {p : Pm} (hn : n ≤ 1000) (lx : x.length = 20 * n) (ly : y.length = 20 * n) (hx : chk n x = 0) (hy : chk n y = 0) (ht : t < n) (hu : u < n) (hp : p.valid = true) :
    Sum Tryz.prog 52 [gV 0 n, gV 1 n, .int .i64 t, .int .i64 u, pmv p] [some ⟨ints x, false⟩, some ⟨ints y, false⟩] fun o _ => o = .ret (.bool (mRes x y n t u p)) := by
  have hst := MI.start (x := x) (y := y) ht hu hp
  have hl := MB.loopQ lx ly hx hy hn hst
  unfold mRes
  cases hr : (mQ x y (mStart t u p) n).isSome with
  | true =>
    obtain ⟨s', h⟩ := hl.1 hr
    exact tFun_sum (S := { dir := dd (MB.dF x y n t u p), know := kk [], loop := loops [(0, MB.lpD .normal MB.tI (MB.eJ n t u) (MB.iH x y n p (fun _ => -1))), (2, MB.lpD .normal MB.tG [] (MB.sH x y n p s'))], pf := MB.pf }) (k := 60) TY_ok mixed fn52_ok
      (A := MB.OF x y n t u p (MB.LQ x y n p (mStart t u p) 1 .normal [] s' ∧ AOut.ret (.bool true) = .ret (.bool true))) (MB.of_all hn ht hu ⟨h, rfl⟩) (by kernel_rfl)
  | false =>
    obtain ⟨s', h⟩ := hl.2 hr
    exact tFun_sum (S := { dir := dd (MB.dF x y n t u p), know := kk [], loop := loops [(0, MB.lpD .normal MB.tI (MB.eJ n t u) (MB.iH x y n p (fun _ => -1))), (2, MB.lpD .ret MB.tG MB.eX (MB.sH x y n p s'))], pf := MB.pf }) (k := 60) TY_ok mixed fn52_ok
      (A := MB.OF x y n t u p (MB.LQ x y n p (mStart t u p) 1 .ret MB.eX s' ∧ AOut.ret (.bool false) = .ret (.bool false))) (MB.of_all hn ht hu ⟨h, rfl⟩) (by kernel_rfl)
end Go.Ab
