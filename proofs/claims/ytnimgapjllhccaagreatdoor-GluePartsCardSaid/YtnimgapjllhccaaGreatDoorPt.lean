/- The function parts answers for all valid gluings. Conditions: none beyond the given model and program. -/
import Derived.Test.YtnimgapjllhccaaGreatDoorOq
namespace Go.Ab
open Go.Proofs

theorem fn43_ok : Tryz.prog.funcs[43]? = some Tryz.f43 ∧ (Tryz.f43.name == "runtime.NumGoroutine") = false ∧ ∀ c, Tryz.f43.body = some c → codeOk Tryz.f43.ntmps c = true :=
  ⟨Tryz.func43, by kernel_rfl, fun c hc => by cases hc; kernel_rfl⟩

/-- The gluing, its box, the marks, the list. -/
def oqH (x : List Int) (n : Nat) (o q : List Int) : Heap := [some ⟨ints x, false⟩, some ⟨[gS 0 n], true⟩, some ⟨ints o, true⟩, some ⟨ints q, true⟩]
def oH (x : List Int) (n : Nat) (o : List Int) : Heap := [some ⟨ints x, false⟩, some ⟨[gS 0 n], true⟩, some ⟨ints o, true⟩]
theorem oqH_closed (x : List Int) (n : Nat) (o q : List Int) : closedH 4 (oqH x n o q) :=
  closedH_cons (subL_plain _ _ (ints_plain x)) (closedH_cons (belowL_sub _ rfl) (closedH_cons (subL_plain _ _ (ints_plain o)) (closedH_cons (subL_plain _ _ (ints_plain q)) closedH_nil)))
theorem oH_closed (x : List Int) (n : Nat) (o : List Int) : closedH 3 (oH x n o) :=
  closedH_cons (subL_plain _ _ (ints_plain x)) (closedH_cons (belowL_sub _ rfl) (closedH_cons (subL_plain _ _ (ints_plain o)) closedH_nil))
def pt (b : Nat) : Value := .pointer (some ⟨b, 0, none⟩)
def it (v : Int) : Value := .int .i64 v
def uB (u : Int) : Option Blk := some ⟨[.int .i64 u], true⟩
abbrev tv (a b c d : Fc) : Value := .agg ⟨c4 a b c d⟩
/-- Behind an append: the old list is forgotten. -/
def R6 (x : List Int) (n : Nat) (o q : List Int) (e : Heap) : Heap := [some ⟨ints x, false⟩, some ⟨[gS 0 n], true⟩, some ⟨ints o, true⟩, none] ++ e ++ [some ⟨ints q, true⟩]
theorem pick6 (x : List Int) (n : Nat) (o q : List Int) {e : Heap} {b : Nat} (hb : hblk (R6 x n o q e) b = some ⟨ints q, true⟩) : PickB ([0, 1, 2, b].map some) (R6 x n o q e) [0, 1, 2, b] (oqH x n o q) :=
  ⟨⟨_, rfl, subL_plain _ _ (ints_plain x), id⟩, ⟨_, rfl, ⟨_, _, rfl, sub_gS rfl, rfl⟩, id⟩, ⟨_, rfl, subL_plain _ _ (ints_plain o), id⟩, ⟨_, hb, subL_plain _ _ (ints_plain q), id⟩, trivial⟩

def RdO (h : Heap) (b : Nat) (u v : Int) : Prop := readCells h ⟨b, 0 + u.toNat * 1, none⟩ 1 = some [.int .i64 v]
def WrO (h : Heap) (b : Nat) (u v : Int) (h' : Heap) : Prop := writeCells h ⟨b, 0 + u.toNat * 1, none⟩ [.int .i64 v] = some h'
def ApO (b m c : Nat) (h : Heap) (r : Value) (h' : Heap) : Prop := aAppend TY 1 36 36 (oS b m) (oS c 1) h = some (r, h')
def stD (h : Heap) : Option Bool × Td := (none, .st fun _ _ _ => h)
def apD (v : Value) (h : Heap) : Option Bool × Td := (none, .app fun _ _ => (v, h))

namespace PT
def sc (d : List ((Nat × Nat) × (Option Bool × Td))) (k : List (Nat × Bool)) : Ts := { dir := dd d, know := kk k, loop := noloop }
def eF (n : Nat) (T : Value) (k t : Int) (s : Value) (i f : Nat) : List (Nat × Value) := [(1, pt 1), (4, oS 2 n), (6, it k), (26, it n), (27, it t), (8, s), (9, it i), (54, T), (55, it f)]
def tF : List Nat := [1, 4, 6, 26, 27, 8, 9, 54, 55]
def eG (n : Nat) (k t : Int) (s : Value) (i : Nat) : List (Nat × Value) := [(1, pt 1), (4, oS 2 n), (6, it k), (26, it n), (27, it t), (8, s), (9, it i)]
def tG : List Nat := [1, 4, 6, 26, 27, 8, 9]
theorem ok6 : codeOk 85 (lb Tryz.f43 6) = true := by kernel_rfl
theorem ok4 : codeOk 85 (lb Tryz.f43 4) = true := by kernel_rfl
theorem ok2 : codeOk 85 (lb Tryz.f43 2) = true := by kernel_rfl
theorem ok0 : codeOk 85 (lb Tryz.f43 0) = true := by kernel_rfl
abbrev CF (n : Nat) (T : Value) (k t : Int) (m i f : Nat) (h : Heap) (ax : AX) (l : List (Nat × Value)) (h' : Heap) : Prop := Comes none ([], true) Tryz.prog 85 1 (lb Tryz.f43 6) (eF n T k t (oS 3 m) i f) h ax l h'

theorem n0 {x : List Int} {n m i : Nat} {o q : List Int} {a b c d : Fc} {k t : Int} (h : ile 0 a.u = false) : CF n (tv a b c d) k t m i 0 (oqH x n o q) .normal (eF n (tv a b c d) k t (oS 3 m) i 1) (oqH x n o q) :=
  comes_run (S := sc [((20, 4), knowD false)] []) (k := 60) (ts := tF) (junk := [zB a]) (h1 := oqH x n o q) (l0 := (eF n (tv a b c d) k t (oS 3 m) i 1)) (A := (ile 0 a.u = false) ∧ Dn .normal (eF n (tv a b c d) k t (oS 3 m) i 1) (oqH x n o q ++ [zB a])) TY_ok mixed ok6 (Nat.le_of_ble_eq_true rfl) (oqH_closed x n o q) rfl ⟨h, dn _ _ _⟩ (by kernel_rfl)
theorem s0 {x : List Int} {n m i : Nat} {o q : List Int} {a b c d : Fc} {k t : Int} {v : Int} (h : ile 0 a.u = true) (h1 : InI a.u n) (h2 : RdO (oqH x n o q ++ [zB a]) 2 a.u v) (h3 : ilt v 0 = false) : CF n (tv a b c d) k t m i 0 (oqH x n o q) .normal (eF n (tv a b c d) k t (oS 3 m) i 1) (oqH x n o q) :=
  comes_run (S := sc [((20, 4), knowD true), ((20, 7), ixD), ((20, 8), ldC [.int .i64 v])] [(68, false)]) (k := 60) (ts := tF) (junk := [zB a]) (h1 := oqH x n o q) (l0 := (eF n (tv a b c d) k t (oS 3 m) i 1))
    (A := (ile 0 a.u = true) ∧ InI a.u n ∧ RdO (oqH x n o q ++ [zB a]) 2 a.u v ∧ (ilt v 0 = false) ∧ Dn .normal (eF n (tv a b c d) k t (oS 3 m) i 1) (oqH x n o q ++ [zB a])) TY_ok mixed ok6 (Nat.le_of_ble_eq_true rfl) (oqH_closed x n o q) rfl ⟨h, h1, h2, h3, dn _ _ _⟩ (by kernel_rfl)
theorem b0 {x : List Int} {n m i : Nat} {o q : List Int} {a b c d : Fc} {k t : Int} {v : Int} {o2 q2 : List Int} (h : ile 0 a.u = true) (h1 : InI a.u n) (h2 : RdO (oqH x n o q ++ [zB a]) 2 a.u v) (h3 : ilt v 0 = true)
    (h4 : WrO (oqH x n o q ++ [zB a]) 2 a.u k (oqH x n o2 q ++ [zB a])) (h5 : ApO 3 m 5 (oqH x n o2 q ++ [zB a, uB a.u]) (oS 6 (m + 1)) (R6 x n o2 q2 [zB a, uB a.u])) : CF n (tv a b c d) k t m i 0 (oqH x n o q) .normal (eF n (tv a b c d) k t (oS 3 (m + 1)) i 1) (oqH x n o2 q2) :=
  comes_pick (S := sc [((20, 4), knowD true), ((20, 7), ixD), ((20, 8), ldC [.int .i64 v]), ((21, 4), ixD), ((21, 5), stD (oqH x n o2 q ++ [zB a])), ((22, 4), apD (oS 6 (m + 1)) (R6 x n o2 q2 [zB a, uB a.u]))] [(68, true)]) (k := 60) (ts := tF)
    (l0 := eF n (tv a b c d) k t (oS 6 (m + 1)) i 1) (h0 := R6 x n o2 q2 [zB a, uB a.u])
    (A := (ile 0 a.u = true) ∧ InI a.u n ∧ RdO (oqH x n o q ++ [zB a]) 2 a.u v ∧ (ilt v 0 = true) ∧ InI a.u n ∧ WrO (oqH x n o q ++ [zB a]) 2 a.u k (oqH x n o2 q ++ [zB a]) ∧ ApO 3 m 5 (oqH x n o2 q ++ [zB a, uB a.u]) (oS 6 (m + 1)) (R6 x n o2 q2 [zB a, uB a.u]) ∧ Dn .normal (eF n (tv a b c d) k t (oS 6 (m + 1)) i 1) (R6 x n o2 q2 [zB a, uB a.u]))
    TY_ok mixed ok6 (fun e he => Ref.ord (ks := [0, 1, 2, 6]) (by kernel_rfl) (pick6 x n o2 q2 (by kernel_rfl)) (by kernel_rfl) (by kernel_rfl) he) ⟨h, h1, h2, h3, h1, h4, h5, dn _ _ _⟩ (by kernel_rfl)

theorem n1 {x : List Int} {n m i : Nat} {o q : List Int} {a b c d : Fc} {k t : Int} (h : ile 0 b.u = false) : CF n (tv a b c d) k t m i 1 (oqH x n o q) .normal (eF n (tv a b c d) k t (oS 3 m) i 2) (oqH x n o q) :=
  comes_run (S := sc [((20, 4), knowD false)] []) (k := 60) (ts := tF) (junk := [zB b]) (h1 := oqH x n o q) (l0 := (eF n (tv a b c d) k t (oS 3 m) i 2)) (A := (ile 0 b.u = false) ∧ Dn .normal (eF n (tv a b c d) k t (oS 3 m) i 2) (oqH x n o q ++ [zB b])) TY_ok mixed ok6 (Nat.le_of_ble_eq_true rfl) (oqH_closed x n o q) rfl ⟨h, dn _ _ _⟩ (by kernel_rfl)
theorem s1 {x : List Int} {n m i : Nat} {o q : List Int} {a b c d : Fc} {k t : Int} {v : Int} (h : ile 0 b.u = true) (h1 : InI b.u n) (h2 : RdO (oqH x n o q ++ [zB b]) 2 b.u v) (h3 : ilt v 0 = false) : CF n (tv a b c d) k t m i 1 (oqH x n o q) .normal (eF n (tv a b c d) k t (oS 3 m) i 2) (oqH x n o q) :=
  comes_run (S := sc [((20, 4), knowD true), ((20, 7), ixD), ((20, 8), ldC [.int .i64 v])] [(68, false)]) (k := 60) (ts := tF) (junk := [zB b]) (h1 := oqH x n o q) (l0 := (eF n (tv a b c d) k t (oS 3 m) i 2))
    (A := (ile 0 b.u = true) ∧ InI b.u n ∧ RdO (oqH x n o q ++ [zB b]) 2 b.u v ∧ (ilt v 0 = false) ∧ Dn .normal (eF n (tv a b c d) k t (oS 3 m) i 2) (oqH x n o q ++ [zB b])) TY_ok mixed ok6 (Nat.le_of_ble_eq_true rfl) (oqH_closed x n o q) rfl ⟨h, h1, h2, h3, dn _ _ _⟩ (by kernel_rfl)
theorem b1 {x : List Int} {n m i : Nat} {o q : List Int} {a b c d : Fc} {k t : Int} {v : Int} {o2 q2 : List Int} (h : ile 0 b.u = true) (h1 : InI b.u n) (h2 : RdO (oqH x n o q ++ [zB b]) 2 b.u v) (h3 : ilt v 0 = true)
    (h4 : WrO (oqH x n o q ++ [zB b]) 2 b.u k (oqH x n o2 q ++ [zB b])) (h5 : ApO 3 m 5 (oqH x n o2 q ++ [zB b, uB b.u]) (oS 6 (m + 1)) (R6 x n o2 q2 [zB b, uB b.u])) : CF n (tv a b c d) k t m i 1 (oqH x n o q) .normal (eF n (tv a b c d) k t (oS 3 (m + 1)) i 2) (oqH x n o2 q2) :=
  comes_pick (S := sc [((20, 4), knowD true), ((20, 7), ixD), ((20, 8), ldC [.int .i64 v]), ((21, 4), ixD), ((21, 5), stD (oqH x n o2 q ++ [zB b])), ((22, 4), apD (oS 6 (m + 1)) (R6 x n o2 q2 [zB b, uB b.u]))] [(68, true)]) (k := 60) (ts := tF)
    (l0 := eF n (tv a b c d) k t (oS 6 (m + 1)) i 2) (h0 := R6 x n o2 q2 [zB b, uB b.u])
    (A := (ile 0 b.u = true) ∧ InI b.u n ∧ RdO (oqH x n o q ++ [zB b]) 2 b.u v ∧ (ilt v 0 = true) ∧ InI b.u n ∧ WrO (oqH x n o q ++ [zB b]) 2 b.u k (oqH x n o2 q ++ [zB b]) ∧ ApO 3 m 5 (oqH x n o2 q ++ [zB b, uB b.u]) (oS 6 (m + 1)) (R6 x n o2 q2 [zB b, uB b.u]) ∧ Dn .normal (eF n (tv a b c d) k t (oS 6 (m + 1)) i 2) (R6 x n o2 q2 [zB b, uB b.u]))
    TY_ok mixed ok6 (fun e he => Ref.ord (ks := [0, 1, 2, 6]) (by kernel_rfl) (pick6 x n o2 q2 (by kernel_rfl)) (by kernel_rfl) (by kernel_rfl) he) ⟨h, h1, h2, h3, h1, h4, h5, dn _ _ _⟩ (by kernel_rfl)

theorem n2 {x : List Int} {n m i : Nat} {o q : List Int} {a b c d : Fc} {k t : Int} (h : ile 0 c.u = false) : CF n (tv a b c d) k t m i 2 (oqH x n o q) .normal (eF n (tv a b c d) k t (oS 3 m) i 3) (oqH x n o q) :=
  comes_run (S := sc [((20, 4), knowD false)] []) (k := 60) (ts := tF) (junk := [zB c]) (h1 := oqH x n o q) (l0 := (eF n (tv a b c d) k t (oS 3 m) i 3)) (A := (ile 0 c.u = false) ∧ Dn .normal (eF n (tv a b c d) k t (oS 3 m) i 3) (oqH x n o q ++ [zB c])) TY_ok mixed ok6 (Nat.le_of_ble_eq_true rfl) (oqH_closed x n o q) rfl ⟨h, dn _ _ _⟩ (by kernel_rfl)
theorem s2 {x : List Int} {n m i : Nat} {o q : List Int} {a b c d : Fc} {k t : Int} {v : Int} (h : ile 0 c.u = true) (h1 : InI c.u n) (h2 : RdO (oqH x n o q ++ [zB c]) 2 c.u v) (h3 : ilt v 0 = false) : CF n (tv a b c d) k t m i 2 (oqH x n o q) .normal (eF n (tv a b c d) k t (oS 3 m) i 3) (oqH x n o q) :=
  comes_run (S := sc [((20, 4), knowD true), ((20, 7), ixD), ((20, 8), ldC [.int .i64 v])] [(68, false)]) (k := 60) (ts := tF) (junk := [zB c]) (h1 := oqH x n o q) (l0 := (eF n (tv a b c d) k t (oS 3 m) i 3))
    (A := (ile 0 c.u = true) ∧ InI c.u n ∧ RdO (oqH x n o q ++ [zB c]) 2 c.u v ∧ (ilt v 0 = false) ∧ Dn .normal (eF n (tv a b c d) k t (oS 3 m) i 3) (oqH x n o q ++ [zB c])) TY_ok mixed ok6 (Nat.le_of_ble_eq_true rfl) (oqH_closed x n o q) rfl ⟨h, h1, h2, h3, dn _ _ _⟩ (by kernel_rfl)
theorem b2 {x : List Int} {n m i : Nat} {o q : List Int} {a b c d : Fc} {k t : Int} {v : Int} {o2 q2 : List Int} (h : ile 0 c.u = true) (h1 : InI c.u n) (h2 : RdO (oqH x n o q ++ [zB c]) 2 c.u v) (h3 : ilt v 0 = true)
    (h4 : WrO (oqH x n o q ++ [zB c]) 2 c.u k (oqH x n o2 q ++ [zB c])) (h5 : ApO 3 m 5 (oqH x n o2 q ++ [zB c, uB c.u]) (oS 6 (m + 1)) (R6 x n o2 q2 [zB c, uB c.u])) : CF n (tv a b c d) k t m i 2 (oqH x n o q) .normal (eF n (tv a b c d) k t (oS 3 (m + 1)) i 3) (oqH x n o2 q2) :=
  comes_pick (S := sc [((20, 4), knowD true), ((20, 7), ixD), ((20, 8), ldC [.int .i64 v]), ((21, 4), ixD), ((21, 5), stD (oqH x n o2 q ++ [zB c])), ((22, 4), apD (oS 6 (m + 1)) (R6 x n o2 q2 [zB c, uB c.u]))] [(68, true)]) (k := 60) (ts := tF)
    (l0 := eF n (tv a b c d) k t (oS 6 (m + 1)) i 3) (h0 := R6 x n o2 q2 [zB c, uB c.u])
    (A := (ile 0 c.u = true) ∧ InI c.u n ∧ RdO (oqH x n o q ++ [zB c]) 2 c.u v ∧ (ilt v 0 = true) ∧ InI c.u n ∧ WrO (oqH x n o q ++ [zB c]) 2 c.u k (oqH x n o2 q ++ [zB c]) ∧ ApO 3 m 5 (oqH x n o2 q ++ [zB c, uB c.u]) (oS 6 (m + 1)) (R6 x n o2 q2 [zB c, uB c.u]) ∧ Dn .normal (eF n (tv a b c d) k t (oS 6 (m + 1)) i 3) (R6 x n o2 q2 [zB c, uB c.u]))
    TY_ok mixed ok6 (fun e he => Ref.ord (ks := [0, 1, 2, 6]) (by kernel_rfl) (pick6 x n o2 q2 (by kernel_rfl)) (by kernel_rfl) (by kernel_rfl) he) ⟨h, h1, h2, h3, h1, h4, h5, dn _ _ _⟩ (by kernel_rfl)

theorem n3 {x : List Int} {n m i : Nat} {o q : List Int} {a b c d : Fc} {k t : Int} (h : ile 0 d.u = false) : CF n (tv a b c d) k t m i 3 (oqH x n o q) .normal (eF n (tv a b c d) k t (oS 3 m) i 4) (oqH x n o q) :=
  comes_run (S := sc [((20, 4), knowD false)] []) (k := 60) (ts := tF) (junk := [zB d]) (h1 := oqH x n o q) (l0 := (eF n (tv a b c d) k t (oS 3 m) i 4)) (A := (ile 0 d.u = false) ∧ Dn .normal (eF n (tv a b c d) k t (oS 3 m) i 4) (oqH x n o q ++ [zB d])) TY_ok mixed ok6 (Nat.le_of_ble_eq_true rfl) (oqH_closed x n o q) rfl ⟨h, dn _ _ _⟩ (by kernel_rfl)
theorem s3 {x : List Int} {n m i : Nat} {o q : List Int} {a b c d : Fc} {k t : Int} {v : Int} (h : ile 0 d.u = true) (h1 : InI d.u n) (h2 : RdO (oqH x n o q ++ [zB d]) 2 d.u v) (h3 : ilt v 0 = false) : CF n (tv a b c d) k t m i 3 (oqH x n o q) .normal (eF n (tv a b c d) k t (oS 3 m) i 4) (oqH x n o q) :=
  comes_run (S := sc [((20, 4), knowD true), ((20, 7), ixD), ((20, 8), ldC [.int .i64 v])] [(68, false)]) (k := 60) (ts := tF) (junk := [zB d]) (h1 := oqH x n o q) (l0 := (eF n (tv a b c d) k t (oS 3 m) i 4))
    (A := (ile 0 d.u = true) ∧ InI d.u n ∧ RdO (oqH x n o q ++ [zB d]) 2 d.u v ∧ (ilt v 0 = false) ∧ Dn .normal (eF n (tv a b c d) k t (oS 3 m) i 4) (oqH x n o q ++ [zB d])) TY_ok mixed ok6 (Nat.le_of_ble_eq_true rfl) (oqH_closed x n o q) rfl ⟨h, h1, h2, h3, dn _ _ _⟩ (by kernel_rfl)
theorem b3 {x : List Int} {n m i : Nat} {o q : List Int} {a b c d : Fc} {k t : Int} {v : Int} {o2 q2 : List Int} (h : ile 0 d.u = true) (h1 : InI d.u n) (h2 : RdO (oqH x n o q ++ [zB d]) 2 d.u v) (h3 : ilt v 0 = true)
    (h4 : WrO (oqH x n o q ++ [zB d]) 2 d.u k (oqH x n o2 q ++ [zB d])) (h5 : ApO 3 m 5 (oqH x n o2 q ++ [zB d, uB d.u]) (oS 6 (m + 1)) (R6 x n o2 q2 [zB d, uB d.u])) : CF n (tv a b c d) k t m i 3 (oqH x n o q) .normal (eF n (tv a b c d) k t (oS 3 (m + 1)) i 4) (oqH x n o2 q2) :=
  comes_pick (S := sc [((20, 4), knowD true), ((20, 7), ixD), ((20, 8), ldC [.int .i64 v]), ((21, 4), ixD), ((21, 5), stD (oqH x n o2 q ++ [zB d])), ((22, 4), apD (oS 6 (m + 1)) (R6 x n o2 q2 [zB d, uB d.u]))] [(68, true)]) (k := 60) (ts := tF)
    (l0 := eF n (tv a b c d) k t (oS 6 (m + 1)) i 4) (h0 := R6 x n o2 q2 [zB d, uB d.u])
    (A := (ile 0 d.u = true) ∧ InI d.u n ∧ RdO (oqH x n o q ++ [zB d]) 2 d.u v ∧ (ilt v 0 = true) ∧ InI d.u n ∧ WrO (oqH x n o q ++ [zB d]) 2 d.u k (oqH x n o2 q ++ [zB d]) ∧ ApO 3 m 5 (oqH x n o2 q ++ [zB d, uB d.u]) (oS 6 (m + 1)) (R6 x n o2 q2 [zB d, uB d.u]) ∧ Dn .normal (eF n (tv a b c d) k t (oS 6 (m + 1)) i 4) (R6 x n o2 q2 [zB d, uB d.u]))
    TY_ok mixed ok6 (fun e he => Ref.ord (ks := [0, 1, 2, 6]) (by kernel_rfl) (pick6 x n o2 q2 (by kernel_rfl)) (by kernel_rfl) (by kernel_rfl) he) ⟨h, h1, h2, h3, h1, h4, h5, dn _ _ _⟩ (by kernel_rfl)

theorem fEnd {x : List Int} {n m i : Nat} {o q : List Int} {T : Value} {k t : Int} (hT : belowB 4 T = true) : CF n T k t m i 4 (oqH x n o q) (.exit 6) (eG n k t (oS 3 m) i) (oqH x n o q) :=
  comes_run (S := sc [] []) (k := 60) (ts := tG) (junk := []) (h1 := oqH x n o q) (l0 := eG n k t (oS 3 m) i) (A := Dn (.exit 6) (eG n k t (oS 3 m) i) (oqH x n o q)) TY_ok mixed ok6 (Nat.le_of_ble_eq_true rfl) (oqH_closed x n o q) rfl (dn _ _ _) (by kernel_rfl)
end PT
end Go.Ab

namespace Go.Ab
open Go.Proofs

theorem c4_rd {h : Heap} {x : List Int} {w : Bool} {b v n : Nat} (hb : hblk h b = some ⟨ints x, w⟩) (hx : x.length = 20 * n) (hv : v < n) : readCells h ⟨b, 0 + v * 20, none⟩ 20 = some (c4 (fc x v 0) (fc x v 1) (fc x v 2) (fc x v 3)) := rd_row hb hx hv

namespace PT
abbrev tvx (x : List Int) (v : Nat) : Value := tv (fc x v 0) (fc x v 1) (fc x v 2) (fc x v 3)
section
variable {x : List Int} {n i t0 : Nat} {o0 : List Int} {k t : Int} {P : Nat → Int → Prop} {s : List Int × List Int}

theorem face (hc : chk n x = 0) (hn : n ≤ 1000) {f : Nat} (h : BI (mP k) x n P o0 t0 i f s) (hi : i < s.2.length) (hf : f < 4) :
    CF n (tvx x (cel s.2 i).toNat) k t s.2.length i f (oqH x n s.1 s.2) .normal (eF n (tvx x (cel s.2 i).toNat) k t (oS 3 (gf (mP k) (cel s.1 (cel s.2 i).toNat) s (fc x (cel s.2 i).toNat f)).2.length) i (f + 1))
      (oqH x n (gf (mP k) (cel s.1 (cel s.2 i).toNat) s (fc x (cel s.2 i).toNat f)).1 (gf (mP k) (cel s.1 (cel s.2 i).toNat) s (fc x (cel s.2 i).toNat f)).2) := by
  obtain ⟨q0, q1, q2, q3, q4⟩ := h.qin i hi
  have hlen := h.len
  have hsh := h.short
  have hv : (cel s.2 i).toNat < n := by omega
  generalize (cel s.2 i).toNat = v at *
  have hb := fun h0 => (face_back hc hv hf h0).1
  cases h1 : ile 0 (fc x v f).u with
  | false =>
    have e : gf (mP k) (cel s.1 v) s (fc x v f) = s := by unfold gf; rw [if_neg (by rw [h1]; simp)]
    rw [e]
    have : f = 0 ∨ f = 1 ∨ f = 2 ∨ f = 3 := by omega
    rcases this with rfl | rfl | rfl | rfl
    · exact n0 h1
    · exact n1 h1
    · exact n2 h1
    · exact n3 h1
  | true =>
    have h0 : 0 ≤ (fc x v f).u := by rw [ile_eq] at h1; simpa using h1
    have hlt := hb h0
    have hin : InI (fc x v f).u n := ⟨h0, hlt⟩
    have hul : (fc x v f).u.toNat < s.1.length := by omega
    have hrd : RdO (oqH x n s.1 s.2 ++ [zB (fc x v f)]) 2 (fc x v f).u (cel s.1 (fc x v f).u.toNat) := rd_int (w := true) rfl hul
    cases h3 : ilt (cel s.1 (fc x v f).u.toNat) 0 with
    | false =>
      have e : gf (mP k) (cel s.1 v) s (fc x v f) = s := by unfold gf; rw [if_neg (by intro hh; have := hh.2; simp only [mP] at this; rw [h3] at this; cases this)]
      rw [e]
      have : f = 0 ∨ f = 1 ∨ f = 2 ∨ f = 3 := by omega
      rcases this with rfl | rfl | rfl | rfl
      · exact s0 h1 hin hrd h3
      · exact s1 h1 hin hrd h3
      · exact s2 h1 hin hrd h3
      · exact s3 h1 hin hrd h3
    | true =>
      have e : gf (mP k) (cel s.1 v) s (fc x v f) = (s.1.set (fc x v f).u.toNat k, s.2 ++ [(fc x v f).u]) := by unfold gf; rw [if_pos ⟨h1, h3⟩]; rfl
      rw [e]
      simp only [List.length_append, List.length_cons, List.length_nil, Nat.zero_add]
      have hwr : WrO (oqH x n s.1 s.2 ++ [zB (fc x v f)]) 2 (fc x v f).u k (oqH x n (s.1.set (fc x v f).u.toNat k) s.2 ++ [zB (fc x v f)]) := wr_int (b := 2) rfl hul
      have hap : ApO 3 s.2.length 5 (oqH x n (s.1.set (fc x v f).u.toNat k) s.2 ++ [zB (fc x v f), uB (fc x v f).u]) (oS 6 (s.2.length + 1)) (R6 x n (s.1.set (fc x v f).u.toNat k) (s.2 ++ [(fc x v f).u]) [zB (fc x v f), uB (fc x v f).u]) :=
        app_own36 (b := 3) (c := 5) (w := true) rfl (Nat.le_of_ble_eq_true rfl) rfl rfl (by omega)
      have : f = 0 ∨ f = 1 ∨ f = 2 ∨ f = 3 := by omega
      rcases this with rfl | rfl | rfl | rfl
      · exact b0 h1 hin hrd h3 hwr hap
      · exact b1 h1 hin hrd h3 hwr hap
      · exact b2 h1 hin hrd h3 hwr hap
      · exact b3 h1 hin hrd h3 hwr hap

abbrev LF (x : List Int) (n : Nat) (T : Value) (k t : Int) (i : Nat) (o q o' q' : List Int) : Prop := (obs Tryz.prog TY none ([], true) 85).loop 1 (fb Tryz.f43 6) (eF n T k t (oS 3 q.length) i 0) (oqH x n o q) .normal (eG n k t (oS 3 q'.length) i) (oqH x n o' q')
theorem loopF (K : Keeps (mP k) x n P) (hc : chk n x = 0) (hn : n ≤ 1000) (h : BI (mP k) x n P o0 t0 i 0 s) (hi : i < s.2.length) :
    LF x n (tvx x (cel s.2 i).toNat) k t i s.1 s.2 (gt (mP k) x s (cel s.2 i).toNat 4).1 (gt (mP k) x s (cel s.2 i).toNat 4).2 := by
  have hfb : fb Tryz.f43 6 = .block 6 (.loop (lb Tryz.f43 6)) := by kernel_rfl
  refine comes_loop hfb rfl (fun f => eF n (tvx x (cel s.2 i).toNat) k t (oS 3 (gt (mP k) x s (cel s.2 i).toNat f).2.length) i f) (fun f => oqH x n (gt (mP k) x s (cel s.2 i).toNat f).1 (gt (mP k) x s (cel s.2 i).toNat f).2) (fun f => f ≤ 4) (fun f => 4 - f) 0 (by omega) rfl rfl ?_
  intro f hf
  by_cases h4 : f < 4
  · obtain ⟨b1, b2, b3⟩ := h.tet K hi f (by omega)
    have := face (t := t) hc hn b1 (by omega) h4
    rw [b2] at this
    exact .inl ⟨f + 1, by omega, by omega, this⟩
  · have : f = 4 := by omega
    subst this
    exact .inr (.inl ⟨rfl, fEnd rfl⟩)

def eGw (n : Nat) (k t : Int) (s : Value) (i : Nat) : List (Nat × Value) := [(1, pt 1), (4, oS 2 n), (6, it k), (26, it n), (27, it t), (8, s), (9, it (IntKind.i64.wrap ((i : Int) + 1)))]
def eT (n : Nat) (k t : Int) : List (Nat × Value) := [(1, pt 1), (4, oS 2 n), (6, it k), (26, it n), (27, it t)]
def tT : List Nat := [1, 4, 6, 26, 27]
abbrev CQ (n : Nat) (k t : Int) (m i : Nat) (h : Heap) (ax : AX) (l : List (Nat × Value)) (h' : Heap) : Prop := Comes none ([], true) Tryz.prog 85 1 (lb Tryz.f43 4) (eG n k t (oS 3 m) i) h ax l h'
def lpD (ts : List Nat) (l : List (Nat × Value)) (h : Heap) : LoopD := (ts, fun _ _ => (.normal, l, h))
def Rd4 (h : Heap) (v : Int) (a b c d : Fc) : Prop := readCells h ⟨0, 0 + v.toNat * 20, none⟩ 20 = some (c4 a b c d)
def RdN (h : Heap) (b i : Nat) (v : Int) : Prop := readCells h ⟨b, 0 + i * 1, none⟩ 1 = some [.int .i64 v]
abbrev LFm (x : List Int) (n : Nat) (T : Value) (k t : Int) (i m m' : Nat) (o q o' q' : List Int) : Prop := (obs Tryz.prog TY none ([], true) 85).loop 1 (fb Tryz.f43 6) (eF n T k t (oS 3 m) i 0) (oqH x n o q) .normal (eG n k t (oS 3 m') i) (oqH x n o' q')
theorem qStep {m m' : Nat} {o q o' q' : List Int} {v : Int} {a b c d : Fc} (h1 : ilt (i : Int) m = true) (h2 : InN i m) (h3 : RdN (oqH x n o q) 3 i v) (h4 : InI v n) (h5 : Rd4 (oqH x n o q) v a b c d) (h6 : LFm x n (tv a b c d) k t i m m' o q o' q') :
    CQ n k t m i (oqH x n o q) .normal (eGw n k t (oS 3 m') i) (oqH x n o' q') :=
  comes_run (S := { dir := dd [((17, 4), ixD), ((17, 5), ldC [.int .i64 v]), ((17, 6), ixD), ((17, 7), ldC (c4 a b c d))], know := kk [(44, true)], loop := loops [(6, lpD tF (eG n k t (oS 3 m') i) (oqH x n o' q'))] }) (k := 60) (ts := tG) (junk := []) (h1 := oqH x n o' q') (l0 := eGw n k t (oS 3 m') i)
    (A := (ilt (i : Int) m = true) ∧ InN i m ∧ RdN (oqH x n o q) 3 i v ∧ InI v n ∧ Rd4 (oqH x n o q) v a b c d ∧ LFm x n (tv a b c d) k t i m m' o q o' q' ∧ Dn .normal (eGw n k t (oS 3 m') i) (oqH x n o' q')) TY_ok mixed ok4 (Nat.le_of_ble_eq_true rfl) (oqH_closed x n o' q') rfl ⟨h1, h2, h3, h4, h5, h6, dn _ _ _⟩ (by kernel_rfl)
theorem qEnd {m : Nat} {o q : List Int} (h1 : ilt (i : Int) m = false) : CQ n k t m i (oqH x n o q) (.exit 4) (eT n k t) (oqH x n o q) :=
  comes_run (S := { dir := dd [], know := kk [(44, false)], loop := noloop }) (k := 60) (ts := tT) (junk := []) (h1 := oqH x n o q) (l0 := eT n k t) (A := (ilt (i : Int) m = false) ∧ Dn (.exit 4) (eT n k t) (oqH x n o q)) TY_ok mixed ok4 (Nat.le_of_ble_eq_true rfl) (oqH_closed x n o q) rfl ⟨h1, dn _ _ _⟩ (by kernel_rfl)

abbrev LQ (x : List Int) (n : Nat) (k t : Int) (o q o' q' : List Int) (m : Nat) : Prop := (obs Tryz.prog TY none ([], true) 85).loop 1 (fb Tryz.f43 4) (eG n k t (oS 3 m) 0) (oqH x n o q) .normal (eT n k t) (oqH x n o' q')
theorem loopQ (K : Keeps (mP k) x n P) (hx : x.length = 20 * n) (hc : chk n x = 0) (hn : n ≤ 1000) (h : BI (mP k) x n P o0 t0 0 0 s) : LQ x n k t s.1 s.2 (gq (mP k) x s n).1 (gq (mP k) x s n).2 s.2.length := by
  have hfb : fb Tryz.f43 4 = .block 4 (.loop (lb Tryz.f43 4)) := by kernel_rfl
  refine comes_loop hfb rfl (fun i => eG n k t (oS 3 (gq (mP k) x s i).2.length) i) (fun i => oqH x n (gq (mP k) x s i).1 (gq (mP k) x s i).2) (fun i => BI (mP k) x n P o0 t0 i 0 (gq (mP k) x s i)) (fun i => n - i) 0 h rfl rfl ?_
  intro i hb
  have hle := hb.le
  have hsh := hb.short
  by_cases hi : i < (gq (mP k) x s i).2.length
  · obtain ⟨b1, b2, b3⟩ := hb.tet K hi 4 (by omega)
    obtain ⟨q0, q1, _⟩ := hb.qin i hi
    have e : gq (mP k) x s (i + 1) = gt (mP k) x (gq (mP k) x s i) (cel (gq (mP k) x s i).2 i).toNat 4 := by simp only [gq]; rw [if_pos hi]
    have hl := loopF (t := t) K hc hn hb hi
    have := qStep (by rw [ilt_eq]; simp; omega) ⟨by omega, by omega⟩ (rd_int (w := true) rfl hi) ⟨q0, q1⟩ (c4_rd (w := false) rfl hx (by omega)) hl
    rw [← e] at this
    unfold eGw at this
    rw [wrap_succ (by omega)] at this
    refine .inl ⟨i + 1, ?_, by omega, this⟩
    show BI (mP k) x n P o0 t0 (i + 1) 0 (gq (mP k) x s (i + 1))
    rw [e]
    exact b1.next (by omega)
  · have e := gq_end (n := n) (Nat.le_of_not_lt hi) (by omega)
    rw [e]
    exact .inr (.inl ⟨rfl, qEnd (by rw [ilt_eq]; simp; omega)⟩)

abbrev CT (n : Nat) (k t : Int) (h : Heap) (ax : AX) (l : List (Nat × Value)) (h' : Heap) : Prop := Comes none ([], true) Tryz.prog 85 1 (lb Tryz.f43 2) (eT n k t) h ax l h'
theorem tSkip {tt : Nat} {o : List Int} {v : Int} (h1 : ilt (tt : Int) n = true) (h2 : InN tt n) (h3 : RdN (oH x n o) 2 tt v) (h4 : ile 0 v = true) : CT n k tt (oH x n o) .normal (eT n k (IntKind.i64.wrap ((tt : Int) + 1))) (oH x n o) :=
  comes_run (S := { dir := dd [((11, 2), ixD), ((11, 3), ldC [.int .i64 v])], know := kk [(28, true), (34, true)], loop := noloop }) (k := 60) (ts := tT) (junk := []) (h1 := oH x n o) (l0 := eT n k (IntKind.i64.wrap ((tt : Int) + 1)))
    (A := (ilt (tt : Int) n = true) ∧ InN tt n ∧ RdN (oH x n o) 2 tt v ∧ (ile 0 v = true) ∧ Dn .normal (eT n k (IntKind.i64.wrap ((tt : Int) + 1))) (oH x n o)) TY_ok mixed ok2 (Nat.le_of_ble_eq_true rfl) (oH_closed x n o) rfl ⟨h1, h2, h3, h4, dn _ _ _⟩ (by kernel_rfl)
def WrN (h : Heap) (b i : Nat) (v : Int) (h' : Heap) : Prop := writeCells h ⟨b, 0 + i * 1, none⟩ [.int .i64 v] = some h'
theorem tRun {tt : Nat} {o o2 o' q' : List Int} {v : Int} (h1 : ilt (tt : Int) n = true) (h2 : InN tt n) (h3 : RdN (oH x n o) 2 tt v) (h4 : ile 0 v = false) (h5 : WrN (oH x n o) 2 tt k (oH x n o2)) (h6 : LQ x n k tt o2 [(tt : Int)] o' q' 1) :
    CT n k tt (oH x n o) .normal (eT n (IntKind.i64.wrap (k + 1)) (IntKind.i64.wrap ((tt : Int) + 1))) (oH x n o') :=
  comes_run (S := { dir := dd [((11, 2), ixD), ((11, 3), ldC [.int .i64 v]), ((12, 3), ixD), ((12, 4), stD (oH x n o2))], know := kk [(28, true), (34, false)], loop := loops [(4, lpD tG (eT n k tt) (oqH x n o' q'))] }) (k := 60) (ts := tT) (junk := [some ⟨ints q', true⟩]) (h1 := oH x n o') (l0 := eT n (IntKind.i64.wrap (k + 1)) (IntKind.i64.wrap ((tt : Int) + 1)))
    (A := (ilt (tt : Int) n = true) ∧ InN tt n ∧ RdN (oH x n o) 2 tt v ∧ (ile 0 v = false) ∧ InN tt n ∧ WrN (oH x n o) 2 tt k (oH x n o2) ∧ LQ x n k tt o2 [(tt : Int)] o' q' 1 ∧ Dn .normal (eT n (IntKind.i64.wrap (k + 1)) (IntKind.i64.wrap ((tt : Int) + 1))) (oqH x n o' q')) TY_ok mixed ok2 (Nat.le_of_ble_eq_true rfl) (oH_closed x n o') rfl ⟨h1, h2, h3, h4, h2, h5, h6, dn _ _ _⟩ (by kernel_rfl)
def eZ (n : Nat) (k : Int) : List (Nat × Value) := [(1, pt 1), (4, oS 2 n), (6, it k)]
theorem tEnd {tt : Nat} {o : List Int} (h1 : ilt (tt : Int) n = false) : CT n k tt (oH x n o) (.exit 2) (eZ n k) (oH x n o) :=
  comes_run (S := { dir := dd [], know := kk [(28, false)], loop := noloop }) (k := 60) (ts := [1, 4, 6]) (junk := []) (h1 := oH x n o) (l0 := eZ n k) (A := (ilt (tt : Int) n = false) ∧ Dn (.exit 2) (eZ n k) (oH x n o)) TY_ok mixed ok2 (Nat.le_of_ble_eq_true rfl) (oH_closed x n o) rfl ⟨h1, dn _ _ _⟩ (by kernel_rfl)

theorem keepsP (hc : chk n x = 0) (k : Nat) (tt : Nat) : Keeps (mP k) x n (fun v c => c = k ∧ Reach (Adj x n) tt v) :=
  ⟨fun v f hv hf h0 => (face_back hc hv hf h0).1, fun v f c hv hf h0 _ _ => (show ilt (k : Int) 0 = false from ilt_nonneg.2 (by omega)), fun v f c hv hf h0 hp _ => ⟨rfl, .tail hp.2 ⟨hv, f, hf, by omega⟩⟩⟩

abbrev LT (x : List Int) (n : Nat) (o o' : List Int) (k' : Int) : Prop := (obs Tryz.prog TY none ([], true) 85).loop 1 (fb Tryz.f43 2) (eT n 0 0) (oH x n o) .normal (eZ n k') (oH x n o')
theorem loopT (hx : x.length = 20 * n) (hc : chk n x = 0) (hn : n ≤ 1000) : LT x n (List.replicate n (-1)) (partsL x n) (partsN x n) := by
  have hfb : fb Tryz.f43 2 = .block 2 (.loop (lb Tryz.f43 2)) := by kernel_rfl
  refine comes_loop hfb rfl (fun t : Nat => eT n (pst x n t).2 t) (fun t => oH x n (pst x n t).1) (fun t => t ≤ n ∧ (pst x n t).2 ≤ t) (fun t => n - t) 0 ⟨by omega, by simp [pst]⟩ rfl rfl ?_
  intro t ⟨ht, hk⟩
  by_cases h4 : t < n
  · have hp := parts_spec hc t ht
    have hlen := hp.len
    have a1 : ilt (t : Int) n = true := by rw [ilt_eq]; simp; omega
    have a2 : InN t n := ⟨by omega, by omega⟩
    have a3 : RdN (oH x n (pst x n t).1) 2 t (cel (pst x n t).1 t) := rd_int (w := true) rfl (by omega)
    cases hb : ilt (cel (pst x n t).1 t) 0 with
    | false =>
      have e : pst x n (t + 1) = pst x n t := by simp only [pst]; rw [if_neg (by rw [hb]; simp)]
      have h := tSkip (k := (pst x n t).2) a1 a2 a3 (by rw [ile_eq]; have := ilt_nonneg.1 hb; simpa using this)
      rw [wrap_succ (by omega)] at h
      rw [← e] at h
      exact .inl ⟨t + 1, ⟨by omega, by rw [e]; omega⟩, by omega, by rw [e] at h ⊢; exact h⟩
    | true =>
      have e : pst x n (t + 1) = (srch (mP (pst x n t).2) x n (pst x n t).1 t (pst x n t).2, (pst x n t).2 + 1) := by
        conv => lhs; simp only [pst]
        rw [if_pos hb]
      have K := keepsP hc (pst x n t).2 t
      have hst := BI.start (x := x) (M := mP (pst x n t).2) (P := fun v c => c = (pst x n t).2 ∧ Reach (Adj x n) t v) hlen (c := (pst x n t).2) h4 hb (show ilt ((pst x n t).2 : Int) 0 = false from ilt_nonneg.2 (by omega)) ⟨rfl, .refl _⟩
      have hl := loopQ (t := t) K hx hc hn hst
      have a5 : WrN (oH x n (pst x n t).1) 2 t (pst x n t).2 (oH x n ((pst x n t).1.set t (pst x n t).2)) := wr_int (b := 2) rfl (by omega)
      have h := tRun (k := (pst x n t).2) a1 a2 a3 (by rw [ile_eq]; have := ilt_neg.1 hb; simpa using this) a5 hl
      rw [wrap_succ (by omega), wrap_succ (by omega)] at h
      refine .inl ⟨t + 1, ⟨by omega, by rw [e]; simp only; omega⟩, by omega, ?_⟩
      rw [e]
      exact h
  · have : t = n := by omega
    subst this
    exact .inr (.inl ⟨rfl, tEnd (by rw [ilt_eq]; simp)⟩)

-- the list of no marks
def eI (n : Nat) (i : Int) : List (Nat × Value) := [(1, pt 1), (4, oS 2 n), (17, it n), (18, it i)]
def eJ (n : Nat) : List (Nat × Value) := [(1, pt 1), (4, oS 2 n)]
abbrev CI (n i : Nat) (h : Heap) (ax : AX) (l : List (Nat × Value)) (h' : Heap) : Prop := Comes none ([], true) Tryz.prog 85 1 (lb Tryz.f43 0) (eI n i) h ax l h'
theorem iStep {o o2 : List Int} (h1 : ilt (i : Int) n = true) (h2 : InN i n) (h3 : WrN (oH x n o) 2 i (-1) (oH x n o2)) : CI n i (oH x n o) .normal (eI n (IntKind.i64.wrap ((i : Int) + 1))) (oH x n o2) :=
  comes_run (S := { dir := dd [((5, 2), ixD), ((5, 3), stD (oH x n o2))], know := kk [(19, true)], loop := noloop }) (k := 60) (ts := [1, 4, 17, 18]) (junk := []) (h1 := oH x n o2) (l0 := eI n (IntKind.i64.wrap ((i : Int) + 1)))
    (A := (ilt (i : Int) n = true) ∧ InN i n ∧ WrN (oH x n o) 2 i (-1) (oH x n o2) ∧ Dn .normal (eI n (IntKind.i64.wrap ((i : Int) + 1))) (oH x n o2)) TY_ok mixed ok0 (Nat.le_of_ble_eq_true rfl) (oH_closed x n o2) rfl ⟨h1, h2, h3, dn _ _ _⟩ (by kernel_rfl)
theorem iEnd {o : List Int} (h1 : ilt (i : Int) n = false) : CI n i (oH x n o) (.exit 0) (eJ n) (oH x n o) :=
  comes_run (S := { dir := dd [], know := kk [(19, false)], loop := noloop }) (k := 60) (ts := [1, 4]) (junk := []) (h1 := oH x n o) (l0 := eJ n) (A := (ilt (i : Int) n = false) ∧ Dn (.exit 0) (eJ n) (oH x n o)) TY_ok mixed ok0 (Nat.le_of_ble_eq_true rfl) (oH_closed x n o) rfl ⟨h1, dn _ _ _⟩ (by kernel_rfl)
end

/-- The first i places are -1, the others 0. -/
def neg (n i : Nat) : List Int := List.replicate i (-1) ++ List.replicate (n - i) 0
theorem neg_length {n i : Nat} (h : i ≤ n) : (neg n i).length = n := by simp [neg]; omega
theorem neg_succ {n i : Nat} (h : i < n) : (neg n i).set i (-1) = neg n (i + 1) := by
  unfold neg
  rw [List.set_append_right _ _ (by simp), List.length_replicate, Nat.sub_self, show n - i = (n - (i + 1)) + 1 by omega, List.replicate_succ, List.set_cons_zero, List.replicate_succ' (n := i)]
  simp
theorem neg_zero (n : Nat) : neg n 0 = inl n fun _ => 0 := by
  unfold neg inl
  simp [List.map_const']
theorem neg_all (n : Nat) : neg n n = List.replicate n (-1) := by simp [neg]

abbrev LI (x : List Int) (n : Nat) : Prop := (obs Tryz.prog TY none ([], true) 85).loop 1 (fb Tryz.f43 0) (eI n 0) (oH x n (inl n fun _ => 0)) .normal (eJ n) (oH x n (List.replicate n (-1)))
theorem loopI {x : List Int} {n : Nat} (hn : n ≤ 1000) : LI x n := by
  have hfb : fb Tryz.f43 0 = .block 0 (.loop (lb Tryz.f43 0)) := by kernel_rfl
  refine comes_loop hfb rfl (fun i : Nat => eI n i) (fun i => oH x n (neg n i)) (fun i => i ≤ n) (fun i => n - i) 0 (by omega) rfl (by simp only [neg_zero]) ?_
  intro i hi
  by_cases h4 : i < n
  · have h := iStep (x := x) (o := neg n i) (o2 := neg n (i + 1)) (by rw [ilt_eq]; simp; omega) ⟨by omega, by omega⟩ (by have := wr_int (h := oH x n (neg n i)) (b := 2) (v := i) (k := -1) rfl (by rw [neg_length hi]; exact h4); rw [neg_succ h4] at this; exact this)
    rw [wrap_succ (by omega)] at h
    exact .inl ⟨i + 1, by omega, by omega, h⟩
  · have : i = n := by omega
    subst this
    rw [← neg_all]
    exact .inr (.inl ⟨rfl, iEnd (by rw [ilt_eq]; simp)⟩)

def bH (x : List Int) (n : Nat) : Heap := [some ⟨ints x, false⟩, some ⟨[gS 0 n], true⟩]
def MkO (x : List Int) (n : Nat) : Prop := aMakeSlice TY 36 (.int .i64 n) (.int .i64 n) (bH x n) = some (oS 2 n, oH x n (inl n fun _ => 0))
end PT

theorem gparts_sum {x : List Int} {n : Nat} (hn : n ≤ 1000) (hx : x.length = 20 * n) (hc : chk n x = 0) :
    Sum Tryz.prog 43 [gV 0 n] [some ⟨ints x, false⟩] fun out h2 => out = .ret (.tuple ⟨[oS 1 n, .int .i64 (partsN x n)]⟩) ∧ h2 = [some ⟨ints x, false⟩, some ⟨ints (partsL x n), true⟩] := by
  have hs : Sum Tryz.prog 43 [gV 0 n] [some ⟨ints x, false⟩] fun out h2 => out = .ret (.tuple ⟨[oS 2 n, .int .i64 (partsN x n)]⟩) ∧ h2 = oH x n (partsL x n) :=
    tFun_sum (S := { dir := dd [((1, 3), (none, .op fun _ _ => (oS 2 n, oH x n (inl n fun _ => 0))))], know := kk [], loop := loops [(0, PT.lpD [1, 4, 17, 18] (PT.eJ n) (oH x n (List.replicate n (-1)))), (2, PT.lpD PT.tT (PT.eZ n (partsN x n)) (oH x n (partsL x n)))] }) (k := 60) TY_ok mixed fn43_ok
      (A := PT.MkO x n ∧ PT.LI x n ∧ PT.LT x n (List.replicate n (-1)) (partsL x n) (partsN x n) ∧ AOut.ret (.tuple ⟨[oS 2 n, .int .i64 (partsN x n)]⟩) = .ret (.tuple ⟨[oS 2 n, .int .i64 (partsN x n)]⟩) ∧ oH x n (partsL x n) = oH x n (partsL x n))
      ⟨mk36 hn, PT.loopI hn, PT.loopT hx hc hn, rfl, rfl⟩ (by kernel_rfl)
  exact Sum.pick (ks := [0, 2]) hs (by kernel_rfl) ⟨⟨_, rfl, subL_plain _ _ (ints_plain x), id⟩, ⟨_, rfl, subL_plain _ _ (ints_plain _), id⟩, trivial⟩ (by kernel_rfl) ⟨_, rfl, _, _, rfl, sub_oS rfl, _, _, rfl, rfl, rfl⟩
end Go.Ab
