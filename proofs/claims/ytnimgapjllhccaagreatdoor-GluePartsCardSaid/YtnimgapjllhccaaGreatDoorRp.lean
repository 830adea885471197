/- The function Renumber of the specification answers for all gluings and lists. Conditions: none beyond the given model and program. -/
import Derived.Test.YtnimgapjllhccaaGreatDoorRn
import Derived.Test.YtnimgapjllhccaaGreatDoorMv
namespace Go.Ab
open Go.Proofs

-- lists of numbers by a function
def inl (n : Nat) (f : Nat → Int) : List Int := (List.range n).map f
theorem inl_length (n : Nat) (f : Nat → Int) : (inl n f).length = n := by simp [inl]
theorem cel_inl {n v : Nat} {f : Nat → Int} (h : v < n) : cel (inl n f) v = f v := by simp [cel, inl, List.getD_eq_getElem?_getD, h]
theorem splice_inl {n v : Nat} {f : Nat → Int} {k : Int} (hv : v < n) : splice (ints (inl n f)) v [.int .i64 k] = ints (inl n fun u => if u = v then k else f u) := by
  refine List.ext_getElem? fun i => ?_
  rw [splice_get (by simp [ints_length, inl_length]; omega)]
  simp only [ints, inl, List.getElem?_map]
  by_cases hi : i < n
  · rw [List.getElem?_range hi]
    by_cases h2 : i = v
    · subst h2; simp
    · rw [if_neg (by simp; omega)]; simp [h2]
  · rw [if_neg (by simp; omega), List.getElem?_eq_none (by simp; omega)]; simp
theorem wr_inl {h : Heap} {b n v : Nat} {f : Nat → Int} {k : Int} (hb : hblk h b = some ⟨ints (inl n f), true⟩) (hv : v < n) : writeCells h ⟨b, 0 + v * 1, none⟩ [.int .i64 k] = some (h.set b (some ⟨ints (inl n fun u => if u = v then k else f u), true⟩)) := by
  simp only [writeCells, hb, ints_length, inl_length]
  rw [if_pos (by simp; omega)]
  simp only [Nat.zero_add, Nat.mul_one]
  rw [splice_inl hv]
theorem mk36 {n : Nat} {h : Heap} (hn : n ≤ 1000) : aMakeSlice TY 36 (.int .i64 n) (.int .i64 n) h = some (.slice (some ⟨h.length, 0, none⟩) n 1, h ++ [some ⟨ints (inl n fun _ => 0), true⟩]) := by
  have t1 : TY 36 = some ti36 := rfl
  have t2 : TY 3 = some ti3 := rfl
  simp only [aMakeSlice, t1, t2, Option.bind_some, ti36, ti3]
  rw [if_pos (by refine ⟨by omega, by omega, by omega, by omega, by omega⟩)]
  have e : zcells (Value.int .i64 0).cells.toList ((n : Int).toNat) = ints (inl n fun _ => 0) := by
    simp only [zcells, ints, inl, Int.toNat_natCast]
    simp [Value.cells, Nat.mod_one]
  rw [e]
  simp

/-- The place of a number in an order. -/
def bk (o : List Int) : Nat → Nat → Int
  | 0, _ => 0
  | i + 1, v => if v = (cel o i).toNat then (i : Int) else bk o i v
theorem bk_in (o : List Int) {n : Nat} (hn : 0 < n) : ∀ i v, i ≤ n → 0 ≤ bk o i v ∧ bk o i v < n
  | 0, _, _ => ⟨Int.le_refl _, by simp only [bk]; omega⟩
  | i + 1, v, h => by
    simp only [bk]
    split
    · exact ⟨by omega, by omega⟩
    · exact bk_in o hn i v (by omega)
/-- All places. -/
def plc (o : List Int) (n : Nat) : List Int := inl n (bk o n)

namespace RN
def K0 (x o q : List Int) (n : Nat) (pl : List Int) : Heap := [some ⟨ints x, false⟩, some ⟨ints o, false⟩, some ⟨ints q, false⟩, some ⟨[gS 0 n], true⟩, some ⟨[.slice none 0 0], true⟩, some ⟨ints pl, true⟩]
theorem K0_closed (x o q : List Int) (n : Nat) (pl : List Int) : closedH 6 (K0 x o q n pl) :=
  closedH_cons (subL_plain _ _ (ints_plain x)) (closedH_cons (subL_plain _ _ (ints_plain o)) (closedH_cons (subL_plain _ _ (ints_plain q)) (closedH_cons (belowL_sub _ rfl) (closedH_cons (subL_plain _ _ rfl) (closedH_cons (subL_plain _ _ (ints_plain pl)) closedH_nil)))))
def eP (n i : Nat) : List (Nat × Value) := [(1, oS 1 n), (2, pS 2 n), (3, .pointer (some ⟨3, 0, none⟩)), (6, .pointer (some ⟨4, 0, none⟩)), (8, .int .i64 n), (9, plS n), (10, .int .i64 i)]
def eQ (n i : Nat) : List (Nat × Value) := [(1, oS 1 n), (2, pS 2 n), (3, .pointer (some ⟨3, 0, none⟩)), (6, .pointer (some ⟨4, 0, none⟩)), (8, .int .i64 n), (9, plS n), (10, .int .i64 (IntKind.i64.wrap ((i : Int) + 1)))]
def eR (n : Nat) : List (Nat × Value) := [(1, oS 1 n), (2, pS 2 n), (3, .pointer (some ⟨3, 0, none⟩)), (6, .pointer (some ⟨4, 0, none⟩)), (8, .int .i64 n), (9, plS n)]
def Wp (x o q : List Int) (n : Nat) (pl pl2 : List Int) (v : Int) (i : Nat) : Prop := writeCells (K0 x o q n pl) ⟨5, 0 + v.toNat * 1, none⟩ [.int .i64 i] = some (K0 x o q n pl2)
abbrev CP (x o q : List Int) (n i : Nat) (pl pl2 : List Int) (ax : AX) (l : List (Nat × Value)) : Prop := Comes none ([], true) Tryz.prog 103 3 (lb Tryz.f17 0) (eP n i) (K0 x o q n pl) ax l (K0 x o q n pl2)
theorem pStep {x o q pl pl2 : List Int} {n i : Nat} {v : Int} (h1 : ilt (i : Int) n = true) (h2 : InN i n) (h3 : Rv (K0 x o q n pl) i v) (h4 : InI v n) (h5 : Wp x o q n pl pl2 v i) : CP x o q n i pl pl2 .normal (eQ n i) :=
  comes_run (S := sc [((10, 3), ixD), ((10, 4), ldC [.int .i64 v]), ((10, 6), ixD), ((10, 7), (none, .st fun _ _ _ => K0 x o q n pl2))] [(34, true)]) (k := 60) (ts := [1, 2, 3, 6, 8, 9, 10]) (junk := []) (h1 := K0 x o q n pl2) (l0 := eQ n i)
    (A := (ilt (i : Int) n = true) ∧ InN i n ∧ Rv (K0 x o q n pl) i v ∧ InI v n ∧ Wp x o q n pl pl2 v i ∧ Dn .normal (eQ n i) (K0 x o q n pl2)) TY_ok mixed ok0 (show 3 ≤ (K0 x o q n pl2).length from Nat.le_of_ble_eq_true rfl) (K0_closed x o q n pl2) rfl ⟨h1, h2, h3, h4, h5, dn _ _ _⟩ (by kernel_rfl)
theorem pEnd {x o q pl : List Int} {n i : Nat} (h1 : ilt (i : Int) n = false) : CP x o q n i pl pl (.exit 0) (eR n) :=
  comes_run (S := sc [] [(34, false)]) (k := 60) (ts := [1, 2, 3, 6, 8, 9]) (junk := []) (h1 := K0 x o q n pl) (l0 := eR n)
    (A := (ilt (i : Int) n = false) ∧ Dn (.exit 0) (eR n) (K0 x o q n pl)) TY_ok mixed ok0 (show 3 ≤ (K0 x o q n pl).length from Nat.le_of_ble_eq_true rfl) (K0_closed x o q n pl) rfl ⟨h1, dn _ _ _⟩ (by kernel_rfl)
theorem loopP {x o q : List Int} {n : Nat} (hn : n ≤ 1000) (ho : o.length = n) (K : OrdOk n o q) : (obs Tryz.prog TY none ([], true) 103).loop 3 (fb Tryz.f17 0) (eP n 0) (K0 x o q n (inl n fun _ => 0)) .normal (eR n) (K0 x o q n (plc o n)) := by
  have hfb : fb Tryz.f17 0 = .block 0 (.loop (lb Tryz.f17 0)) := by kernel_rfl
  refine comes_loop hfb rfl (fun i => eP n i) (fun i => K0 x o q n (inl n (bk o i))) (fun i => i ≤ n) (fun i => n - i) 0 (by omega) rfl rfl ?_
  intro i hi
  by_cases h4 : i < n
  · refine .inl ⟨i + 1, by omega, by omega, ?_⟩
    have hw : eP n (i + 1) = eQ n i := by simp only [eP, eQ, wrap_succ (show i < 1000000000 by omega)]
    have hv := K.o i h4
    rw [hw]
    refine pStep (by rw [ilt_eq]; simp; omega) ⟨by omega, by omega⟩ (rd_int (w := false) rfl (by omega)) hv ?_
    unfold Wp
    rw [wr_inl (b := 5) (n := n) (f := bk o i) rfl (by omega)]
    rfl
  · have : i = n := by omega
    subst this
    exact .inr (.inl ⟨rfl, pEnd (by rw [ilt_eq]; simp)⟩)

-- the rounds over the tetrahedra
def eU (n t : Nat) : List (Nat × Value) := [(1, oS 1 n), (2, pS 2 n), (3, .pointer (some ⟨3, 0, none⟩)), (6, .pointer (some ⟨4, 0, none⟩)), (8, .int .i64 n), (9, plS n), (11, .pointer (some ⟨6, 0, none⟩)), (12, .int .i64 (IntKind.i64.wrap ((t : Int) + 1)))]
def eZ : List (Nat × Value) := [(6, .pointer (some ⟨4, 0, none⟩)), (11, .pointer (some ⟨6, 0, none⟩))]
abbrev CT (n t : Nat) (h : Heap) (ax : AX) (l : List (Nat × Value)) (h' : Heap) : Prop := Comes none ([], true) Tryz.prog 103 3 (lb Tryz.f17 2) (eT n t) h ax l h'
abbrev LP (n t b : Nat) (h h' : Heap) : Prop := (obs Tryz.prog TY none ([], true) 103).loop 3 (fb Tryz.f17 4) (eI n t b 0) h .normal (eJ n t b) h'
def lpD (l : List (Nat × Value)) (h : Heap) : LoopD := ([1, 2, 3, 6, 8, 9, 11, 12, 13, 14], fun _ _ => (.normal, l, h))
def Q0 (x o q : List Int) (n : Nat) (pl : List Int) (v : Value) (e : Heap) : Heap := [some ⟨ints x, false⟩, some ⟨ints o, false⟩, some ⟨ints q, false⟩, some ⟨[gS 0 n], true⟩, some ⟨[.slice none 0 0], true⟩, some ⟨ints pl, true⟩, some ⟨[v], true⟩] ++ e
def Ap0 (x o q : List Int) (n : Nat) (pl : List Int) (a b c d : Fc) : Prop := aAppend TY 3 22 22 (.slice none 0 0) (.slice (some ⟨8, 0, none⟩) 1 20) (P0 x o q n pl ++ [rB a b c d, rB a b c d]) = some (gS 9 1, P0 x o q n pl ++ [rB a b c d, rB a b c d, rB a b c d])
theorem ap0 {x o q pl : List Int} {n : Nat} {a b c d : Fc} : Ap0 x o q n pl a b c d := app_nil22 (m := 1) (ys := c4 a b c d) (by kernel_rfl) (by kernel_rfl) (Nat.le_refl _) (by kernel_rfl) (by kernel_rfl) (Nat.le_of_ble_eq_true rfl)
def yB (y : List Int) (a b c d : Fc) : Option Blk := some ⟨ints y ++ c4 a b c d, true⟩
def Ap1 (x o q : List Int) (n : Nat) (pl : List Int) (t : Nat) (y : List Int) (a b c d : Fc) : Prop := aAppend TY 3 22 22 (gS 7 t) (.slice (some ⟨9, 0, none⟩) 1 20) (P1 x o q n pl t y ++ [rB a b c d, rB a b c d]) = some (gS 10 (t + 1), Q0 x o q n pl (gS 7 t) [none, rB a b c d, rB a b c d, yB y a b c d])
theorem ap1 {x o q pl y : List Int} {n t : Nat} {a b c d : Fc} (ht : t ≤ 2000) (hy : y.length = 20 * t) : Ap1 x o q n pl t y a b c d :=
  app_own22 (m := 1) (zs := ints y) (ys := c4 a b c d) (by kernel_rfl) (Nat.le_of_ble_eq_true rfl) (by rw [ints_length]; omega) (by kernel_rfl) (by kernel_rfl) (by kernel_rfl) (by kernel_rfl) (by omega)

theorem pk {x o q pl y : List Int} {n t b : Nat} {e : Heap} {ks : List Nat} (hks : ks = [0, 1, 2, 3, 4, 5, 6, b]) (hok : orderOk 3 ks = true) (hb : hblk (Q0 x o q n pl (gS b (t + 1)) e) b = some ⟨ints y, true⟩) {ev : Env} (he : ∀ p ∈ eU n t, ev p.1 = some p.2) (hw : IntKind.i64.wrap ((t : Int) + 1) = ((t + 1 : Nat) : Int)) :
    Ref 3 (envL (mkE 103 (eT n (t + 1)))) (P1 x o q n pl (t + 1) y) ev (Q0 x o q n pl (gS b (t + 1)) e) := by
  subst hks
  refine Ref.pick (ks := [0, 1, 2, 3, 4, 5, 6, b]) hok ⟨⟨_, rfl, subL_plain _ _ (ints_plain x), id⟩, ⟨_, rfl, subL_plain _ _ (ints_plain o), id⟩, ⟨_, rfl, subL_plain _ _ (ints_plain q), id⟩, ⟨_, rfl, ⟨_, _, rfl, sub_gS rfl, rfl⟩, id⟩, ⟨_, rfl, subL_plain _ _ rfl, id⟩, ⟨_, rfl, subL_plain _ _ (ints_plain pl), id⟩,
    ⟨_, rfl, ⟨_, _, rfl, sub_gS rfl, rfl⟩, id⟩, ⟨_, hb, subL_plain _ _ (ints_plain y), id⟩, trivial⟩ rfl ?_
  intro p hp
  simp only [eT, List.mem_cons, List.not_mem_nil, or_false] at hp
  rcases hp with rfl | rfl | rfl | rfl | rfl | rfl | rfl | rfl
  · exact ⟨oS 1 n, he _ (.head _), .inr ⟨1, rfl, rfl⟩⟩
  · exact ⟨pS 2 n, he _ (.tail _ (.head _)), .inr ⟨2, rfl, rfl⟩⟩
  · exact ⟨_, he _ (.tail _ (.tail _ (.head _))), 3, rfl, rfl⟩
  · exact ⟨_, he _ (.tail _ (.tail _ (.tail _ (.head _)))), 4, rfl, rfl⟩
  · exact ⟨_, he _ (.tail _ (.tail _ (.tail _ (.tail _ (.head _))))), rfl⟩
  · exact ⟨plS n, he _ (.tail _ (.tail _ (.tail _ (.tail _ (.tail _ (.head _)))))), .inr ⟨5, rfl, rfl⟩⟩
  · exact ⟨_, he _ (.tail _ (.tail _ (.tail _ (.tail _ (.tail _ (.tail _ (.head _))))))), 6, rfl, rfl⟩
  · have h12 := he (12, .int .i64 (IntKind.i64.wrap ((t : Int) + 1))) (.tail _ (.tail _ (.tail _ (.tail _ (.tail _ (.tail _ (.tail _ (.head _))))))))
    rw [hw] at h12
    exact ⟨_, h12, rfl⟩
end RN
end Go.Ab

namespace Go.Ab
open Go.Proofs

namespace RN
theorem r0v {x o q pl y : List Int} {n : Nat} {a b c d : Fc} (hn : ilt ((0 : Nat) : Int) n = true) (hc : ints y = c4 a b c d)
    (hlp : LP n 0 7 (P0 x o q n pl ++ [rB FcZ FcZ FcZ FcZ]) (P0 x o q n pl ++ [rB a b c d])) (happ : Ap0 x o q n pl a b c d) :
    CT n 0 (P0 x o q n pl) .normal (eT n 1) (P1 x o q n pl 1 y) :=
  comes_pick (S := { dir := dd [((24, 4), (none, .app fun _ _ => (gS 9 1, P0 x o q n pl ++ [rB a b c d, rB a b c d, rB a b c d])))], know := kk [(46, true)], loop := loops [(4, lpD (eJ n 0 7) (P0 x o q n pl ++ [rB a b c d]))] }) (k := 60) (ts := [1, 2, 3, 6, 8, 9, 11, 12])
    (l0 := eU n 0) (h0 := Q0 x o q n pl (gS 9 1) [rB a b c d, rB a b c d, rB a b c d])
    (A := (ilt ((0 : Nat) : Int) n = true) ∧ LP n 0 7 (P0 x o q n pl ++ [rB FcZ FcZ FcZ FcZ]) (P0 x o q n pl ++ [rB a b c d]) ∧ Ap0 x o q n pl a b c d ∧ Dn .normal (eU n 0) (Q0 x o q n pl (gS 9 1) [rB a b c d, rB a b c d, rB a b c d]))
    TY_ok mixed ok2 (fun e he => pk (t := 0) (b := 9) (y := y) rfl (by kernel_rfl) (by rw [hc]; kernel_rfl) he (by kernel_rfl)) ⟨hn, hlp, happ, dn _ _ _⟩ (by kernel_rfl)

theorem pk1 {x o q pl y y2 : List Int} {n t : Nat} {a b c d : Fc} (hc : ints y2 = ints y ++ c4 a b c d) (hw : IntKind.i64.wrap ((t : Int) + 1) = ((t + 1 : Nat) : Int)) (e : Env) (he : ∀ p ∈ eU n t, e p.1 = some p.2) :
    Ref 3 (envL (mkE 103 (eT n (t + 1)))) (P1 x o q n pl (t + 1) y2) e (Q0 x o q n pl (gS 10 (t + 1)) [none, rB a b c d, rB a b c d, yB y a b c d]) :=
  pk (t := t) (b := 10) (y := y2) rfl (by kernel_rfl) (by rw [hc]; kernel_rfl) he hw

theorem r1v {x o q pl y y2 : List Int} {n t : Nat} {a b c d : Fc} (hn : ilt (t : Int) n = true) (hw : IntKind.i64.wrap ((t : Int) + 1) = ((t + 1 : Nat) : Int)) (hc : ints y2 = ints y ++ c4 a b c d)
    (hlp : LP n t 8 (P1 x o q n pl t y ++ [rB FcZ FcZ FcZ FcZ]) (P1 x o q n pl t y ++ [rB a b c d])) (happ : Ap1 x o q n pl t y a b c d) :
    CT n t (P1 x o q n pl t y) .normal (eT n (t + 1)) (P1 x o q n pl (t + 1) y2) :=
  comes_pick (S := { dir := dd [((24, 4), (none, .app fun _ _ => (gS 10 (t + 1), Q0 x o q n pl (gS 7 t) [none, rB a b c d, rB a b c d, yB y a b c d])))], know := kk [(46, true)], loop := loops [(4, lpD (eJ n t 8) (P1 x o q n pl t y ++ [rB a b c d]))] }) (k := 60) (ts := [1, 2, 3, 6, 8, 9, 11, 12])
    (l0 := eU n t) (h0 := Q0 x o q n pl (gS 10 (t + 1)) [none, rB a b c d, rB a b c d, yB y a b c d])
    (A := (ilt (t : Int) n = true) ∧ LP n t 8 (P1 x o q n pl t y ++ [rB FcZ FcZ FcZ FcZ]) (P1 x o q n pl t y ++ [rB a b c d]) ∧ Ap1 x o q n pl t y a b c d ∧ Dn .normal (eU n t) (Q0 x o q n pl (gS 10 (t + 1)) [none, rB a b c d, rB a b c d, yB y a b c d]))
    TY_ok mixed ok2 (fun e he => pk1 hc hw e he) ⟨hn, hlp, happ, dn _ _ _⟩ (by kernel_rfl)

theorem rEnd0 {x o q pl : List Int} {n t : Nat} (h : ilt (t : Int) n = false) : CT n t (P0 x o q n pl) (.exit 2) eZ (P0 x o q n pl) :=
  comes_run (S := sc [] [(46, false)]) (k := 60) (ts := [6, 11]) (junk := []) (h1 := P0 x o q n pl) (l0 := eZ)
    (A := (ilt (t : Int) n = false) ∧ Dn (.exit 2) eZ (P0 x o q n pl)) TY_ok mixed ok2 (show 3 ≤ (P0 x o q n pl).length from Nat.le_of_ble_eq_true rfl)
    (closedH_cons (subL_plain _ _ (ints_plain x)) (closedH_cons (subL_plain _ _ (ints_plain o)) (closedH_cons (subL_plain _ _ (ints_plain q)) (closedH_cons (belowL_sub _ rfl) (closedH_cons (subL_plain _ _ rfl) (closedH_cons (subL_plain _ _ (ints_plain pl)) (closedH_cons (subL_plain _ _ rfl) closedH_nil))))))) rfl ⟨h, dn _ _ _⟩ (by kernel_rfl)
theorem rEnd1 {x o q pl y : List Int} {n t : Nat} (h : ilt (t : Int) n = false) : CT n t (P1 x o q n pl t y) (.exit 2) eZ (P1 x o q n pl t y) :=
  comes_run (S := sc [] [(46, false)]) (k := 60) (ts := [6, 11]) (junk := []) (h1 := P1 x o q n pl t y) (l0 := eZ)
    (A := (ilt (t : Int) n = false) ∧ Dn (.exit 2) eZ (P1 x o q n pl t y)) TY_ok mixed ok2 (show 3 ≤ (P1 x o q n pl t y).length from Nat.le_of_ble_eq_true rfl)
    (closedH_cons (subL_plain _ _ (ints_plain x)) (closedH_cons (subL_plain _ _ (ints_plain o)) (closedH_cons (subL_plain _ _ (ints_plain q)) (closedH_cons (belowL_sub _ rfl) (closedH_cons (subL_plain _ _ rfl) (closedH_cons (subL_plain _ _ (ints_plain pl)) (closedH_cons (belowL_sub _ rfl) (closedH_cons (subL_plain _ _ (ints_plain y)) closedH_nil)))))))) rfl ⟨h, dn _ _ _⟩ (by kernel_rfl)

def HT (x o q pl : List Int) (n t : Nat) : Heap := if t = 0 then P0 x o q n pl else P1 x o q n pl t (build t (rnF x o q pl))

theorem loop_ok {x o q pl : List Int} {n : Nat} (hn : n ≤ 1000) (hx : x.length = 20 * n) (ho : o.length = n) (hq : q.length = 4 * n) (hpl : pl.length = n) (hin : ∀ v, v < n → 0 ≤ cel pl v ∧ cel pl v < n) (hc : chk n x = 0) (K : OrdOk n o q) :
    (obs Tryz.prog TY none ([], true) 103).loop 3 (fb Tryz.f17 2) (eT n 0) (P0 x o q n pl) .normal eZ (HT x o q pl n n) := by
  have hfb : fb Tryz.f17 2 = .block 2 (.loop (lb Tryz.f17 2)) := by kernel_rfl
  have lt : ∀ t : Nat, t < n → ilt (t : Int) n = true := fun t ht => by rw [ilt_eq]; simp; omega
  refine comes_loop hfb rfl (fun t => eT n t) (HT x o q pl n) (fun t => t ≤ n) (fun t => n - t) 0 (by omega) rfl rfl ?_
  intro t ht
  by_cases h4 : t < n
  · refine .inl ⟨t + 1, by omega, by omega, ?_⟩
    by_cases h0 : t = 0
    · subst h0
      exact r0v (y := build 1 (rnF x o q pl)) (lt 0 h4) rfl (loopI0 hx ho hq hpl hin hc K h4) ap0
    · have e2 : HT x o q pl n t = P1 x o q n pl t (build t (rnF x o q pl)) := if_neg h0
      rw [e2]
      exact r1v (lt t h4) (wrap_succ (by omega)) (ints_build_succ _ _) (loopI1 (build t (rnF x o q pl)) hx ho hq hpl hin hc K h4) (ap1 (by omega) (build_length _ _))
  · have : t = n := by omega
    subst this
    refine .inr (.inl ⟨rfl, ?_⟩)
    by_cases h0 : t = 0
    · subst h0
      exact rEnd0 (by rw [ilt_eq]; simp)
    · have e2 : HT x o q pl t t = P1 x o q t pl t (build t (rnF x o q pl)) := if_neg h0
      rw [e2]
      exact rEnd1 (by rw [ilt_eq]; simp)
end RN
end Go.Ab

namespace Go.Ab
open Go.Proofs

theorem sub_oS {s : List (Option Nat)} {i b n : Nat} (h : s[i]? = some (some b)) : sub s (oS i n) (oS b n) := .inr ⟨b, h, rfl⟩
theorem sub_pS {s : List (Option Nat)} {i b n : Nat} (h : s[i]? = some (some b)) : sub s (pS i n) (pS b n) := .inr ⟨b, h, rfl⟩
theorem gives_ord {f : FuncId} {x y : List Int} {n m b c : Nat} {k : Int} {h : Heap} {w w' : Bool} {v : Value} (hs : Sum Tryz.prog f [oS 0 n, pS 1 m, .int .i64 k] [some ⟨ints x, false⟩, some ⟨ints y, false⟩] fun o _ => o = .ret v) (hv : plain v = true) (hb : hblk h b = some ⟨ints x, w⟩) (hc : hblk h c = some ⟨ints y, w'⟩) :
    Gives Tryz.prog f [oS b n, pS c m, .int .i64 k] h (.ret v) h ∧ ∃ y, h = h ++ y :=
  gives_plain hs rfl (emb_two hb hc) ⟨_, _, rfl, sub_oS rfl, _, _, rfl, sub_pS rfl, _, _, rfl, rfl, rfl⟩ hv

theorem isOrd_true {m k n : Nat} {o q : List Int} (h : isOrd m k n o q = true) : m = n ∧ k = n ∧ ordOk n o q = true := by
  simpa [isOrd] using h

namespace RN
def Hc (x o q : List Int) (n : Nat) : Heap := [some ⟨ints x, false⟩, some ⟨ints o, false⟩, some ⟨ints q, false⟩, some ⟨[gS 0 n], true⟩, some ⟨[.slice none 0 0], true⟩]
abbrev Gk (x o q : List Int) (n : Nat) (k : Int) : Prop := Gives Tryz.prog 10 [gV 0 n] (Hc x o q n) (.ret (.int .i64 k)) (Hc x o q n) ∧ ∃ y, Hc x o q n = Hc x o q n ++ y
abbrev Go' (x o q : List Int) (m k n : Nat) (r : Bool) : Prop := Gives Tryz.prog 26 [oS 1 m, pS 2 k, .int .i64 n] (Hc x o q n) (.ret (.bool r)) (Hc x o q n) ∧ ∃ y, Hc x o q n = Hc x o q n ++ y
def MkP (x o q : List Int) (n : Nat) : Prop := aMakeSlice TY 36 (.int .i64 n) (.int .i64 n) (Hc x o q n) = some (plS n, K0 x o q n (inl n fun _ => 0))
theorem mkP {x o q : List Int} {n : Nat} (hn : n ≤ 1000) : MkP x o q n := mk36 hn
def Hz (x o q pl : List Int) (n : Nat) : Heap := [some ⟨ints x, false⟩, some ⟨ints o, false⟩, some ⟨ints q, false⟩, some ⟨[gS 0 n], true⟩, some ⟨[gS 7 n], true⟩, some ⟨ints pl, true⟩, some ⟨[gS 7 n], true⟩, some ⟨ints (build n (rnF x o q pl)), true⟩]
abbrev HA (x o q : List Int) : Heap := [some ⟨ints x, false⟩, some ⟨ints o, false⟩, some ⟨ints q, false⟩]
/-- The whole run to the loops. -/
def dW (x o q : List Int) (n : Nat) : List ((Nat × Nat) × (Option Bool × Td)) := [((1, 1), ansD (.int .i64 0) id), ((4, 3), ansD (.bool true) id), ((6, 1), (none, .op fun _ _ => (plS n, K0 x o q n (inl n fun _ => 0))))]
end RN

theorem rrenumber_bad {x o q : List Int} {n m k : Nat} (hx : x.length = 20 * n) (hc : chk n x = 7) :
    Sum Tryz.prog 17 [gV 0 n, oS 1 m, pS 2 k] (RN.HA x o q) fun out _ => out = .ret (gErr 7) := by
  have g1 : RN.Gk x o q n 7 := gives_one (hc ▸ rcheck_sum hx) rfl (w := false) rfl
  exact tFun_sum (S := { dir := dd [((1, 1), ansD (.int .i64 7) id)], know := kk [], loop := noloop }) (k := 60) TY_ok mixed fn17_ok
    (A := RN.Gk x o q n 7 ∧ AOut.ret (gErr 7) = .ret (gErr 7)) ⟨g1, rfl⟩ (by kernel_rfl)
theorem rrenumber_no {x o q : List Int} {n m k : Nat} (hn : n ≤ 1000) (hx : x.length = 20 * n) (ho : o.length = m) (hq : q.length = 4 * k) (hc : chk n x = 0) (hr : isOrd m k n o q = false) :
    Sum Tryz.prog 17 [gV 0 n, oS 1 m, pS 2 k] (RN.HA x o q) fun out _ => out = .ret (gErr 1) := by
  have g1 : RN.Gk x o q n 0 := gives_one (hc ▸ rcheck_sum hx) rfl (w := false) rfl
  have g2 : RN.Go' x o q m k n false := gives_ord (hr ▸ isorder_sum hn ho hq) rfl (w := false) (w' := false) rfl rfl
  exact tFun_sum (S := { dir := dd [((1, 1), ansD (.int .i64 0) id), ((4, 3), ansD (.bool false) id)], know := kk [], loop := noloop }) (k := 60) TY_ok mixed fn17_ok
    (A := RN.Gk x o q n 0 ∧ RN.Go' x o q m k n false ∧ AOut.ret (gErr 1) = .ret (gErr 1)) ⟨g1, g2, rfl⟩ (by kernel_rfl)
theorem rrenumber_zero {x o q : List Int} (hx : x.length = 20 * 0) (ho : o.length = 0) (hq : q.length = 4 * 0) (hc : chk 0 x = 0) (hr : isOrd 0 0 0 o q = true) :
    Sum Tryz.prog 17 [gV 0 0, oS 1 0, pS 2 0] (RN.HA x o q) fun out _ => out = .ret (gErr 0) := by
  have g1 : RN.Gk x o q 0 0 := gives_one (hc ▸ rcheck_sum hx) rfl (w := false) rfl
  have g2 : RN.Go' x o q 0 0 0 true := gives_ord (hr ▸ isorder_sum (by omega) ho hq) rfl (w := false) (w' := false) rfl rfl
  have K := ordOk_of (isOrd_true hr).2.2
  exact tFun_sum (S := { dir := dd (RN.dW x o q 0), know := kk [], loop := loops [(0, ([1, 2, 3, 6, 8, 9, 10], fun _ _ => (.normal, RN.eR 0, RN.K0 x o q 0 (plc o 0)))), (2, ([1, 2, 3, 6, 8, 9, 11, 12], fun _ _ => (.normal, RN.eZ, RN.HT x o q (plc o 0) 0 0)))] }) (k := 60) TY_ok mixed fn17_ok
    (A := RN.Gk x o q 0 0 ∧ RN.Go' x o q 0 0 0 true ∧ RN.MkP x o q 0 ∧ (obs Tryz.prog TY none ([], true) 103).loop 3 (fb Tryz.f17 0) (RN.eP 0 0) (RN.K0 x o q 0 (inl 0 fun _ => 0)) .normal (RN.eR 0) (RN.K0 x o q 0 (plc o 0)) ∧
      (obs Tryz.prog TY none ([], true) 103).loop 3 (fb Tryz.f17 2) (RN.eT 0 0) (RN.P0 x o q 0 (plc o 0)) .normal RN.eZ (RN.HT x o q (plc o 0) 0 0) ∧ AOut.ret (gErr 0) = .ret (gErr 0))
    ⟨g1, g2, RN.mkP (by omega), RN.loopP (by omega) ho K, RN.loop_ok (by omega) hx ho hq (inl_length _ _) (fun v hv => absurd hv (by omega)) hc K, rfl⟩ (by kernel_rfl)
theorem rrenumber_ok {x o q : List Int} {n : Nat} (hn : n ≤ 1000) (h0 : 0 < n) (hx : x.length = 20 * n) (ho : o.length = n) (hq : q.length = 4 * n) (hc : chk n x = 0) (hr : isOrd n n n o q = true) :
    Sum Tryz.prog 17 [gV 0 n, oS 1 n, pS 2 n] (RN.HA x o q) fun out h2 => out = .ret (gRes 3 n 0) ∧ h2 = RN.HA x o q ++ [some ⟨ints (build n (rnF x o q (plc o n))), true⟩] := by
  have g1 : RN.Gk x o q n 0 := gives_one (hc ▸ rcheck_sum hx) rfl (w := false) rfl
  have g2 : RN.Go' x o q n n n true := gives_ord (hr ▸ isorder_sum hn ho hq) rfl (w := false) (w' := false) rfl rfl
  have K := ordOk_of (isOrd_true hr).2.2
  have hlp := RN.loop_ok hn hx ho hq (pl := plc o n) (inl_length _ _) (fun v hv => by unfold plc; rw [cel_inl hv]; exact bk_in o h0 n v (Nat.le_refl _)) hc K
  have e2 : RN.HT x o q (plc o n) n n = RN.P1 x o q n (plc o n) n (build n (rnF x o q (plc o n))) := if_neg (by omega)
  rw [e2] at hlp
  have hs : Sum Tryz.prog 17 [gV 0 n, oS 1 n, pS 2 n] (RN.HA x o q) fun out h2 => out = .ret (gRes 7 n 0) ∧ h2 = RN.Hz x o q (plc o n) n :=
    tFun_sum (S := { dir := dd (RN.dW x o q n), know := kk [], loop := loops [(0, ([1, 2, 3, 6, 8, 9, 10], fun _ _ => (.normal, RN.eR n, RN.K0 x o q n (plc o n)))), (2, ([1, 2, 3, 6, 8, 9, 11, 12], fun _ _ => (.normal, RN.eZ, RN.P1 x o q n (plc o n) n (build n (rnF x o q (plc o n))))))] }) (k := 60) TY_ok mixed fn17_ok
      (A := RN.Gk x o q n 0 ∧ RN.Go' x o q n n n true ∧ RN.MkP x o q n ∧ (obs Tryz.prog TY none ([], true) 103).loop 3 (fb Tryz.f17 0) (RN.eP n 0) (RN.K0 x o q n (inl n fun _ => 0)) .normal (RN.eR n) (RN.K0 x o q n (plc o n)) ∧
        (obs Tryz.prog TY none ([], true) 103).loop 3 (fb Tryz.f17 2) (RN.eT n 0) (RN.P0 x o q n (plc o n)) .normal RN.eZ (RN.P1 x o q n (plc o n) n (build n (rnF x o q (plc o n)))) ∧ AOut.ret (gRes 7 n 0) = .ret (gRes 7 n 0) ∧ RN.Hz x o q (plc o n) n = RN.Hz x o q (plc o n) n)
      ⟨g1, g2, RN.mkP hn, RN.loopP hn ho K, hlp, rfl, rfl⟩ (by kernel_rfl)
  exact Sum.pick (ks := [0, 1, 2, 7]) hs (by kernel_rfl) ⟨⟨_, rfl, subL_plain _ _ (ints_plain x), id⟩, ⟨_, rfl, subL_plain _ _ (ints_plain o), id⟩, ⟨_, rfl, subL_plain _ _ (ints_plain q), id⟩, ⟨_, rfl, subL_plain _ _ (ints_plain _), id⟩, trivial⟩ (by kernel_rfl) ⟨_, rfl, _, _, rfl, sub_gV rfl, _, _, rfl, rfl, rfl⟩
end Go.Ab
