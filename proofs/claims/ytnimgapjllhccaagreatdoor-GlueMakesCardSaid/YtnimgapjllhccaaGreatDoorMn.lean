/- The law GlueMakes returns true over every heap that shows its arguments. Conditions: none beyond the given model and program. -/
import Derived.Test.YtnimgapjllhccaaGreatDoorMk
import Derived.Test.YtnimgapjllhccaaGreatDoorSb
namespace Go.Ab
open Go.Proofs

theorem sane_gives (h : Heap) : Gives Tryz.prog 8 [] h (.ret (.bool true)) h ∧ ∃ x, h = h ++ x :=
  ⟨.inr ⟨_, sane_sum (roH h), fun o h2 hr => .inl ⟨.bool true, hr.1, rfl, rfl, rfl⟩⟩, [], by simp⟩

theorem emb_three {h : Heap} {b c d : Nat} {x y z : List Int} {w w' w'' : Bool} (hb : hblk h b = some ⟨ints x, w⟩) (hc : hblk h c = some ⟨ints y, w'⟩) (hd : hblk h d = some ⟨ints z, w''⟩) : Emb [some b, some c, some d] [some ⟨ints x, false⟩, some ⟨ints y, false⟩, some ⟨ints z, false⟩] (roH h) := by
  refine ⟨rfl, ?_, ?_⟩
  · intro i b2 hi
    match i with
    | 0 => simp [hblk] at hi; subst hi; exact .inl ⟨b, _, rfl, hblk_roH hb, subL_plain _ _ (ints_plain _), fun hh => by cases hh⟩
    | 1 => simp [hblk] at hi; subst hi; exact .inl ⟨c, _, rfl, hblk_roH hc, subL_plain _ _ (ints_plain _), fun hh => by cases hh⟩
    | 2 => simp [hblk] at hi; subst hi; exact .inl ⟨d, _, rfl, hblk_roH hd, subL_plain _ _ (ints_plain _), fun hh => by cases hh⟩
    | i + 3 => simp [hblk] at hi
  · intro i j k b2 b2' _ hi ho
    match i with
    | 0 => simp [hblk] at hi; subst hi; cases ho
    | 1 => simp [hblk] at hi; subst hi; cases ho
    | 2 => simp [hblk] at hi; subst hi; cases ho
    | i + 3 => simp [hblk] at hi
theorem gives_three {f : FuncId} {x o q : List Int} {n a e b c d : Nat} {h : Heap} {w w' w'' : Bool} {v : Value} (hs : Sum Tryz.prog f [gV 0 n, oS 1 a, pS 2 e] (RN.HA x o q) fun out _ => out = .ret v) (hv : plain v = true) (hb : hblk h b = some ⟨ints x, w⟩) (hc : hblk h c = some ⟨ints o, w'⟩) (hd : hblk h d = some ⟨ints q, w''⟩) :
    Gives Tryz.prog f [gV b n, oS c a, pS d e] h (.ret v) h ∧ ∃ y, h = h ++ y :=
  gives_plain hs rfl (emb_three hb hc hd) ⟨_, _, rfl, sub_gV rfl, _, _, rfl, sub_oS rfl, _, _, rfl, sub_pS rfl, rfl⟩ hv
theorem gives_three_new {f : FuncId} {x o q z : List Int} {n a e b c d j : Nat} {h : Heap} {w w' w'' : Bool} {k : Int} (hs : Sum Tryz.prog f [gV 0 n, oS 1 a, pS 2 e] (RN.HA x o q) fun out h2 => out = .ret (gRes 3 j k) ∧ h2 = RN.HA x o q ++ [some ⟨ints z, true⟩]) (hb : hblk h b = some ⟨ints x, w⟩) (hc : hblk h c = some ⟨ints o, w'⟩) (hd : hblk h d = some ⟨ints q, w''⟩) :
    Gives Tryz.prog f [gV b n, oS c a, pS d e] h (.ret (gRes h.length j k)) (h ++ [some ⟨ints z, true⟩]) ∧ ∃ y, h ++ [some ⟨ints z, true⟩] = h ++ y := by
  have := gives_new hs rfl (emb_three hb hc hd) (xs := [gV b n, oS c a, pS d e]) ⟨_, _, rfl, sub_gV rfl, _, _, rfl, sub_oS rfl, _, _, rfl, sub_pS rfl, rfl⟩
  simp only [List.map_cons, List.map_nil, renB, renL_eq] at this
  have e : (ints z).map (ren (backF [some b, some c, some d] h.length)) = ints z := by simp [ints, ren]
  rw [e] at this
  exact this
theorem gives_one_no {f : FuncId} {x : List Int} {h : Heap} {w : Bool} (hs : Sum Tryz.prog f [gV 0 0] [some ⟨ints x, false⟩] fun o h2 => o = .ret GU.gNo ∧ h2 = [some ⟨ints x, false⟩]) (hb : hblk h 0 = some ⟨ints x, w⟩) :
    Gives Tryz.prog f [gV 0 0] h (.ret GU.gNo) h ∧ ∃ y, h = h ++ y := by
  have := gives_new (new := []) (hs.mono fun o h2 hr => ⟨hr.1, by rw [hr.2]; simp⟩) rfl (emb_one hb) (xs := [gV 0 0]) ⟨_, _, rfl, sub_gV rfl, rfl⟩
  rw [List.map_nil, List.append_nil] at this
  exact this
theorem gives_two_no {x y : List Int} {h : Heap} {w w' : Bool} (hs : Sum Tryz.prog 21 [gV 0 0, gV 1 0] [some ⟨ints x, false⟩, some ⟨ints y, false⟩] fun o h2 => o = .ret GU.gNo ∧ h2 = [some ⟨ints x, false⟩, some ⟨ints y, false⟩]) (hb : hblk h 0 = some ⟨ints x, w⟩) (hc : hblk h 1 = some ⟨ints y, w'⟩) :
    Gives Tryz.prog 21 [gV 0 0, gV 1 0] h (.ret GU.gNo) h ∧ ∃ y, h = h ++ y := gives_no hs hb hc

namespace MK
theorem small_gives {x y o q : List Int} {n m : Nat} {r : Bool} (hr : decide (n ≤ 12 ∧ m ≤ 12) = r) : Gv 9 [smArg] (hX x y o q n m) (.bool r) (hX x y o q n m) := by
  subst hr
  refine gives_plain (s := [some 6, some 0, some 1]) (small_sum n m) rfl ⟨rfl, ?_, ?_⟩ ⟨_, _, rfl, .inr ⟨6, rfl, rfl⟩, rfl⟩ rfl
  · intro i b2 hi
    match i with
    | 0 => simp [hblk, SM.H] at hi; subst hi; exact .inl ⟨6, ⟨[gS 0 n, gS 1 m], false⟩, rfl, rfl, ⟨_, _, rfl, sub_gS rfl, _, _, rfl, sub_gS rfl, rfl⟩, fun hh => by cases hh⟩
    | 1 => simp [hblk, SM.H] at hi
    | 2 => simp [hblk, SM.H] at hi
    | i + 3 => simp [hblk, SM.H] at hi
  · intro i j k b2 b2' _ hi ho
    match i with
    | 0 => simp [hblk, SM.H] at hi; subst hi; cases ho
    | 1 => simp [hblk, SM.H] at hi
    | 2 => simp [hblk, SM.H] at hi
    | i + 3 => simp [hblk, SM.H] at hi
end MK

theorem uni_length {x y : List Int} {n m : Nat} (hx : x.length = 20 * n) : (uni x y n m).length = 20 * (n + m) := RU.zU_length hx

theorem mk_runBad {x y o q : List Int} {n m a b : Nat} (hx : x.length = 20 * n) (hy : y.length = 20 * m) (ho : o.length = a) (hq : q.length = 4 * b) (hsm : decide (n ≤ 12 ∧ m ≤ 12) = true) (hs : n ≤ 12 ∧ m ≤ 12) (cx : chk n x = 7) : Sum Tryz.prog 4 [gV 0 n, gV 1 m, oS 2 a, pS 3 b] (MK.hA x y o q) fun out _ => out = .ret (.bool true) := by
  have hc : chk n x = 7 ∨ chk m y = 7 := .inl cx
  exact MK.runBad (n := n) (m := m) (a := a) (b := b)
    (sane_gives _)
    (MK.small_gives hsm)
    (gives_three (rrenumber_bad hx cx) rfl (w := false) (w' := false) (w'' := false) rfl rfl rfl)
    (gives_three (grenumber_bad hx cx) rfl (w := false) (w' := false) (w'' := false) rfl rfl rfl)
    (rsame_nil)
    (gives_two (runion_bad hx hy hc) rfl (w := false) (w' := false) rfl rfl)
    (gives_two (gunion_bad hx hy hc) rfl (w := false) (w' := false) rfl rfl)
    (rsame_nil)
    (gives_one (rtwofold_bad hx cx) rfl (w := false) rfl)
    (gives_one (gtwofold_bad hx cx) rfl (w := false) rfl)
    (rsame_nil)
    (gives_one (rdouble_bad hx cx) rfl (w := false) rfl)
    (gives_one (gdouble_bad hx cx) rfl (w := false) rfl)
    (rsame_nil)

theorem mk_runPNoBad {x y o q : List Int} {n m a b : Nat} (hx : x.length = 20 * n) (hy : y.length = 20 * m) (ho : o.length = a) (hq : q.length = 4 * b) (hsm : decide (n ≤ 12 ∧ m ≤ 12) = true) (hs : n ≤ 12 ∧ m ≤ 12) (cx : chk n x = 0) (hc : chk n x = 7 ∨ chk m y = 7) (hr : isOrd a b n o q = false) (h0 : 0 < n) : Sum Tryz.prog 4 [gV 0 n, gV 1 m, oS 2 a, pS 3 b] (MK.hA x y o q) fun out _ => out = .ret (.bool true) := by
  have hn : n ≤ 1000 := by omega
  exact MK.runPNoBad (n := n) (m := m) (a := a) (b := b) (zt := build (n + n) (gtw x n)) (zd := build (n + n) (gdb x n))
    (sane_gives _)
    (MK.small_gives hsm)
    (gives_three (rrenumber_no hn hx ho hq cx hr) rfl (w := false) (w' := false) (w'' := false) rfl rfl rfl)
    (gives_three (grenumber_no hn hx ho hq cx hr) rfl (w := false) (w' := false) (w'' := false) rfl rfl rfl)
    (rsame_nil)
    (gives_two (runion_bad hx hy hc) rfl (w := false) (w' := false) rfl rfl)
    (gives_two (gunion_bad hx hy hc) rfl (w := false) (w' := false) rfl rfl)
    (rsame_nil)
    (gives_one_new (twL_eq (by omega) cx ▸ rtwofold_ok (by omega) hx cx) (w := false) rfl)
    (gives_one_new (gtwofold_ok (by omega) h0 hx cx (hv_of_chk cx)) (w := false) rfl)
    (gives_two (rsame_sum (by omega) (build_length _ _)) rfl (w := true) (w' := true) rfl rfl)
    (gives_one_new (dbL_eq (by omega) cx ▸ rdouble_ok (by omega) hx cx) (w := false) rfl)
    (gives_one_new (gdouble_ok (by omega) h0 hx cx) (w := false) rfl)
    (gives_two (rsame_sum (by omega) (build_length _ _)) rfl (w := true) (w' := true) rfl rfl)

theorem mk_runPNoOk {x y o q : List Int} {n m a b : Nat} (hx : x.length = 20 * n) (hy : y.length = 20 * m) (ho : o.length = a) (hq : q.length = 4 * b) (hsm : decide (n ≤ 12 ∧ m ≤ 12) = true) (hs : n ≤ 12 ∧ m ≤ 12) (cx : chk n x = 0) (cy : chk m y = 0) (hr : isOrd a b n o q = false) (h0 : 0 < n) (hp : 0 < n + m) : Sum Tryz.prog 4 [gV 0 n, gV 1 m, oS 2 a, pS 3 b] (MK.hA x y o q) fun out _ => out = .ret (.bool true) := by
  have hn : n ≤ 1000 := by omega
  exact MK.runPNoOk (n := n) (m := m) (a := a) (b := b) (zu := uni x y n m) (zt := build (n + n) (gtw x n)) (zd := build (n + n) (gdb x n))
    (sane_gives _)
    (MK.small_gives hsm)
    (gives_three (rrenumber_no hn hx ho hq cx hr) rfl (w := false) (w' := false) (w'' := false) rfl rfl rfl)
    (gives_three (grenumber_no hn hx ho hq cx hr) rfl (w := false) (w' := false) (w'' := false) rfl rfl rfl)
    (rsame_nil)
    (gives_two_new (runion_ok (by omega) hx hy cx cy) (w := false) (w' := false) rfl rfl)
    (gives_two_new (gunion_ok (by omega) (by omega) hx hy cx cy) (w := false) (w' := false) rfl rfl)
    (gives_two (rsame_sum (by omega) (uni_length hx)) rfl (w := true) (w' := true) rfl rfl)
    (gives_one_new (twL_eq (by omega) cx ▸ rtwofold_ok (by omega) hx cx) (w := false) rfl)
    (gives_one_new (gtwofold_ok (by omega) h0 hx cx (hv_of_chk cx)) (w := false) rfl)
    (gives_two (rsame_sum (by omega) (build_length _ _)) rfl (w := true) (w' := true) rfl rfl)
    (gives_one_new (dbL_eq (by omega) cx ▸ rdouble_ok (by omega) hx cx) (w := false) rfl)
    (gives_one_new (gdouble_ok (by omega) h0 hx cx) (w := false) rfl)
    (gives_two (rsame_sum (by omega) (build_length _ _)) rfl (w := true) (w' := true) rfl rfl)

theorem mk_runPOkBad {x y o q : List Int} {n m : Nat} (hx : x.length = 20 * n) (hy : y.length = 20 * m) (ho : o.length = n) (hq : q.length = 4 * n) (hsm : decide (n ≤ 12 ∧ m ≤ 12) = true) (hs : n ≤ 12 ∧ m ≤ 12) (cx : chk n x = 0) (hc : chk n x = 7 ∨ chk m y = 7) (hr : isOrd n n n o q = true) (h0 : 0 < n) : Sum Tryz.prog 4 [gV 0 n, gV 1 m, oS 2 n, pS 3 n] (MK.hA x y o q) fun out _ => out = .ret (.bool true) := by
  have hn : n ≤ 1000 := by omega
  exact MK.runPOkBad (n := n) (m := m) (a := n) (b := n) (za := build n (rnF x o q (plc o n))) (zt := build (n + n) (gtw x n)) (zd := build (n + n) (gdb x n))
    (sane_gives _)
    (MK.small_gives hsm)
    (gives_three_new (rrenumber_ok hn h0 hx ho hq cx hr) (w := false) (w' := false) (w'' := false) rfl rfl rfl)
    (gives_three_new (grenumber_ok hn h0 hx ho hq cx hr) (w := false) (w' := false) (w'' := false) rfl rfl rfl)
    (gives_two (rsame_sum (by omega) (build_length _ _)) rfl (w := true) (w' := true) rfl rfl)
    (gives_two (runion_bad hx hy hc) rfl (w := false) (w' := false) rfl rfl)
    (gives_two (gunion_bad hx hy hc) rfl (w := false) (w' := false) rfl rfl)
    (rsame_nil)
    (gives_one_new (twL_eq (by omega) cx ▸ rtwofold_ok (by omega) hx cx) (w := false) rfl)
    (gives_one_new (gtwofold_ok (by omega) h0 hx cx (hv_of_chk cx)) (w := false) rfl)
    (gives_two (rsame_sum (by omega) (build_length _ _)) rfl (w := true) (w' := true) rfl rfl)
    (gives_one_new (dbL_eq (by omega) cx ▸ rdouble_ok (by omega) hx cx) (w := false) rfl)
    (gives_one_new (gdouble_ok (by omega) h0 hx cx) (w := false) rfl)
    (gives_two (rsame_sum (by omega) (build_length _ _)) rfl (w := true) (w' := true) rfl rfl)

theorem mk_runPOkOk {x y o q : List Int} {n m : Nat} (hx : x.length = 20 * n) (hy : y.length = 20 * m) (ho : o.length = n) (hq : q.length = 4 * n) (hsm : decide (n ≤ 12 ∧ m ≤ 12) = true) (hs : n ≤ 12 ∧ m ≤ 12) (cx : chk n x = 0) (cy : chk m y = 0) (hr : isOrd n n n o q = true) (h0 : 0 < n) (hp : 0 < n + m) : Sum Tryz.prog 4 [gV 0 n, gV 1 m, oS 2 n, pS 3 n] (MK.hA x y o q) fun out _ => out = .ret (.bool true) := by
  have hn : n ≤ 1000 := by omega
  exact MK.runPOkOk (n := n) (m := m) (a := n) (b := n) (za := build n (rnF x o q (plc o n))) (zu := uni x y n m) (zt := build (n + n) (gtw x n)) (zd := build (n + n) (gdb x n))
    (sane_gives _)
    (MK.small_gives hsm)
    (gives_three_new (rrenumber_ok hn h0 hx ho hq cx hr) (w := false) (w' := false) (w'' := false) rfl rfl rfl)
    (gives_three_new (grenumber_ok hn h0 hx ho hq cx hr) (w := false) (w' := false) (w'' := false) rfl rfl rfl)
    (gives_two (rsame_sum (by omega) (build_length _ _)) rfl (w := true) (w' := true) rfl rfl)
    (gives_two_new (runion_ok (by omega) hx hy cx cy) (w := false) (w' := false) rfl rfl)
    (gives_two_new (gunion_ok (by omega) (by omega) hx hy cx cy) (w := false) (w' := false) rfl rfl)
    (gives_two (rsame_sum (by omega) (uni_length hx)) rfl (w := true) (w' := true) rfl rfl)
    (gives_one_new (twL_eq (by omega) cx ▸ rtwofold_ok (by omega) hx cx) (w := false) rfl)
    (gives_one_new (gtwofold_ok (by omega) h0 hx cx (hv_of_chk cx)) (w := false) rfl)
    (gives_two (rsame_sum (by omega) (build_length _ _)) rfl (w := true) (w' := true) rfl rfl)
    (gives_one_new (dbL_eq (by omega) cx ▸ rdouble_ok (by omega) hx cx) (w := false) rfl)
    (gives_one_new (gdouble_ok (by omega) h0 hx cx) (w := false) rfl)
    (gives_two (rsame_sum (by omega) (build_length _ _)) rfl (w := true) (w' := true) rfl rfl)

theorem mk_runZNoBad {x y o q : List Int} {m a b : Nat} (hx : x.length = 20 * 0) (hy : y.length = 20 * m) (ho : o.length = a) (hq : q.length = 4 * b) (hsm : decide (0 ≤ 12 ∧ m ≤ 12) = true) (hs : 0 ≤ 12 ∧ m ≤ 12) (cx : chk 0 x = 0) (hc : chk 0 x = 7 ∨ chk m y = 7) (hr : isOrd a b 0 o q = false) : Sum Tryz.prog 4 [gV 0 0, gV 1 m, oS 2 a, pS 3 b] (MK.hA x y o q) fun out _ => out = .ret (.bool true) := by
  have hn : 0 ≤ 1000 := by omega
  exact MK.runZNoBad (n := 0) (m := m) (a := a) (b := b) (zt := build (0 + 0) (gtw x 0)) (zd := build (0 + 0) (gdb x 0))
    (sane_gives _)
    (MK.small_gives hsm)
    (gives_three (rrenumber_no hn hx ho hq cx hr) rfl (w := false) (w' := false) (w'' := false) rfl rfl rfl)
    (gives_three (grenumber_no hn hx ho hq cx hr) rfl (w := false) (w' := false) (w'' := false) rfl rfl rfl)
    (rsame_nil)
    (gives_two (runion_bad hx hy hc) rfl (w := false) (w' := false) rfl rfl)
    (gives_two (gunion_bad hx hy hc) rfl (w := false) (w' := false) rfl rfl)
    (rsame_nil)
    (gives_one_new (twL_eq (by omega) cx ▸ rtwofold_ok (by omega) hx cx) (w := false) rfl)
    (gives_one_no (gtwofold_no hx cx) (w := false) rfl)
    (rsame_no)
    (gives_one_new (dbL_eq (by omega) cx ▸ rdouble_ok (by omega) hx cx) (w := false) rfl)
    (gives_one_no (gdouble_no hx cx) (w := false) rfl)
    (rsame_no)

theorem mk_runZNoNo {x y o q : List Int} {a b : Nat} (hx : x.length = 20 * 0) (hy : y.length = 20 * 0) (ho : o.length = a) (hq : q.length = 4 * b) (hsm : decide (0 ≤ 12 ∧ 0 ≤ 12) = true) (hs : 0 ≤ 12 ∧ 0 ≤ 12) (cx : chk 0 x = 0) (cy : chk 0 y = 0) (hr : isOrd a b 0 o q = false) : Sum Tryz.prog 4 [gV 0 0, gV 1 0, oS 2 a, pS 3 b] (MK.hA x y o q) fun out _ => out = .ret (.bool true) := by
  have hn : 0 ≤ 1000 := by omega
  exact MK.runZNoNo (n := 0) (m := 0) (a := a) (b := b) (zu := uni x y 0 0) (zt := build (0 + 0) (gtw x 0)) (zd := build (0 + 0) (gdb x 0))
    (sane_gives _)
    (MK.small_gives hsm)
    (gives_three (rrenumber_no hn hx ho hq cx hr) rfl (w := false) (w' := false) (w'' := false) rfl rfl rfl)
    (gives_three (grenumber_no hn hx ho hq cx hr) rfl (w := false) (w' := false) (w'' := false) rfl rfl rfl)
    (rsame_nil)
    (gives_two_new (runion_ok (by omega) hx hy cx cy) (w := false) (w' := false) rfl rfl)
    (gives_two_no (gunion_no hx hy cx cy) (w := false) (w' := false) rfl rfl)
    (rsame_no)
    (gives_one_new (twL_eq (by omega) cx ▸ rtwofold_ok (by omega) hx cx) (w := false) rfl)
    (gives_one_no (gtwofold_no hx cx) (w := false) rfl)
    (rsame_no)
    (gives_one_new (dbL_eq (by omega) cx ▸ rdouble_ok (by omega) hx cx) (w := false) rfl)
    (gives_one_no (gdouble_no hx cx) (w := false) rfl)
    (rsame_no)

theorem mk_runZNoOk {x y o q : List Int} {m a b : Nat} (hx : x.length = 20 * 0) (hy : y.length = 20 * m) (ho : o.length = a) (hq : q.length = 4 * b) (hsm : decide (0 ≤ 12 ∧ m ≤ 12) = true) (hs : 0 ≤ 12 ∧ m ≤ 12) (cx : chk 0 x = 0) (cy : chk m y = 0) (hr : isOrd a b 0 o q = false) (hp : 0 < 0 + m) : Sum Tryz.prog 4 [gV 0 0, gV 1 m, oS 2 a, pS 3 b] (MK.hA x y o q) fun out _ => out = .ret (.bool true) := by
  have hn : 0 ≤ 1000 := by omega
  exact MK.runZNoOk (n := 0) (m := m) (a := a) (b := b) (zu := uni x y 0 m) (zt := build (0 + 0) (gtw x 0)) (zd := build (0 + 0) (gdb x 0))
    (sane_gives _)
    (MK.small_gives hsm)
    (gives_three (rrenumber_no hn hx ho hq cx hr) rfl (w := false) (w' := false) (w'' := false) rfl rfl rfl)
    (gives_three (grenumber_no hn hx ho hq cx hr) rfl (w := false) (w' := false) (w'' := false) rfl rfl rfl)
    (rsame_nil)
    (gives_two_new (runion_ok (by omega) hx hy cx cy) (w := false) (w' := false) rfl rfl)
    (gives_two_new (gunion_ok (by omega) (by omega) hx hy cx cy) (w := false) (w' := false) rfl rfl)
    (gives_two (rsame_sum (by omega) (uni_length hx)) rfl (w := true) (w' := true) rfl rfl)
    (gives_one_new (twL_eq (by omega) cx ▸ rtwofold_ok (by omega) hx cx) (w := false) rfl)
    (gives_one_no (gtwofold_no hx cx) (w := false) rfl)
    (rsame_no)
    (gives_one_new (dbL_eq (by omega) cx ▸ rdouble_ok (by omega) hx cx) (w := false) rfl)
    (gives_one_no (gdouble_no hx cx) (w := false) rfl)
    (rsame_no)

theorem mk_runZZeroBad {x y o q : List Int} {m : Nat} (hx : x.length = 20 * 0) (hy : y.length = 20 * m) (ho : o.length = 0) (hq : q.length = 4 * 0) (hsm : decide (0 ≤ 12 ∧ m ≤ 12) = true) (hs : 0 ≤ 12 ∧ m ≤ 12) (cx : chk 0 x = 0) (hc : chk 0 x = 7 ∨ chk m y = 7) (hr : isOrd 0 0 0 o q = true) : Sum Tryz.prog 4 [gV 0 0, gV 1 m, oS 2 0, pS 3 0] (MK.hA x y o q) fun out _ => out = .ret (.bool true) := by
  exact MK.runZZeroBad (n := 0) (m := m) (a := 0) (b := 0) (zt := build (0 + 0) (gtw x 0)) (zd := build (0 + 0) (gdb x 0))
    (sane_gives _)
    (MK.small_gives hsm)
    (gives_three (rrenumber_zero hx ho hq cx hr) rfl (w := false) (w' := false) (w'' := false) rfl rfl rfl)
    (gives_three (grenumber_zero hx ho hq cx hr) rfl (w := false) (w' := false) (w'' := false) rfl rfl rfl)
    (rsame_nil)
    (gives_two (runion_bad hx hy hc) rfl (w := false) (w' := false) rfl rfl)
    (gives_two (gunion_bad hx hy hc) rfl (w := false) (w' := false) rfl rfl)
    (rsame_nil)
    (gives_one_new (twL_eq (by omega) cx ▸ rtwofold_ok (by omega) hx cx) (w := false) rfl)
    (gives_one_no (gtwofold_no hx cx) (w := false) rfl)
    (rsame_no)
    (gives_one_new (dbL_eq (by omega) cx ▸ rdouble_ok (by omega) hx cx) (w := false) rfl)
    (gives_one_no (gdouble_no hx cx) (w := false) rfl)
    (rsame_no)

theorem mk_runZZeroNo {x y o q : List Int} (hx : x.length = 20 * 0) (hy : y.length = 20 * 0) (ho : o.length = 0) (hq : q.length = 4 * 0) (hsm : decide (0 ≤ 12 ∧ 0 ≤ 12) = true) (hs : 0 ≤ 12 ∧ 0 ≤ 12) (cx : chk 0 x = 0) (cy : chk 0 y = 0) (hr : isOrd 0 0 0 o q = true) : Sum Tryz.prog 4 [gV 0 0, gV 1 0, oS 2 0, pS 3 0] (MK.hA x y o q) fun out _ => out = .ret (.bool true) := by
  exact MK.runZZeroNo (n := 0) (m := 0) (a := 0) (b := 0) (zu := uni x y 0 0) (zt := build (0 + 0) (gtw x 0)) (zd := build (0 + 0) (gdb x 0))
    (sane_gives _)
    (MK.small_gives hsm)
    (gives_three (rrenumber_zero hx ho hq cx hr) rfl (w := false) (w' := false) (w'' := false) rfl rfl rfl)
    (gives_three (grenumber_zero hx ho hq cx hr) rfl (w := false) (w' := false) (w'' := false) rfl rfl rfl)
    (rsame_nil)
    (gives_two_new (runion_ok (by omega) hx hy cx cy) (w := false) (w' := false) rfl rfl)
    (gives_two_no (gunion_no hx hy cx cy) (w := false) (w' := false) rfl rfl)
    (rsame_no)
    (gives_one_new (twL_eq (by omega) cx ▸ rtwofold_ok (by omega) hx cx) (w := false) rfl)
    (gives_one_no (gtwofold_no hx cx) (w := false) rfl)
    (rsame_no)
    (gives_one_new (dbL_eq (by omega) cx ▸ rdouble_ok (by omega) hx cx) (w := false) rfl)
    (gives_one_no (gdouble_no hx cx) (w := false) rfl)
    (rsame_no)

theorem mk_runZZeroOk {x y o q : List Int} {m : Nat} (hx : x.length = 20 * 0) (hy : y.length = 20 * m) (ho : o.length = 0) (hq : q.length = 4 * 0) (hsm : decide (0 ≤ 12 ∧ m ≤ 12) = true) (hs : 0 ≤ 12 ∧ m ≤ 12) (cx : chk 0 x = 0) (cy : chk m y = 0) (hr : isOrd 0 0 0 o q = true) (hp : 0 < 0 + m) : Sum Tryz.prog 4 [gV 0 0, gV 1 m, oS 2 0, pS 3 0] (MK.hA x y o q) fun out _ => out = .ret (.bool true) := by
  exact MK.runZZeroOk (n := 0) (m := m) (a := 0) (b := 0) (zu := uni x y 0 m) (zt := build (0 + 0) (gtw x 0)) (zd := build (0 + 0) (gdb x 0))
    (sane_gives _)
    (MK.small_gives hsm)
    (gives_three (rrenumber_zero hx ho hq cx hr) rfl (w := false) (w' := false) (w'' := false) rfl rfl rfl)
    (gives_three (grenumber_zero hx ho hq cx hr) rfl (w := false) (w' := false) (w'' := false) rfl rfl rfl)
    (rsame_nil)
    (gives_two_new (runion_ok (by omega) hx hy cx cy) (w := false) (w' := false) rfl rfl)
    (gives_two_new (gunion_ok (by omega) (by omega) hx hy cx cy) (w := false) (w' := false) rfl rfl)
    (gives_two (rsame_sum (by omega) (uni_length hx)) rfl (w := true) (w' := true) rfl rfl)
    (gives_one_new (twL_eq (by omega) cx ▸ rtwofold_ok (by omega) hx cx) (w := false) rfl)
    (gives_one_no (gtwofold_no hx cx) (w := false) rfl)
    (rsame_no)
    (gives_one_new (dbL_eq (by omega) cx ▸ rdouble_ok (by omega) hx cx) (w := false) rfl)
    (gives_one_no (gdouble_no hx cx) (w := false) rfl)
    (rsame_no)

/-- THE LAW's CONTRACT: it answers true. -/
theorem makes_sum {x y o q : List Int} {n m a b : Nat} (hx : x.length = 20 * n) (hy : y.length = 20 * m) (ho : o.length = a) (hq : q.length = 4 * b) :
    Sum Tryz.prog 4 [gV 0 n, gV 1 m, oS 2 a, pS 3 b] (MK.hA x y o q) fun out _ => out = .ret (.bool true) := by
  by_cases hs : n ≤ 12 ∧ m ≤ 12
  · have hsm : decide (n ≤ 12 ∧ m ≤ 12) = true := by simpa using hs
    rcases chk_cases n x with cx | cx
    · by_cases h0 : 0 < n
      · cases hr : isOrd a b n o q with
        | false =>
          rcases chk_cases m y with cy | cy
          · exact mk_runPNoOk hx hy ho hq hsm hs cx cy hr h0 (by omega)
          · exact mk_runPNoBad hx hy ho hq hsm hs cx (.inr cy) hr h0
        | true =>
          obtain ⟨e1, e2, _⟩ := isOrd_true hr
          subst e1; subst e2
          rcases chk_cases m y with cy | cy
          · exact mk_runPOkOk hx hy ho hq hsm hs cx cy hr h0 (by omega)
          · exact mk_runPOkBad hx hy ho hq hsm hs cx (.inr cy) hr h0
      · have : n = 0 := by omega
        subst this
        cases hr : isOrd a b 0 o q with
        | false =>
          rcases chk_cases m y with cy | cy
          · by_cases hm : 0 < m
            · exact mk_runZNoOk hx hy ho hq hsm hs cx cy hr (by omega)
            · have : m = 0 := by omega
              subst this
              exact mk_runZNoNo hx hy ho hq hsm hs cx cy hr
          · exact mk_runZNoBad hx hy ho hq hsm hs cx (.inr cy) hr
        | true =>
          obtain ⟨e1, e2, _⟩ := isOrd_true hr
          subst e1; subst e2
          rcases chk_cases m y with cy | cy
          · by_cases hm : 0 < m
            · exact mk_runZZeroOk hx hy ho hq hsm hs cx cy hr (by omega)
            · have : m = 0 := by omega
              subst this
              exact mk_runZZeroNo hx hy ho hq hsm hs cx cy hr
          · exact mk_runZZeroBad hx hy ho hq hsm hs cx (.inr cy) hr
    · exact mk_runBad hx hy ho hq hsm hs cx
  · exact MK.runSmall (sane_gives _) (MK.small_gives (by simpa using hs))
end Go.Ab
