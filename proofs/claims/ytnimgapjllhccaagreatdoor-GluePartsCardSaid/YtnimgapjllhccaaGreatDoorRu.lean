/- The function Union of the specification answers for all gluings. Conditions: none beyond the given model and program. -/
import Derived.Test.YtnimgapjllhccaaGreatDoorMv
import Derived.Test.YtnimgapjllhccaaGreatDoorRc
namespace Go.Ab
open Go.Proofs

/-- Two gluings side by side. -/
def uni (x y : List Int) (n m : Nat) : List Int := x ++ build m (shF (fc y) n)

namespace RU
def H (x y : List Int) (n m k : Nat) (z : List Int) : Heap := [some ⟨ints x, false⟩, some ⟨ints y, false⟩, some ⟨[gS 0 n], true⟩, some ⟨[gS 1 m], true⟩, some ⟨[.slice none 0 0], true⟩, none, some ⟨ints z, true⟩, some ⟨[gS 6 k], true⟩]
def eT (t : Nat) : List (Nat × Value) := [(2, .pointer (some ⟨2, 0, none⟩)), (3, .pointer (some ⟨3, 0, none⟩)), (4, .pointer (some ⟨4, 0, none⟩)), (6, .pointer (some ⟨7, 0, none⟩)), (7, .int .i64 t)]
def eW (t : Nat) : List (Nat × Value) := [(2, .pointer (some ⟨2, 0, none⟩)), (3, .pointer (some ⟨3, 0, none⟩)), (4, .pointer (some ⟨4, 0, none⟩)), (6, .pointer (some ⟨7, 0, none⟩)), (7, .int .i64 (IntKind.i64.wrap ((t : Int) + 1)))]
def eE : List (Nat × Value) := [(4, .pointer (some ⟨4, 0, none⟩)), (6, .pointer (some ⟨7, 0, none⟩))]
theorem ok0 : codeOk 53 (lb Tryz.f20 0) = true := by kernel_rfl
def B (x y : List Int) (n m k t : Nat) (z : List Int) (ax : AX) (l : List (Nat × Value)) (h' : Heap) : Prop := Comes none ([], true) Tryz.prog 53 2 (lb Tryz.f20 0) (eT t) (H x y n m k z) ax l h'

/-- What a round leaves. -/
def H9 (x y : List Int) (n m k : Nat) (z : List Int) (a b c d : Fc) : Heap := [some ⟨ints x, false⟩, some ⟨ints y, false⟩, some ⟨[gS 0 n], true⟩, some ⟨[gS 1 m], true⟩, some ⟨[.slice none 0 0], true⟩, none, none, some ⟨[gS 9 k], true⟩, some ⟨c4 a b c d, true⟩, some ⟨ints z ++ c4 a b c d, true⟩]
def Hp (x y : List Int) (n m k : Nat) (z : List Int) (a b c d : Fc) : Heap := [some ⟨ints x, false⟩, some ⟨ints y, false⟩, some ⟨[gS 0 n], true⟩, some ⟨[gS 1 m], true⟩, some ⟨[.slice none 0 0], true⟩, none, some ⟨ints z, true⟩, some ⟨[gS 6 k], true⟩, some ⟨c4 a b c d, true⟩]
def Hq (x y : List Int) (n m k : Nat) (z : List Int) (a b c d : Fc) : Heap := [some ⟨ints x, false⟩, some ⟨ints y, false⟩, some ⟨[gS 0 n], true⟩, some ⟨[gS 1 m], true⟩, some ⟨[.slice none 0 0], true⟩, none, none, some ⟨[gS 6 k], true⟩, some ⟨c4 a b c d, true⟩, some ⟨ints z ++ c4 a b c d, true⟩]
def AppP (x y : List Int) (n m k : Nat) (z : List Int) (a b c d : Fc) : Prop := aAppend TY 2 22 22 (gS 6 k) (.slice (some ⟨8, 0, none⟩) 1 20) (Hp x y n m k z a b c d) = some (gS 9 (k + 1), Hq x y n m k z a b c d)
theorem app_ok {x y z : List Int} {n m k : Nat} {a b c d : Fc} (hk : k ≤ 2000) (hz : z.length = 20 * k) : AppP x y n m k z a b c d :=
  app_own22 (m := 1) (zs := ints z) (ys := c4 a b c d) (by kernel_rfl) (Nat.le_of_ble_eq_true rfl) (by rw [ints_length]; omega) (by kernel_rfl) (by kernel_rfl) (by kernel_rfl) (by kernel_rfl) (by omega)

theorem pk {x y z z2 : List Int} {n m k t : Nat} {a b c d : Fc} (hc : ints z2 = ints z ++ c4 a b c d) (hw : IntKind.i64.wrap ((t : Int) + 1) = ((t + 1 : Nat) : Int)) (e : Env) (he : ∀ p ∈ eW t, e p.1 = some p.2) : Ref 2 (envL (mkE 53 (eT (t + 1)))) (H x y n m (k + 1) z2) e (H9 x y n m (k + 1) z a b c d) := by
  refine Ref.pick (ks := [0, 1, 2, 3, 4, 5, 9, 7]) (by kernel_rfl) ⟨⟨_, rfl, subL_plain _ _ (ints_plain x), id⟩, ⟨_, rfl, subL_plain _ _ (ints_plain y), id⟩, ⟨_, rfl, ⟨_, _, rfl, .inr ⟨0, rfl, rfl⟩, rfl⟩, id⟩, ⟨_, rfl, ⟨_, _, rfl, .inr ⟨1, rfl, rfl⟩, rfl⟩, id⟩, ⟨_, rfl, subL_plain _ _ rfl, id⟩,
    ⟨_, rfl, by rw [hc]; exact subL_plain _ _ (by rw [← hc]; exact ints_plain z2), id⟩, ⟨_, rfl, ⟨_, _, rfl, .inr ⟨9, rfl, rfl⟩, rfl⟩, id⟩, trivial⟩ (by kernel_rfl) ?_
  intro p hp
  simp only [eT, List.mem_cons, List.not_mem_nil, or_false] at hp
  rcases hp with rfl | rfl | rfl | rfl | rfl
  · exact ⟨_, he _ (.head _), 2, rfl, rfl⟩
  · exact ⟨_, he _ (.tail _ (.head _)), 3, rfl, rfl⟩
  · exact ⟨_, he _ (.tail _ (.tail _ (.head _))), 4, rfl, rfl⟩
  · exact ⟨_, he _ (.tail _ (.tail _ (.tail _ (.head _)))), 7, rfl, rfl⟩
  · have h12 := he (7, .int .i64 (IntKind.i64.wrap ((t : Int) + 1))) (.tail _ (.tail _ (.tail _ (.tail _ (.head _)))))
    rw [hw] at h12
    exact ⟨_, h12, rfl⟩

theorem bStep {x y z z2 : List Int} {n m k t : Nat} {a b c d a' b' c' d' : Fc} (h1 : ilt (t : Int) m = true) (h2 : 0 ≤ (t : Int) ∧ (t : Int) < (m : Int)) (hrd : readCells (H x y n m k z) ⟨1, 0 + t * 20, none⟩ 20 = some (c4 a b c d)) (hmv : Plain Tryz.prog 47 [.agg ⟨c4 a b c d⟩, .int .i64 n] (.agg ⟨c4 a' b' c' d'⟩))
    (happ : AppP x y n m k z a' b' c' d') (hc : ints z2 = ints z ++ c4 a' b' c' d') (hw : IntKind.i64.wrap ((t : Int) + 1) = ((t + 1 : Nat) : Int)) : B x y n m k t z .normal (eT (t + 1)) (H x y n m (k + 1) z2) :=
  comes_pick (S := { dir := dd [((9, 5), ixD), ((9, 6), ldC (c4 a b c d)), ((9, 10), plD (.agg ⟨c4 a' b' c' d'⟩)), ((9, 12), (none, .app fun _ _ => (gS 9 (k + 1), Hq x y n m k z a' b' c' d')))], know := kk [(35, true)], loop := noloop }) (k := 60) (ts := [2, 3, 4, 6, 7])
    (l0 := eW t) (h0 := H9 x y n m (k + 1) z a' b' c' d')
    (A := (ilt (t : Int) m = true) ∧ (0 ≤ (t : Int) ∧ (t : Int) < (m : Int)) ∧ (readCells (H x y n m k z) ⟨1, 0 + t * 20, none⟩ 20 = some (c4 a b c d)) ∧ Plain Tryz.prog 47 [.agg ⟨c4 a b c d⟩, .int .i64 n] (.agg ⟨c4 a' b' c' d'⟩) ∧
      AppP x y n m k z a' b' c' d' ∧ Dn .normal (eW t) (H9 x y n m (k + 1) z a' b' c' d'))
    TY_ok mixed ok0 (fun e he => pk hc hw e he) ⟨h1, h2, hrd, hmv, happ, dn _ _ _⟩ (by kernel_rfl)
end RU
end Go.Ab

namespace Go.Ab
open Go.Proofs

theorem hblk_roH {h : Heap} {b : Nat} {bl : Blk} (hb : hblk h b = some bl) : hblk (roH h) b = some ⟨bl.cells, false⟩ := by
  unfold hblk at hb ⊢
  simp only [roH, List.getElem?_map]
  cases hy : h[b]? with
  | none => simp [hy] at hb
  | some y => rw [hy] at hb; simp at hb; subst hb; rfl

theorem emb_one {h : Heap} {b : Nat} {x : List Int} {w : Bool} (hb : hblk h b = some ⟨ints x, w⟩) : Emb [some b] [some ⟨ints x, false⟩] (roH h) := by
  refine ⟨rfl, ?_, ?_⟩
  · intro i b2 hi
    match i with
    | 0 => simp [hblk] at hi; subst hi; exact .inl ⟨b, _, rfl, hblk_roH hb, subL_plain _ _ (ints_plain _), fun hh => by cases hh⟩
    | i + 1 => simp [hblk] at hi
  · intro i j k b2 b2' _ hi ho
    match i with
    | 0 => simp [hblk] at hi; subst hi; cases ho
    | i + 1 => simp [hblk] at hi

theorem emb_two {h : Heap} {b c : Nat} {x y : List Int} {w w' : Bool} (hb : hblk h b = some ⟨ints x, w⟩) (hc : hblk h c = some ⟨ints y, w'⟩) : Emb [some b, some c] [some ⟨ints x, false⟩, some ⟨ints y, false⟩] (roH h) := by
  refine ⟨rfl, ?_, ?_⟩
  · intro i b2 hi
    match i with
    | 0 => simp [hblk] at hi; subst hi; exact .inl ⟨b, _, rfl, hblk_roH hb, subL_plain _ _ (ints_plain _), fun hh => by cases hh⟩
    | 1 => simp [hblk] at hi; subst hi; exact .inl ⟨c, _, rfl, hblk_roH hc, subL_plain _ _ (ints_plain _), fun hh => by cases hh⟩
    | i + 2 => simp [hblk] at hi
  · intro i j k b2 b2' _ hi ho
    match i with
    | 0 => simp [hblk] at hi; subst hi; cases ho
    | 1 => simp [hblk] at hi; subst hi; cases ho
    | i + 2 => simp [hblk] at hi

/-- The slice as a part of the heap shows it. -/
theorem sub_gS {s : List (Option Nat)} {i b n : Nat} (h : s[i]? = some (some b)) : sub s (gS i n) (gS b n) := .inr ⟨b, h, rfl⟩
theorem sub_gV {s : List (Option Nat)} {i b n : Nat} (h : s[i]? = some (some b)) : sub s (gV i n) (gV b n) := ⟨[gS b n], rfl, gS b n, [], rfl, sub_gS h, rfl⟩

theorem gives_one {f : FuncId} {x : List Int} {n b : Nat} {h : Heap} {w : Bool} {v : Value} (hs : Sum Tryz.prog f [gV 0 n] [some ⟨ints x, false⟩] fun o _ => o = .ret v) (hv : plain v = true) (hb : hblk h b = some ⟨ints x, w⟩) :
    Gives Tryz.prog f [gV b n] h (.ret v) h ∧ ∃ y, h = h ++ y :=
  gives_plain hs rfl (emb_one hb) ⟨_, _, rfl, sub_gV rfl, rfl⟩ hv
theorem gives_two {f : FuncId} {x y : List Int} {n m b c : Nat} {h : Heap} {w w' : Bool} {v : Value} (hs : Sum Tryz.prog f [gV 0 n, gV 1 m] [some ⟨ints x, false⟩, some ⟨ints y, false⟩] fun o _ => o = .ret v) (hv : plain v = true) (hb : hblk h b = some ⟨ints x, w⟩) (hc : hblk h c = some ⟨ints y, w'⟩) :
    Gives Tryz.prog f [gV b n, gV c m] h (.ret v) h ∧ ∃ y, h = h ++ y :=
  gives_plain hs rfl (emb_two hb hc) ⟨_, _, rfl, sub_gV rfl, _, _, rfl, sub_gV rfl, rfl⟩ hv

/-- A result that is a new gluing, with an error number. -/
def gRes (b n : Nat) (k : Int) : Value := .tuple ⟨[gV b n, .int .i64 k]⟩
def gErr (k : Int) : Value := .tuple ⟨[.agg ⟨[.slice none 0 0]⟩, .int .i64 k]⟩
theorem gives_one_new {f : FuncId} {x z : List Int} {n m b : Nat} {h : Heap} {w : Bool} {k : Int} (hs : Sum Tryz.prog f [gV 0 n] [some ⟨ints x, false⟩] fun o h2 => o = .ret (gRes 1 m k) ∧ h2 = [some ⟨ints x, false⟩] ++ [some ⟨ints z, true⟩]) (hb : hblk h b = some ⟨ints x, w⟩) :
    Gives Tryz.prog f [gV b n] h (.ret (gRes h.length m k)) (h ++ [some ⟨ints z, true⟩]) ∧ ∃ y, h ++ [some ⟨ints z, true⟩] = h ++ y := by
  have := gives_new hs rfl (emb_one hb) (xs := [gV b n]) ⟨_, _, rfl, sub_gV rfl, rfl⟩
  simp only [List.map_cons, List.map_nil, renB, renL_eq] at this
  have e : (ints z).map (ren (backF [some b] h.length)) = ints z := by simp [ints, ren]
  rw [e] at this
  exact this
theorem gives_two_new {f : FuncId} {x y z : List Int} {n m b c j : Nat} {h : Heap} {w w' : Bool} {k : Int} (hs : Sum Tryz.prog f [gV 0 n, gV 1 m] [some ⟨ints x, false⟩, some ⟨ints y, false⟩] fun o h2 => o = .ret (gRes 2 j k) ∧ h2 = [some ⟨ints x, false⟩, some ⟨ints y, false⟩] ++ [some ⟨ints z, true⟩]) (hb : hblk h b = some ⟨ints x, w⟩) (hc : hblk h c = some ⟨ints y, w'⟩) :
    Gives Tryz.prog f [gV b n, gV c m] h (.ret (gRes h.length j k)) (h ++ [some ⟨ints z, true⟩]) ∧ ∃ y, h ++ [some ⟨ints z, true⟩] = h ++ y := by
  have := gives_new hs rfl (emb_two hb hc) (xs := [gV b n, gV c m]) ⟨_, _, rfl, sub_gV rfl, _, _, rfl, sub_gV rfl, rfl⟩
  simp only [List.map_cons, List.map_nil, renB, renL_eq] at this
  have e : (ints z).map (ren (backF [some b, some c] h.length)) = ints z := by simp [ints, ren]
  rw [e] at this
  exact this
end Go.Ab

namespace Go.Ab
open Go.Proofs

namespace RU
theorem bEnd {x y z : List Int} {n m k t : Nat} (h1 : ilt (t : Int) m = false) : B x y n m k t z (.exit 0) eE (H x y n m k z) :=
  comes_pick (S := { dir := dd [], know := kk [(35, false)], loop := noloop }) (k := 60) (ts := [4, 6]) (l0 := eE) (h0 := H x y n m k z) (A := ilt (t : Int) m = false ∧ Dn (.exit 0) eE (H x y n m k z)) TY_ok mixed ok0
    (fun e he => Ref.pick (ks := [0, 1, 2, 3, 4, 5, 6, 7]) (by kernel_rfl) ⟨⟨_, rfl, subL_plain _ _ (ints_plain x), id⟩, ⟨_, rfl, subL_plain _ _ (ints_plain y), id⟩, ⟨_, rfl, ⟨_, _, rfl, .inr ⟨0, rfl, rfl⟩, rfl⟩, id⟩, ⟨_, rfl, ⟨_, _, rfl, .inr ⟨1, rfl, rfl⟩, rfl⟩, id⟩, ⟨_, rfl, subL_plain _ _ rfl, id⟩,
      ⟨_, rfl, subL_plain _ _ (ints_plain z), id⟩, ⟨_, rfl, ⟨_, _, rfl, .inr ⟨6, rfl, rfl⟩, rfl⟩, id⟩, trivial⟩ (by kernel_rfl) (fun p hp => by
        simp only [eE, List.mem_cons, List.not_mem_nil, or_false] at hp
        rcases hp with rfl | rfl
        · exact ⟨_, he _ (.head _), 4, rfl, rfl⟩
        · exact ⟨_, he _ (.tail _ (.head _)), 7, rfl, rfl⟩)) ⟨h1, dn _ _ _⟩ (by kernel_rfl)

def zU (x y : List Int) (n t : Nat) : List Int := x ++ build t (shF (fc y) n)
theorem zU_length {x y : List Int} {n t : Nat} (hx : x.length = 20 * n) : (zU x y n t).length = 20 * (n + t) := by simp [zU, build_length, hx]; omega
theorem zU_succ (x y : List Int) (n t : Nat) : ints (zU x y n (t + 1)) = ints (zU x y n t) ++ c4 ((fc y t 0).sh n) ((fc y t 1).sh n) ((fc y t 2).sh n) ((fc y t 3).sh n) := by
  simp only [zU, build]; rw [← List.append_assoc, ints_append]; rfl

theorem loop_ok {x y : List Int} {n m : Nat} (hn : n + m ≤ 1000) (hx : x.length = 20 * n) (hy : y.length = 20 * m) : (obs Tryz.prog TY none ([], true) 53).loop 2 (fb Tryz.f20 0) (eT 0) (H x y n m n x) .normal eE (H x y n m (n + m) (zU x y n m)) := by
  have hfb : fb Tryz.f20 0 = .block 0 (.loop (lb Tryz.f20 0)) := by kernel_rfl
  refine comes_loop hfb rfl eT (fun t => H x y n m (n + t) (zU x y n t)) (fun t => t ≤ m) (fun t => m - t) 0 (by omega) rfl (by simp [zU, build]) ?_
  intro t ht
  by_cases h4 : t < m
  · refine .inl ⟨t + 1, by omega, by omega, ?_⟩
    exact bStep (k := n + t) (by rw [ilt_eq]; simp; omega) ⟨by omega, by omega⟩ (rd_row (w := false) rfl hy h4) (moved47 _ _ _ _ _) (app_ok (by omega) (zU_length hx)) (zU_succ x y n t) (wrap_succ (by omega))
  · have : t = m := by omega
    subst this
    exact .inr (.inl ⟨rfl, bEnd (by rw [ilt_eq]; simp)⟩)

def Hc (x y : List Int) (n m : Nat) : Heap := [some ⟨ints x, false⟩, some ⟨ints y, false⟩, some ⟨[gS 0 n], true⟩, some ⟨[gS 1 m], true⟩, some ⟨[.slice none 0 0], true⟩]
def Hs (x y : List Int) (n m : Nat) : Heap := Hc x y n m ++ [some ⟨[], true⟩]
def Ht (x y : List Int) (n m : Nat) : Heap := Hc x y n m ++ [none, some ⟨ints x, true⟩]
def AppU (x y : List Int) (n m : Nat) : Prop := aAppend TY 2 22 22 (.slice (some ⟨5, 0, none⟩) 0 20) (gS 0 n) (Hs x y n m) = some (gS 6 n, Ht x y n m)
theorem appU {x y : List Int} {n m : Nat} (hn : n ≤ 1000) (hx : x.length = 20 * n) : AppU x y n m := by
  have := app_own22 (n0 := 2) (b := 5) (n := 0) (m := n) (h := Hs x y n m) (zs := []) (ys := ints x) (x := gS 0 n) (by kernel_rfl) (Nat.le_of_ble_eq_true rfl) rfl (cells_gS (w := false) rfl hx) (by rw [ints_length]; omega) rfl (ints_one x) (by omega)
  rw [Nat.zero_add] at this
  exact this
def Hf (x y : List Int) (n m : Nat) : Heap := [some ⟨ints x, false⟩, some ⟨ints y, false⟩, some ⟨[gS 0 n], true⟩, some ⟨[gS 1 m], true⟩, some ⟨[gS 6 (n + m)], true⟩, none, some ⟨ints (zU x y n m), true⟩, some ⟨[gS 6 (n + m)], true⟩]
abbrev Gv (b n : Nat) (h : Heap) (k : Int) : Prop := Gives Tryz.prog 10 [gV b n] h (.ret (.int .i64 k)) h ∧ ∃ x, h = h ++ x
end RU

theorem runion_ok {x y : List Int} {n m : Nat} (hn : n + m ≤ 1000) (hx : x.length = 20 * n) (hy : y.length = 20 * m) (cx : chk n x = 0) (cy : chk m y = 0) :
    Sum Tryz.prog 20 [gV 0 n, gV 1 m] [some ⟨ints x, false⟩, some ⟨ints y, false⟩] fun o h2 => o = .ret (gRes 2 (n + m) 0) ∧ h2 = [some ⟨ints x, false⟩, some ⟨ints y, false⟩] ++ [some ⟨ints (uni x y n m), true⟩] := by
  have g1 : RU.Gv 0 n (RU.Hc x y n m) 0 := gives_one (cx ▸ rcheck_sum hx) rfl (w := false) rfl
  have g2 : RU.Gv 1 m (RU.Hc x y n m) 0 := gives_one (cy ▸ rcheck_sum hy) rfl (w := false) rfl
  have hbig : ilt 1000 (IntKind.i64.wrap ((n : Int) + (m : Int))) = false := by rw [wrap_of (by omega) (by omega), ilt_eq]; simp; omega
  have hs : Sum Tryz.prog 20 [gV 0 n, gV 1 m] [some ⟨ints x, false⟩, some ⟨ints y, false⟩] fun o h2 => o = .ret (gRes 6 (n + m) 0) ∧ h2 = RU.Hf x y n m :=
    tFun_sum (S := { dir := dd [((1, 1), ansD (.int .i64 0) id), ((1, 5), ansD (.int .i64 0) id), ((5, 3), (none, .app fun _ _ => (gS 6 n, RU.Ht x y n m)))], know := kk [(24, false)], loop := loops [(0, ([2, 3, 4, 6, 7], fun _ _ => (.normal, RU.eE, RU.H x y n m (n + m) (RU.zU x y n m))))] }) (k := 60) TY_ok mixed fn20_ok
      (A := RU.Gv 0 n (RU.Hc x y n m) 0 ∧ RU.Gv 1 m (RU.Hc x y n m) 0 ∧ (ilt 1000 (IntKind.i64.wrap ((n : Int) + (m : Int))) = false) ∧ RU.AppU x y n m ∧
        (obs Tryz.prog TY none ([], true) 53).loop 2 (fb Tryz.f20 0) (RU.eT 0) (RU.H x y n m n x) .normal RU.eE (RU.H x y n m (n + m) (RU.zU x y n m)) ∧ AOut.ret (gRes 6 (n + m) 0) = .ret (gRes 6 (n + m) 0) ∧ RU.Hf x y n m = RU.Hf x y n m)
      ⟨g1, g2, hbig, RU.appU (by omega) hx, RU.loop_ok hn hx hy, rfl, rfl⟩ (by kernel_rfl)
  exact Sum.pick (ks := [0, 1, 6]) hs (by kernel_rfl) ⟨⟨_, rfl, subL_plain _ _ (ints_plain x), id⟩, ⟨_, rfl, subL_plain _ _ (ints_plain y), id⟩, ⟨_, rfl, subL_plain _ _ (ints_plain _), id⟩, trivial⟩ (by kernel_rfl) ⟨_, rfl, _, _, rfl, sub_gV rfl, _, _, rfl, rfl, rfl⟩

theorem runion_bad {x y : List Int} {n m : Nat} (hx : x.length = 20 * n) (hy : y.length = 20 * m) (hc : chk n x = 7 ∨ chk m y = 7) :
    Sum Tryz.prog 20 [gV 0 n, gV 1 m] [some ⟨ints x, false⟩, some ⟨ints y, false⟩] fun o _ => o = .ret (gErr 7) := by
  by_cases cx : chk n x = 7
  · have g1 : RU.Gv 0 n (RU.Hc x y n m) 7 := gives_one (cx ▸ rcheck_sum hx) rfl (w := false) rfl
    exact tFun_sum (S := { dir := dd [((1, 1), ansD (.int .i64 7) id)], know := kk [], loop := noloop }) (k := 60) TY_ok mixed fn20_ok
      (A := RU.Gv 0 n (RU.Hc x y n m) 7 ∧ AOut.ret (gErr 7) = .ret (gErr 7)) ⟨g1, rfl⟩ (by kernel_rfl)
  · have cy : chk m y = 7 := by rcases hc with h | h; exact absurd h cx; exact h
    have cx0 : chk n x = 0 := by unfold chk at cx ⊢; split <;> simp_all
    have g1 : RU.Gv 0 n (RU.Hc x y n m) 0 := gives_one (cx0 ▸ rcheck_sum hx) rfl (w := false) rfl
    have g2 : RU.Gv 1 m (RU.Hc x y n m) 7 := gives_one (cy ▸ rcheck_sum hy) rfl (w := false) rfl
    exact tFun_sum (S := { dir := dd [((1, 1), ansD (.int .i64 0) id), ((1, 5), ansD (.int .i64 7) id)], know := kk [], loop := noloop }) (k := 60) TY_ok mixed fn20_ok
      (A := RU.Gv 0 n (RU.Hc x y n m) 0 ∧ RU.Gv 1 m (RU.Hc x y n m) 7 ∧ AOut.ret (gErr 7) = .ret (gErr 7)) ⟨g1, g2, rfl⟩ (by kernel_rfl)
end Go.Ab
