/- The twofold cover and the double are valid; their orientations and parts. Conditions: none beyond the given model and program. -/
import Derived.Test.YtnimgapjllhccaaGreatDoorPv
namespace Go.Ab

/-- A face as it is in a valid gluing. -/
def Good (x : List Int) (n t f : Nat) : Prop := ((fc x t f).u = -1 ∧ (fc x t f).p = .zero) ∨
  (0 ≤ (fc x t f).u ∧ (fc x t f).u < n ∧ (fc x t f).p.valid = true ∧ ¬ ((fc x t f).u = t ∧ (fc x t f).p.at f = f) ∧ (fc x (fc x t f).u.toNat ((fc x t f).p.at f).toNat).u = t ∧ (fc x (fc x t f).u.toNat ((fc x t f).p.at f).toNat).p = inverseP (fc x t f).p)

theorem good_iff {x : List Int} {n t f : Nat} : faceOk n x t f = true ↔ Good x n t f := by
  unfold faceOk Good
  simp only [Bool.or_eq_true, Bool.and_eq_true, decide_eq_true_eq, Bool.not_eq_true', Bool.and_eq_false_iff, beq_iff_eq, beq_eq_false_iff_ne, Fc.free, eqP_iff]
  constructor
  · rintro (h | ⟨h1, h2, h3, h4, h5, h6⟩)
    · exact .inl h
    · exact .inr ⟨h1, h2, h3, fun hh => by rcases h4 with h4 | h4; exact h4 hh.1; exact h4 hh.2, h5, h6⟩
  · rintro (h | ⟨h1, h2, h3, h4, h5, h6⟩)
    · exact .inl h
    · refine .inr ⟨h1, h2, h3, ?_, h5, h6⟩
      by_cases e : (fc x t f).u = t
      · exact .inr fun e2 => h4 ⟨e, e2⟩
      · exact .inl e

theorem chk_good {x : List Int} {n t f : Nat} (hc : chk n x = 0) (ht : t < n) (hf : f < 4) : Good x n t f := by
  rw [← good_iff]
  unfold chk at hc
  split at hc
  · rename_i h
    simp only [checkB, Bool.and_eq_true] at h
    exact List.all_eq_true.1 (List.all_eq_true.1 h.2 t (List.mem_range.2 ht)) f (List.mem_range.2 hf)
  · cases hc
theorem chk_of {x : List Int} {n : Nat} (hn : n ≤ 1000) (h : ∀ t f, t < n → f < 4 → Good x n t f) : chk n x = 0 := by
  unfold chk
  rw [if_pos]
  simp only [checkB, Bool.and_eq_true, decide_eq_true_eq]
  refine ⟨hn, List.all_eq_true.2 fun t ht => List.all_eq_true.2 fun f hf => good_iff.2 (h t f (List.mem_range.1 ht) (List.mem_range.1 hf))⟩
theorem chk_n {x : List Int} {n : Nat} (hc : chk n x = 0) : n ≤ 1000 := by
  unfold chk at hc
  split at hc
  · rename_i h
    simp only [checkB, Bool.and_eq_true, decide_eq_true_eq] at h
    exact h.1
  · cases hc

theorem sign_inv {p : Pm} (hp : p.valid = true) : signP (inverseP p) = signP p := by
  have h : l24.all (fun p => signP (inverseP p) == signP p) = true := by decide +kernel
  have h2 := List.all_eq_true.1 h p (mem24 hp)
  simpa using h2

/-- A tetrahedron of the cover: that over t, of a sheet. -/
def tx (n : Nat) (s : Bool) (t : Nat) : Nat := if s = true then n + t else t
/-- A face that changes the sheet. -/
def sw (p : Pm) : Bool := signP p == 1
theorem tx_lt {n t : Nat} (s : Bool) (h : t < n) : tx n s t < n + n := by unfold tx; split <;> omega
theorem tx_cases {n v : Nat} (h : v < n + n) : ∃ s t, t < n ∧ v = tx n s t := by
  by_cases h1 : v < n
  · exact ⟨false, v, h1, by simp [tx]⟩
  · exact ⟨true, v - n, by omega, by simp [tx]; omega⟩

section
variable {x : List Int} {n : Nat}
abbrev twT (x : List Int) (n : Nat) : List Int := build (n + n) (gtw x n)
abbrev dbT (x : List Int) (n : Nat) : List Int := build (n + n) (gdb x n)

theorem sw_eq {p : Pm} (hp : p.valid = true) : (sgnV p == 1) = sw p := by unfold sgnV sw; rw [if_pos hp]

theorem gtw_tx {t : Nat} (f : Nat) (ht : t < n) (s : Bool) : gtw x n (tx n s t) f = if s = true then (if ile 0 (fc x t f).u = true ∧ (sgnV (fc x t f).p == 1) = true then fc x t f else (fc x t f).sh n) else (if ile 0 (fc x t f).u = true ∧ (sgnV (fc x t f).p == 1) = true then (fc x t f).add n else fc x t f) := by
  unfold gtw tx
  cases s with
  | false => simp only [Bool.false_eq_true, if_false]; rw [if_pos ht]
  | true => simp only [if_true]; rw [if_neg (by omega), show n + t - n = t by omega]
theorem gdb_tx {t : Nat} (f : Nat) (ht : t < n) (s : Bool) : gdb x n (tx n s t) f = if s = true then (if ilt (fc x t f).u 0 = true then ⟨(t : Int), DG.idP⟩ else (fc x t f).sh n) else (if ilt (fc x t f).u 0 = true then ⟨IntKind.i64.wrap ((t : Int) + n), DG.idP⟩ else fc x t f) := by
  unfold gdb tx
  cases s with
  | false => simp only [Bool.false_eq_true, if_false]; rw [if_pos ht]
  | true => simp only [if_true]; rw [if_neg (by omega), show n + t - n = t by omega]

theorem tx_int {n u : Nat} (s : Bool) : ((tx n s u : Nat) : Int) = if s = true then (u : Int) + n else u := by
  unfold tx; split <;> omega

theorem tw_glued (hc : chk n x = 0) (hn : n ≤ 500) {t f : Nat} (ht : t < n) (hf : f < 4) (h0 : 0 ≤ (fc x t f).u) (s : Bool) :
    fc (twT x n) (tx n s t) f = ⟨((tx n (s != sw (fc x t f).p) (fc x t f).u.toNat : Nat) : Int), (fc x t f).p⟩ := by
  obtain ⟨hlt, hv, _⟩ := face_back hc ht hf h0
  rw [fc_build (tx_lt s ht) hf, gtw_tx f ht s, tx_int]
  have hi : ile 0 (fc x t f).u = true := by rw [ile_eq]; simpa using h0
  generalize fc x t f = a at *
  have hw : IntKind.i64.wrap (a.u + (n : Int)) = a.u + n := wrap_of (by omega) (by omega)
  have hu : (a.u.toNat : Int) = a.u := Int.toNat_of_nonneg h0
  rw [sw_eq hv, hu]
  simp only [hi, true_and, Fc.sh, if_true, Fc.add, hw]
  cases s <;> cases sw a.p <;> simp
theorem tw_free (hc : chk n x = 0) {t f : Nat} (ht : t < n) (hf : f < 4) (h0 : ¬ 0 ≤ (fc x t f).u) (s : Bool) : fc (twT x n) (tx n s t) f = ⟨-1, .zero⟩ := by
  rw [fc_build (tx_lt s ht) hf, gtw_tx f ht s]
  have hg := chk_good hc ht hf
  have hi : ile 0 (fc x t f).u = false := by rw [ile_eq]; simpa using h0
  unfold Good at hg
  generalize hz : fc x t f = a at *
  obtain ⟨u, p⟩ := a
  simp only at *
  have h1 : u = -1 ∧ p = .zero := by rcases hg with h | h; exact h; omega
  obtain ⟨rfl, rfl⟩ := h1
  simp only [hi, Fc.sh, Bool.false_eq_true, false_and, if_false]
  cases s <;> rfl

theorem tx_inj {n t t' : Nat} {s s' : Bool} (ht : t < n) (ht' : t' < n) (h : tx n s t = tx n s' t') : s = s' ∧ t = t' := by
  unfold tx at h
  cases s <;> cases s' <;> simp at h ⊢ <;> omega

/-- The twofold cover is valid. -/
theorem tw_chk (hc : chk n x = 0) (hn : n ≤ 500) : chk (n + n) (twT x n) = 0 := by
  refine chk_of (by omega) fun v f hv hf => ?_
  obtain ⟨s, t, ht, rfl⟩ := tx_cases hv
  unfold Good
  by_cases h0 : 0 ≤ (fc x t f).u
  · right
    have hg := chk_good hc ht hf
    obtain ⟨hlt, hval, hp1, hp2, hb1, hb2⟩ := face_back hc ht hf h0
    rw [tw_glued hc hn ht hf h0 s]
    simp only [Int.toNat_natCast]
    have hfb := tw_glued hc hn (t := (fc x t f).u.toNat) (f := ((fc x t f).p.at f).toNat) (by omega) (by omega) (by rw [hb1]; omega) (s != sw (fc x t f).p)
    rw [hb1, hb2] at hfb
    have hsw : sw (inverseP (fc x t f).p) = sw (fc x t f).p := by unfold sw; rw [sign_inv hval]
    rw [hfb]
    refine ⟨by omega, ?_, hval, ?_, ?_, rfl⟩
    · have := tx_lt (s != sw (fc x t f).p) (show (fc x t f).u.toNat < n by omega); omega
    · rintro ⟨e1, e2⟩
      have e3 : tx n (s != sw (fc x t f).p) (fc x t f).u.toNat = tx n s t := by omega
      obtain ⟨_, e4⟩ := tx_inj (by omega) ht e3
      rcases hg with hg | hg
      · omega
      · exact hg.2.2.2.1 ⟨by omega, e2⟩
    · simp only [hsw, Int.toNat_natCast]
      have : ((s != sw (fc x t f).p) != sw (fc x t f).p) = s := by cases s <;> cases sw (fc x t f).p <;> rfl
      rw [this]
  · left
    rw [tw_free hc ht hf h0 s]
    exact ⟨rfl, rfl⟩

theorem tw_adj (hc : chk n x = 0) (hn : n ≤ 500) {t f : Nat} (ht : t < n) (hf : f < 4) (h0 : 0 ≤ (fc x t f).u) (s : Bool) : Adj (twT x n) (n + n) (tx n s t) (tx n (s != sw (fc x t f).p) (fc x t f).u.toNat) :=
  ⟨tx_lt s ht, f, hf, by rw [tw_glued hc hn ht hf h0 s]⟩
theorem tw_adj_inv (hc : chk n x = 0) (hn : n ≤ 500) {a b : Nat} (h : Adj (twT x n) (n + n) a b) : ∃ s t f, t < n ∧ f < 4 ∧ 0 ≤ (fc x t f).u ∧ a = tx n s t ∧ b = tx n (s != sw (fc x t f).p) (fc x t f).u.toNat := by
  obtain ⟨ha, f, hf, hu⟩ := h
  obtain ⟨s, t, ht, rfl⟩ := tx_cases ha
  by_cases h0 : 0 ≤ (fc x t f).u
  · rw [tw_glued hc hn ht hf h0 s] at hu
    exact ⟨s, t, f, ht, hf, h0, rfl, by simp only at hu; omega⟩
  · rw [tw_free hc ht hf h0 s] at hu
    simp only at hu
    omega

/-- The cover of a path. -/
theorem tw_lift (hc : chk n x = 0) (hn : n ≤ 500) {a b : Nat} (ha : a < n) (h : Reach (Adj x n) a b) (s : Bool) : ∃ s', Reach (Adj (twT x n) (n + n)) (tx n s a) (tx n s' b) := by
  induction h with
  | refl => exact ⟨s, .refl _⟩
  | tail r e ih =>
    obtain ⟨s', hs⟩ := ih
    obtain ⟨hb, f, hf, hu⟩ := e
    have := tw_adj hc hn hb hf (by omega) s'
    rw [hu, Int.toNat_natCast] at this
    exact ⟨_, .tail hs this⟩
/-- The other sheets. -/
theorem tw_flip (hc : chk n x = 0) (hn : n ≤ 500) {a b : Nat} (h : Reach (Adj (twT x n) (n + n)) a b) : ∀ s t, t < n → a = tx n s t → ∃ s' t', t' < n ∧ b = tx n s' t' ∧ Reach (Adj (twT x n) (n + n)) (tx n (!s) t) (tx n (!s') t') := by
  induction h with
  | refl => exact fun s t ht e => ⟨s, t, ht, e, .refl _⟩
  | tail r e ih =>
    intro s t ht he
    obtain ⟨s', t', ht', e1, e2⟩ := ih s t ht he
    obtain ⟨s2, t2, f, ht2, hf, h0, e3, e4⟩ := tw_adj_inv hc hn e
    obtain ⟨rfl, rfl⟩ := tx_inj ht' ht2 (e1.symm.trans e3)
    refine ⟨_, _, by have := (face_back hc ht2 hf h0).1; omega, e4, .tail e2 ?_⟩
    have := tw_adj hc hn ht2 hf h0 (!s')
    rwa [show ((!s') != sw (fc x t' f).p) = !(s' != sw (fc x t' f).p) by cases s' <;> cases sw (fc x t' f).p <;> rfl] at this

/-- The twofold cover has an orientation. -/
theorem tw_ori (hc : chk n x = 0) (hn : n ≤ 500) : Orientable (twT x n) (n + n) := by
  refine ⟨fun v => if v < n then 1 else -1, fun v _ => by simp only; split <;> simp, fun v f hv hf h0 => ?_⟩
  obtain ⟨s, t, ht, rfl⟩ := tx_cases hv
  by_cases h1 : 0 ≤ (fc x t f).u
  · obtain ⟨hlt, hval, _⟩ := face_back hc ht hf h1
    rw [tw_glued hc hn ht hf h1 s]
    simp only [Int.toNat_natCast]
    have hul : (fc x t f).u.toNat < n := by omega
    have e : ∀ (s : Bool) (u : Nat), u < n → (if tx n s u < n then (1 : Int) else -1) = if s = true then -1 else 1 := by
      intro s u hu; unfold tx; cases s <;> simp <;> omega
    rw [e _ _ hul, e _ _ ht]
    unfold sw
    rcases signP_one (fc x t f).p with h | h <;> rw [h] <;> cases s <;> rfl
  · rw [tw_free hc ht hf h1 s] at h0
    simp at h0

/-- Where there is an orientation, the two sheets of a tetrahedron are apart. -/
theorem tw_apart (hc : chk n x = 0) (hn : n ≤ 500) {w : Nat → Int} (hw : IsOri x n w) {t : Nat} (ht : t < n) : ¬ Reach (Adj (twT x n) (n + n)) (tx n false t) (tx n true t) := by
  have key : ∀ {a b : Nat}, Reach (Adj (twT x n) (n + n)) a b → ∀ s t, t < n → a = tx n s t → ∃ s' t', t' < n ∧ b = tx n s' t' ∧ (if s' = true then -(w t') else w t') = (if s = true then -(w t) else w t) := by
    intro a b h
    induction h with
    | refl => exact fun s t ht e => ⟨s, t, ht, e, rfl⟩
    | tail r e ih =>
      intro s t ht he
      obtain ⟨s', t', ht', e1, e2⟩ := ih s t ht he
      obtain ⟨s2, t2, f, ht2, hf, h0, e3, e4⟩ := tw_adj_inv hc hn e
      obtain ⟨rfl, rfl⟩ := tx_inj ht' ht2 (e1.symm.trans e3)
      refine ⟨_, _, by have := (face_back hc ht2 hf h0).1; omega, e4, ?_⟩
      rw [← e2, hw.2 t' f ht2 hf h0]
      unfold sw
      rcases signP_one (fc x t' f).p with h | h <;> rw [h] <;> cases s' <;> simp
  intro h
  obtain ⟨s', t', ht', e1, e2⟩ := key h false t ht rfl
  obtain ⟨rfl, rfl⟩ := tx_inj ht ht' e1
  have := hw.1 t ht
  simp at e2
  omega

/-- Where there is none, they are together (if all of it is). -/
theorem tw_joined (hc : chk n x = 0) (hn : n ≤ 500) (hno : ¬ Orientable x n) {t0 : Nat} (ht0 : t0 < n) (hall : ∀ t, t < n → Reach (Adj x n) t0 t) : Reach (Adj (twT x n) (n + n)) (tx n false t0) (tx n true t0) := by
  have hT := tw_chk hc hn
  apply Classical.byContradiction
  intro hap
  refine hno ?_
  have one : ∀ t, t < n → Reach (Adj (twT x n) (n + n)) (tx n false t0) (tx n false t) ∨ Reach (Adj (twT x n) (n + n)) (tx n false t0) (tx n true t) := by
    intro t ht
    obtain ⟨s', h⟩ := tw_lift hc hn ht0 (hall t ht) false
    cases s'
    · exact .inl h
    · exact .inr h
  have both : ∀ t, t < n → ¬ (Reach (Adj (twT x n) (n + n)) (tx n false t0) (tx n false t) ∧ Reach (Adj (twT x n) (n + n)) (tx n false t0) (tx n true t)) := by
    rintro t ht ⟨h1, h2⟩
    obtain ⟨s', t', ht', e1, e2⟩ := tw_flip hc hn h2 false t0 ht0 rfl
    obtain ⟨rfl, rfl⟩ := tx_inj ht ht' e1
    exact hap (h1.trans (e2.symm hT))
  refine ⟨fun t => open Classical in if Reach (Adj (twT x n) (n + n)) (tx n false t0) (tx n false t) then 1 else -1, fun v _ => by simp only; split <;> simp, fun t f ht hf h0 => ?_⟩
  have hlt := (face_back hc ht hf h0).1
  have hul : (fc x t f).u.toNat < n := by omega
  have a1 := tw_adj hc hn ht hf h0 false
  have a2 := tw_adj hc hn ht hf h0 true
  have hb := both (fc x t f).u.toNat hul
  have ho := one (fc x t f).u.toNat hul
  have hb' := both t ht
  have ho' := one t ht
  unfold sw at a1 a2
  rcases signP_one (fc x t f).p with h | h
  · rw [h] at a1 a2 ⊢
    rw [show (false != ((1 : Int) == 1)) = true from rfl] at a1
    rw [show (true != ((1 : Int) == 1)) = false from rfl] at a2
    by_cases r : Reach (Adj (twT x n) (n + n)) (tx n false t0) (tx n false t)
    · have : ¬ Reach (Adj (twT x n) (n + n)) (tx n false t0) (tx n false (fc x t f).u.toNat) := fun r2 => hb ⟨r2, .tail r a1⟩
      simp only [if_pos r, if_neg this]; rfl
    · have : Reach (Adj (twT x n) (n + n)) (tx n false t0) (tx n false (fc x t f).u.toNat) := by
        rcases ho' with h2 | h2
        · exact absurd h2 r
        · exact .tail h2 a2
      simp only [if_neg r, if_pos this]; rfl
  · rw [h] at a1 a2 ⊢
    rw [show (false != ((-1 : Int) == 1)) = false from rfl] at a1
    rw [show (true != ((-1 : Int) == 1)) = true from rfl] at a2
    by_cases r : Reach (Adj (twT x n) (n + n)) (tx n false t0) (tx n false t)
    · have : Reach (Adj (twT x n) (n + n)) (tx n false t0) (tx n false (fc x t f).u.toNat) := .tail r a1
      simp only [if_pos r, if_pos this]; rfl
    · have : ¬ Reach (Adj (twT x n) (n + n)) (tx n false t0) (tx n false (fc x t f).u.toNat) := fun r2 => r (r2.trans ((Reach.one a1).symm hT))
      simp only [if_neg r, if_neg this]; rfl

/-- How many parts there are, by what can be reached. -/
theorem partsN_one {y : List Int} {m : Nat} (hc : chk m y = 0) (h : partsN y m = 1) : 0 < m ∧ ∀ t, t < m → Reach (Adj y m) 0 t := by
  have hp := parts_spec hc m (Nat.le_refl _)
  obtain ⟨r, hr⟩ := hp.rep
  have hk : (pst y m m).2 = 1 := h
  obtain ⟨r1, _⟩ := hr 0 (by omega)
  have hm : 0 < m := by omega
  refine ⟨hm, fun t ht => (hp.same 0 t hm ht (hp.done 0 hm)).1 ?_⟩
  have h1 := hp.rng 0 hm
  have h2 := hp.rng t ht
  have h3 := hp.done 0 hm
  have h4 := hp.done t ht
  omega
theorem partsN_eq_one {y : List Int} {m : Nat} (hc : chk m y = 0) (hm : 0 < m) (h : ∀ t, t < m → Reach (Adj y m) 0 t) : partsN y m = 1 := by
  have hp := parts_spec hc m (Nat.le_refl _)
  obtain ⟨r, hr⟩ := hp.rep
  have h0 := hp.done 0 hm
  have hg := hp.rng 0 hm
  have hall : ∀ t, t < m → cel (pst y m m).1 t = cel (pst y m m).1 0 := fun t ht => ((hp.same 0 t hm ht h0).2 (h t ht)).symm
  unfold partsN
  rcases Nat.lt_or_ge (pst y m m).2 2 with h2 | h2
  · omega
  · obtain ⟨a1, a2, _⟩ := hr 0 (by omega)
    obtain ⟨b1, b2, _⟩ := hr 1 (by omega)
    have := hall _ a1
    have := hall _ b1
    omega
theorem partsN_eq_two {y : List Int} {m a b : Nat} (hc : chk m y = 0) (ha : a < m) (hb : b < m) (hab : ¬ Reach (Adj y m) a b) (h : ∀ t, t < m → Reach (Adj y m) a t ∨ Reach (Adj y m) b t) : partsN y m = 2 := by
  have hp := parts_spec hc m (Nat.le_refl _)
  obtain ⟨r, hr⟩ := hp.rep
  have ha0 := hp.done a ha
  have hb0 := hp.done b hb
  have hga := hp.rng a ha
  have hgb := hp.rng b hb
  have hne : cel (pst y m m).1 a ≠ cel (pst y m m).1 b := fun e => hab ((hp.same a b ha hb ha0).1 e)
  have hall : ∀ t, t < m → cel (pst y m m).1 t = cel (pst y m m).1 a ∨ cel (pst y m m).1 t = cel (pst y m m).1 b := by
    intro t ht
    rcases h t ht with h1 | h1
    · exact .inl ((hp.same a t ha ht ha0).2 h1).symm
    · exact .inr ((hp.same b t hb ht hb0).2 h1).symm
  unfold partsN
  rcases Nat.lt_or_ge (pst y m m).2 3 with h2 | h2
  · omega
  · obtain ⟨a1, a2, _⟩ := hr 0 (by omega)
    obtain ⟨b1, b2, _⟩ := hr 1 (by omega)
    obtain ⟨c1, c2, _⟩ := hr 2 (by omega)
    have := hall _ a1
    have := hall _ b1
    have := hall _ c1
    omega

/-- Of a gluing with one part. -/
theorem tw_parts (hc : chk n x = 0) (hn : n ≤ 500) (h1 : partsN x n = 1) : partsN (twT x n) (n + n) = if oriB x n = true then 2 else 1 := by
  obtain ⟨h0, hall⟩ := partsN_one hc h1
  have hT := tw_chk hc hn
  have cover : ∀ v, v < n + n → Reach (Adj (twT x n) (n + n)) (tx n false 0) v ∨ Reach (Adj (twT x n) (n + n)) (tx n true 0) v := by
    intro v hv
    obtain ⟨s, t, ht, rfl⟩ := tx_cases hv
    obtain ⟨s', hs⟩ := tw_lift hc hn ht ((hall t ht).symm hc) s
    cases s'
    · exact .inl (hs.symm hT)
    · exact .inr (hs.symm hT)
  split
  · rename_i hr
    obtain ⟨w, hw⟩ := (oriB_iff hc).1 hr
    exact partsN_eq_two hT (tx_lt false h0) (tx_lt true h0) (tw_apart hc hn hw h0) cover
  · rename_i hr
    have hj := tw_joined hc hn (fun h => hr ((oriB_iff hc).2 h)) h0 hall
    refine partsN_eq_one hT (by omega) fun v hv => ?_
    rcases cover v hv with h | h
    · exact h
    · exact hj.trans h

-- the double
theorem db_glued (hc : chk n x = 0) (hn : n ≤ 500) {t f : Nat} (ht : t < n) (hf : f < 4) (h0 : 0 ≤ (fc x t f).u) (s : Bool) : fc (dbT x n) (tx n s t) f = ⟨((tx n s (fc x t f).u.toNat : Nat) : Int), (fc x t f).p⟩ := by
  obtain ⟨hlt, hv, _⟩ := face_back hc ht hf h0
  rw [fc_build (tx_lt s ht) hf, gdb_tx f ht s, tx_int]
  have hi : ilt (fc x t f).u 0 = false := ilt_nonneg.2 h0
  have hi2 : ile 0 (fc x t f).u = true := by rw [ile_eq]; simpa using h0
  generalize fc x t f = a at *
  have hw : IntKind.i64.wrap (a.u + (n : Int)) = a.u + n := wrap_of (by omega) (by omega)
  have hu : (a.u.toNat : Int) = a.u := Int.toNat_of_nonneg h0
  rw [hu]
  simp only [hi, Bool.false_eq_true, if_false, Fc.sh, hi2, if_true, Fc.add, hw]
  cases s <;> simp
theorem db_free (hn : n ≤ 500) {t f : Nat} (ht : t < n) (hf : f < 4) (h0 : ¬ 0 ≤ (fc x t f).u) (s : Bool) : fc (dbT x n) (tx n s t) f = ⟨((tx n (!s) t : Nat) : Int), DG.idP⟩ := by
  rw [fc_build (tx_lt s ht) hf, gdb_tx f ht s, tx_int]
  have hi : ilt (fc x t f).u 0 = true := ilt_neg.2 (by omega)
  have hw : IntKind.i64.wrap ((t : Int) + n) = (t : Int) + n := wrap_of (by omega) (by omega)
  simp only [hi, if_true, hw]
  cases s <;> simp

/-- The double has no free faces. -/
theorem db_full (hc : chk n x = 0) (hn : n ≤ 500) {v f : Nat} (hv : v < n + n) (hf : f < 4) : 0 ≤ (fc (dbT x n) v f).u := by
  obtain ⟨s, t, ht, rfl⟩ := tx_cases hv
  by_cases h0 : 0 ≤ (fc x t f).u
  · rw [db_glued hc hn ht hf h0 s]; simp only; omega
  · rw [db_free hn ht hf h0 s]; simp only; omega
/-- The double is valid. -/
theorem db_chk (hc : chk n x = 0) (hn : n ≤ 500) : chk (n + n) (dbT x n) = 0 := by
  refine chk_of (by omega) fun v f hv hf => ?_
  obtain ⟨s, t, ht, rfl⟩ := tx_cases hv
  unfold Good
  right
  by_cases h0 : 0 ≤ (fc x t f).u
  · have hg := chk_good hc ht hf
    obtain ⟨hlt, hval, hp1, hp2, hb1, hb2⟩ := face_back hc ht hf h0
    rw [db_glued hc hn ht hf h0 s]
    simp only [Int.toNat_natCast]
    have hfb := db_glued hc hn (t := (fc x t f).u.toNat) (f := ((fc x t f).p.at f).toNat) (by omega) (by omega) (by rw [hb1]; omega) s
    rw [hb1, hb2] at hfb
    rw [hfb]
    refine ⟨by omega, ?_, hval, ?_, by simp only [Int.toNat_natCast], rfl⟩
    · have := tx_lt s (show (fc x t f).u.toNat < n by omega); omega
    · rintro ⟨e1, e2⟩
      have e3 : tx n s (fc x t f).u.toNat = tx n s t := by omega
      obtain ⟨_, e4⟩ := tx_inj (by omega) ht e3
      rcases hg with hg | hg
      · omega
      · exact hg.2.2.2.1 ⟨by omega, e2⟩
  · rw [db_free hn ht hf h0 s]
    simp only [Int.toNat_natCast]
    have hat : (DG.idP).at (f : Int) = f := by
      have : f = 0 ∨ f = 1 ∨ f = 2 ∨ f = 3 := by omega
      rcases this with rfl | rfl | rfl | rfl <;> rfl
    rw [hat, Int.toNat_natCast, db_free hn ht hf h0 (!s)]
    refine ⟨by omega, ?_, rfl, ?_, by simp only [Bool.not_not], rfl⟩
    · have := tx_lt (!s) ht; omega
    · rintro ⟨e1, _⟩
      have e3 : tx n (!s) t = tx n s t := by omega
      obtain ⟨e4, _⟩ := tx_inj ht ht e3
      cases s <;> cases e4
/-- The double has an orientation exactly if the gluing has one. -/
theorem db_ori (hc : chk n x = 0) (hn : n ≤ 500) : Orientable (dbT x n) (n + n) ↔ Orientable x n := by
  constructor
  · rintro ⟨w, hw⟩
    refine ⟨w, fun v hv => hw.1 v (by omega), fun t f ht hf h0 => ?_⟩
    have := hw.2 (tx n false t) f (tx_lt _ ht) hf
    rw [db_glued hc hn ht hf h0 false] at this
    simp only [Int.toNat_natCast] at this
    have e : ∀ u, tx n false u = u := fun u => by simp [tx]
    rw [e, e] at this
    exact this (by omega)
  · rintro ⟨w, hw⟩
    have e : ∀ (s : Bool) (u : Nat), u < n → (if tx n s u < n then w (tx n s u) else -(w (tx n s u - n))) = if s = true then -(w u) else w u := by
      intro s u hu
      unfold tx
      cases s
      · simp [hu]
      · simp only [if_true]; rw [if_neg (by omega), show n + u - n = u by omega]
    refine ⟨fun v => if v < n then w v else -(w (v - n)), fun v hv => ?_, fun v f hv hf h0 => ?_⟩
    · simp only
      split
      · rename_i h; exact hw.1 v h
      · have := hw.1 (v - n) (by omega); omega
    · obtain ⟨s, t, ht, rfl⟩ := tx_cases hv
      by_cases h1 : 0 ≤ (fc x t f).u
      · have hul : (fc x t f).u.toNat < n := by have := (face_back hc ht hf h1).1; omega
        rw [db_glued hc hn ht hf h1 s]
        simp only [Int.toNat_natCast]
        rw [e _ _ hul, e _ _ ht, hw.2 t f ht hf h1]
        cases s
        · simp
        · simp only [if_true, Int.mul_neg]
      · rw [db_free hn ht hf h1 s]
        simp only [Int.toNat_natCast]
        rw [e _ _ ht, e _ _ ht]
        have : signP DG.idP = 1 := rfl
        rw [this]
        cases s <;> simp
end
end Go.Ab
