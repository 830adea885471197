/- Permutations, and matchings that keep all faces, in plain words. Conditions: none beyond the given model and program. -/
import Derived.Test.YtnimgapjllhccaaGreatDoorMa
import Derived.Test.YtnimgapjllhccaaGreatDoorPv
namespace Go.Ab

def idQ : Pm := ⟨0, 1, 2, 3⟩

-- permutations
theorem at_cases {f : Nat} (hf : f < 4) : f = 0 ∨ f = 1 ∨ f = 2 ∨ f = 3 := by omega
theorem at_range {p : Pm} (hp : p.valid = true) {i : Int} (h0 : 0 ≤ i) (h4 : i < 4) : 0 ≤ p.at i ∧ p.at i < 4 := by
  have := valid_at hp (f := i.toNat) (by omega)
  rwa [Int.toNat_of_nonneg h0] at this
theorem at_compose (p : Pm) {q : Pm} {i : Int} (h0 : 0 ≤ i) (h4 : i < 4) : (composeP p q).at i = p.at (q.at i) := by
  have : i = 0 ∨ i = 1 ∨ i = 2 ∨ i = 3 := by omega
  rcases this with rfl | rfl | rfl | rfl <;> rfl
theorem pm_ext {p q : Pm} (h : ∀ i : Int, 0 ≤ i → i < 4 → p.at i = q.at i) : p = q := by
  obtain ⟨a, b, c, d⟩ := p
  obtain ⟨a', b', c', d'⟩ := q
  have h0 := h 0 (by omega) (by omega)
  have h1 := h 1 (by omega) (by omega)
  have h2 := h 2 (by omega) (by omega)
  have h3 := h 3 (by omega) (by omega)
  simp only [Pm.at] at h0 h1 h2 h3
  change a = a' at h0; change b = b' at h1; change c = c' at h2; change d = d' at h3
  rw [h0, h1, h2, h3]
theorem compose_valid' {p q : Pm} (hp : p.valid = true) (hq : q.valid = true) : (composeP p q).valid = true := compose_valid hp hq
theorem at_inv {p : Pm} (hp : p.valid = true) {i : Int} (h0 : 0 ≤ i) (h4 : i < 4) : (inverseP p).at (p.at i) = i ∧ p.at ((inverseP p).at i) = i := by
  have h : l24.all (fun p => (List.range 4).all fun i => (inverseP p).at (p.at (i : Nat)) == (i : Int) && p.at ((inverseP p).at (i : Nat)) == (i : Int)) = true := by decide +kernel
  have := List.all_eq_true.1 (List.all_eq_true.1 h p (mem24 hp)) i.toNat (List.mem_range.2 (by omega))
  simp only [Bool.and_eq_true, beq_iff_eq, Int.toNat_of_nonneg h0] at this
  exact this
theorem compose_assoc (p q : Pm) {r : Pm} (hr : r.valid = true) : composeP (composeP p q) r = composeP p (composeP q r) := by
  refine pm_ext fun i h0 h4 => ?_
  have := at_range hr h0 h4
  rw [at_compose _ h0 h4, at_compose _ h0 h4, at_compose _ this.1 this.2, at_compose _ h0 h4]
theorem compose_inv {p : Pm} (hp : p.valid = true) : composeP p (inverseP p) = idQ ∧ composeP (inverseP p) p = idQ := by
  have h : l24.all (fun p => eqP (composeP p (inverseP p)) idQ && eqP (composeP (inverseP p) p) idQ) = true := by decide +kernel
  have := List.all_eq_true.1 h p (mem24 hp)
  simp only [Bool.and_eq_true, eqP_iff] at this
  exact this
theorem compose_id (p : Pm) : composeP p idQ = p := pm_ext fun i h0 h4 => by
  rw [at_compose _ h0 h4]
  have : i = 0 ∨ i = 1 ∨ i = 2 ∨ i = 3 := by omega
  rcases this with rfl | rfl | rfl | rfl <;> rfl
theorem id_compose {p : Pm} (hp : p.valid = true) : composeP idQ p = p := pm_ext fun i h0 h4 => by
  rw [at_compose _ h0 h4]
  have := at_range hp h0 h4
  have h3 : p.at i = 0 ∨ p.at i = 1 ∨ p.at i = 2 ∨ p.at i = 3 := by omega
  rcases h3 with h | h | h | h <;> rw [h] <;> rfl
theorem inv_inv {p : Pm} (hp : p.valid = true) : inverseP (inverseP p) = p := by
  have h : l24.all (fun p => eqP (inverseP (inverseP p)) p) = true := by decide +kernel
  exact eqP_iff.1 (List.all_eq_true.1 h p (mem24 hp))
theorem inv_compose {p q : Pm} (hp : p.valid = true) (hq : q.valid = true) : inverseP (composeP p q) = composeP (inverseP q) (inverseP p) := by
  have h : l24.all (fun p => l24.all fun q => eqP (inverseP (composeP p q)) (composeP (inverseP q) (inverseP p))) = true := by decide +kernel
  exact eqP_iff.1 (List.all_eq_true.1 (List.all_eq_true.1 h p (mem24 hp)) q (mem24 hq))
theorem want_valid {b q a : Pm} (hb : b.valid = true) (hq : q.valid = true) (ha : a.valid = true) : (wantP b q a).valid = true := compose_valid' hb (compose_valid' hq (inverse_valid ha))

/-- A relation of tetrahedra of one gluing and of another one that keeps all faces. -/
structure Loc2 (x : List Int) (n : Nat) (y : List Int) (m : Nat) (R : Nat → Nat → Pm → Prop) : Prop where
  lt : ∀ {v w q}, R v w q → v < n ∧ w < m ∧ q.valid = true
  face : ∀ {v w q f}, R v w q → f < 4 →
    ((fc x v f).u = -1 ∧ (fc y w (q.at (f : Nat)).toNat).u = -1) ∨
    (0 ≤ (fc x v f).u ∧ 0 ≤ (fc y w (q.at (f : Nat)).toNat).u ∧ R (fc x v f).u.toNat (fc y w (q.at (f : Nat)).toNat).u.toNat (wantP (fc y w (q.at (f : Nat)).toNat).p q (fc x v f).p))
  fn : ∀ {v w q w' q'}, R v w q → R v w' q' → w = w' ∧ q = q'
  inj : ∀ {v v' w q q'}, R v w q → R v' w q' → v = v'

theorem face_free {x : List Int} {n t f : Nat} (hc : chk n x = 0) (ht : t < n) (hf : f < 4) : (fc x t f).u = -1 ∨ 0 ≤ (fc x t f).u := by
  rcases chk_good hc ht hf with h | h
  · exact .inl h.1
  · exact .inr h.1

/-- The way back. -/
theorem Loc2.back {x y : List Int} {n m : Nat} {R : Nat → Nat → Pm → Prop} (hx : chk n x = 0) (hy : chk m y = 0) (L : Loc2 x n y m R) : Loc2 y m x n (fun w v r => ∃ q, R v w q ∧ r = inverseP q) := by
  refine ⟨?_, ?_, ?_, ?_⟩
  · rintro w v r ⟨q, h, rfl⟩
    obtain ⟨h1, h2, h3⟩ := L.lt h
    exact ⟨h2, h1, inverse_valid h3⟩
  · rintro w v r g ⟨q, h, rfl⟩ hg
    obtain ⟨h1, h2, h3⟩ := L.lt h
    have hr := at_range (inverse_valid h3) (i := (g : Int)) (by omega) (by omega)
    have hi := (at_inv h3 (i := (g : Int)) (by omega) (by omega)).2
    have hF := L.face h (f := ((inverseP q).at (g : Nat)).toNat) (by omega)
    rw [Int.toNat_of_nonneg hr.1, hi, Int.toNat_natCast] at hF
    rcases hF with ⟨a, b⟩ | ⟨a, b, c⟩
    · exact .inl ⟨b, a⟩
    · refine .inr ⟨b, a, _, c, ?_⟩
      have va := (face_back hx h1 (show ((inverseP q).at (g : Nat)).toNat < 4 by omega) a).2.1
      have vb := (face_back hy h2 hg b).2.1
      unfold wantP
      rw [inv_compose vb (compose_valid' h3 (inverse_valid va)), inv_compose h3 (inverse_valid va), inv_inv va]
      rw [compose_assoc _ _ (inverse_valid vb)]
  · rintro w v r v' r' ⟨q, h, rfl⟩ ⟨q', h', rfl⟩
    have := L.inj h h'
    subst this
    obtain ⟨_, rfl⟩ := L.fn h h'
    exact ⟨rfl, rfl⟩
  · rintro w w' v r r' ⟨q, h, rfl⟩ ⟨q', h', rfl⟩
    exact (L.fn h h').1

/-- One way, then another one. -/
theorem Loc2.comp {x y z : List Int} {n m k : Nat} {R S : Nat → Nat → Pm → Prop} (hx : chk n x = 0) (hy : chk m y = 0) (hz : chk k z = 0) (L : Loc2 x n y m R) (M : Loc2 y m z k S) :
    Loc2 x n z k (fun v u r => ∃ w q q', R v w q ∧ S w u q' ∧ r = composeP q' q) := by
  refine ⟨?_, ?_, ?_, ?_⟩
  · rintro v u r ⟨w, q, q', h, h', rfl⟩
    exact ⟨(L.lt h).1, (M.lt h').2.1, compose_valid' (M.lt h').2.2 (L.lt h).2.2⟩
  · rintro v u r f ⟨w, q, q', h, h', rfl⟩ hf
    obtain ⟨h1, h2, h3⟩ := L.lt h
    obtain ⟨_, h4, h5⟩ := M.lt h'
    have hr := at_range h3 (i := (f : Int)) (by omega) (by omega)
    have hF := L.face h hf
    have hG := M.face h' (f := (q.at (f : Nat)).toNat) (by omega)
    rw [Int.toNat_of_nonneg hr.1] at hG
    rw [at_compose _ (by omega) (by omega)]
    rcases hF with ⟨a, b⟩ | ⟨a, b, c⟩
    · rcases hG with ⟨a', b'⟩ | ⟨a', b', c'⟩
      · exact .inl ⟨a, b'⟩
      · omega
    · rcases hG with ⟨a', b'⟩ | ⟨a', b', c'⟩
      · omega
      · refine .inr ⟨a, b', _, _, _, c, c', ?_⟩
        have va := (face_back hx h1 hf a).2.1
        have vb := (face_back hy h2 (show (q.at (f : Nat)).toNat < 4 by omega) b).2.1
        have vc := (face_back hz h4 (show (q'.at (q.at (f : Nat))).toNat < 4 by have := at_range h5 hr.1 hr.2; omega) b').2.1
        unfold wantP
        generalize (fc z u (q'.at (q.at (f : Nat))).toNat).p = C at *
        generalize (fc y w (q.at (f : Nat)).toNat).p = B at *
        generalize (fc x v f).p = A at *
        have iA := inverse_valid va
        have iB := inverse_valid vb
        have vq := compose_valid' h3 iA
        rw [compose_assoc C _ (compose_valid' vb vq), compose_assoc q' _ (compose_valid' vb vq), ← compose_assoc (inverseP B) B vq, (compose_inv vb).2, id_compose vq, compose_assoc q' q iA]
  · rintro v u r u' r' ⟨w, q, q', h, h', rfl⟩ ⟨w2, q2, q2', h2, h2', rfl⟩
    obtain ⟨rfl, rfl⟩ := L.fn h h2
    obtain ⟨rfl, rfl⟩ := M.fn h' h2'
    exact ⟨rfl, rfl⟩
  · rintro v v' u r r' ⟨w, q, q', h, h', rfl⟩ ⟨w2, q2, q2', h2, h2', rfl⟩
    have := M.inj h' h2'
    subst this
    exact L.inj h h2

/-- What can be reached there is met. -/
theorem Loc2.onto {x y : List Int} {n m : Nat} {R : Nat → Nat → Pm → Prop} (hx : chk n x = 0) (hy : chk m y = 0) (L : Loc2 x n y m R) {t u : Nat} {p : Pm} (h : R t u p) {w : Nat} (hw : Reach (Adj y m) u w) : ∃ v q, R v w q ∧ Reach (Adj x n) t v := by
  induction hw with
  | refl => exact ⟨t, p, h, .refl _⟩
  | tail _ e ih =>
    obtain ⟨v, q, hv, hr⟩ := ih
    obtain ⟨_, g, hg, hu⟩ := e
    obtain ⟨h1, h2, h3⟩ := L.lt hv
    have hi := at_range (inverse_valid h3) (i := (g : Int)) (by omega) (by omega)
    have hF := L.face hv (f := ((inverseP q).at (g : Nat)).toNat) (by omega)
    rw [Int.toNat_of_nonneg hi.1, (at_inv h3 (i := (g : Int)) (by omega) (by omega)).2, Int.toNat_natCast, hu] at hF
    rcases hF with ⟨a, b⟩ | ⟨a, b, c⟩
    · omega
    · rw [Int.toNat_natCast] at c
      exact ⟨_, _, c, .tail hr ⟨h1, _, show ((inverseP q).at (g : Nat)).toNat < 4 by omega, by omega⟩⟩
/-- What can be reached here is met. -/
theorem Loc2.whole {x y : List Int} {n m : Nat} {R : Nat → Nat → Pm → Prop} (hx : chk n x = 0) (L : Loc2 x n y m R) {t u : Nat} {p : Pm} (h : R t u p) {v : Nat} (hv : Reach (Adj x n) t v) : ∃ w q, R v w q ∧ Reach (Adj y m) u w := by
  induction hv with
  | refl => exact ⟨u, p, h, .refl _⟩
  | tail _ e ih =>
    obtain ⟨w, q, hw, hr⟩ := ih
    obtain ⟨_, f, hf, hu⟩ := e
    obtain ⟨h1, h2, h3⟩ := L.lt hw
    have hi := at_range h3 (i := (f : Int)) (by omega) (by omega)
    rcases L.face hw hf with ⟨a, b⟩ | ⟨a, b, c⟩
    · omega
    · rw [hu, Int.toNat_natCast] at c
      exact ⟨_, _, c, .tail hr ⟨h2, _, show (q.at (f : Nat)).toNat < 4 by omega, by omega⟩⟩

end Go.Ab

namespace Go.Ab

/-- A face is as it should be. -/
def FCond (x y : List Int) (s : MS) (v f : Nat) : Prop := ((fc x v f).u = -1 ∧ (otherF y s v f).u = -1) ∨
  (0 ≤ (fc x v f).u ∧ 0 ≤ (otherF y s v f).u ∧ s.T (fc x v f).u.toNat = (otherF y s v f).u ∧ s.B (fc x v f).u.toNat = wantP (otherF y s v f).p (s.B v) (fc x v f).p)

structure MI (x y : List Int) (n t u : Nat) (p : Pm) (i m : Nat) (s : MS) : Prop where
  fst : 0 < s.q.length ∧ cel s.q 0 = (t : Int)
  st : s.T t = u ∧ s.B t = p
  le : i ≤ s.q.length
  qin : ∀ j, j < s.q.length → 0 ≤ cel s.q j ∧ cel s.q j < n ∧ 0 ≤ s.T (cel s.q j).toNat
  inj : ∀ j k, j < s.q.length → k < s.q.length → cel s.q j = cel s.q k → j = k
  neg : ∀ v, s.T v = -1 ∨ 0 ≤ s.T v
  lab : ∀ v, v < n → 0 ≤ s.T v → s.T v < n ∧ (s.B v).valid = true ∧ ∃ j, j < s.q.length ∧ cel s.q j = v
  tk : ∀ w : Nat, s.g w = true ↔ ∃ v, v < n ∧ s.T v = (w : Int)
  tinj : ∀ v v', v < n → v' < n → 0 ≤ s.T v → s.T v = s.T v' → v = v'
  done : ∀ j f, (j < i ∨ (j = i ∧ f < m)) → f < 4 → j < s.q.length → FCond x y s (cel s.q j).toNat f

section
variable {x y : List Int} {n t u i m : Nat} {p : Pm} {s s' : MS}

theorem MI.short (h : MI x y n t u p i m s) : s.q.length ≤ n := pigeon n s.q (fun j hj => ⟨(h.qin j hj).1, (h.qin j hj).2.1⟩) h.inj

/-- What is known of the face on the other side. -/
theorem MI.other (hy : chk n y = 0) (h : MI x y n t u p i m s) (hi : i < s.q.length) {f : Nat} (hf : f < 4) : (otherF y s (cel s.q i).toNat f).u = -1 ∨ (0 ≤ (otherF y s (cel s.q i).toNat f).u ∧ (otherF y s (cel s.q i).toNat f).u < n ∧ (otherF y s (cel s.q i).toNat f).p.valid = true) := by
  obtain ⟨q0, q1, q2⟩ := h.qin i hi
  obtain ⟨l1, l2, _⟩ := h.lab _ (by omega) q2
  have hr := at_range l2 (i := (f : Int)) (by omega) (by omega)
  unfold otherF
  rcases chk_good hy (t := (s.T (cel s.q i).toNat).toNat) (f := ((s.B (cel s.q i).toNat).at (f : Nat)).toNat) (by omega) (by omega) with h | h
  · exact .inl h.1
  · exact .inr ⟨h.1, h.2.1, h.2.2.1⟩

theorem mF_T (hs : mF x y s (cel s.q i).toNat m = some s') {v : Nat} (hv : 0 ≤ s.T v) : s'.T v = s.T v ∧ s'.B v = s.B v := by
  unfold mF at hs
  simp only at hs
  split at hs
  · split at hs
    · cases hs; exact ⟨rfl, rfl⟩
    · cases hs
  · split at hs
    · rename_i hn
      split at hs
      · cases hs
      · cases hs
        have hne : v ≠ (fc x (cel s.q i).toNat m).u.toNat := fun e => by
          rw [← e] at hn
          have := ilt_neg.1 hn
          omega
        exact ⟨if_neg hne, if_neg hne⟩
    · split at hs
      · cases hs; exact ⟨rfl, rfl⟩
      · cases hs

theorem MI.face (hx : chk n x = 0) (hy : chk n y = 0) (h : MI x y n t u p i m s) (hi : i < s.q.length) (hm : m < 4) (hs : mF x y s (cel s.q i).toNat m = some s') : MI x y n t u p i (m + 1) s' ∧ cel s'.q i = cel s.q i ∧ s.q.length ≤ s'.q.length := by
  obtain ⟨q0, q1, q2⟩ := h.qin i hi
  have htn : (cel s.q i).toNat < n := by omega
  obtain ⟨l1, l2, _⟩ := h.lab _ htn q2
  have hoth := h.other hy hi hm
  have hfree := face_free hx htn hm
  have hbk := fun h0 => face_back hx htn hm h0
  have keep : ∀ v, 0 ≤ s.T v → s'.T v = s.T v ∧ s'.B v = s.B v := fun v hv => mF_T hs hv
  have oth' : ∀ j f, j < s.q.length → otherF y s' (cel s.q j).toNat f = otherF y s (cel s.q j).toNat f := by
    intro j f hj
    have := keep _ (h.qin j hj).2.2
    unfold otherF
    rw [this.1, this.2]
  have fc' : ∀ j f, j < s.q.length → FCond x y s (cel s.q j).toNat f → FCond x y s' (cel s.q j).toNat f := by
    intro j f hj hF
    unfold FCond at hF ⊢
    rw [oth' j f hj]
    rcases hF with hF | ⟨a, b, c, d⟩
    · exact .inl hF
    · have hk := keep (fc x (cel s.q j).toNat f).u.toNat (by rw [c]; exact b)
      refine .inr ⟨a, b, by rw [hk.1]; exact c, ?_⟩
      rw [hk.2, (keep _ (h.qin j hj).2.2).2]; exact d
  unfold mF at hs
  simp only at hs
  split at hs
  · rename_i hlt
    split at hs
    · rename_i heq
      cases hs
      refine ⟨⟨h.fst, h.st, h.le, h.qin, h.inj, h.neg, h.lab, h.tk, h.tinj, ?_⟩, rfl, Nat.le_refl _⟩
      intro j f hjf hf hj
      by_cases e : j = i ∧ f = m
      · obtain ⟨rfl, rfl⟩ := e
        left
        rcases hlt with hl | hl
        · have := ilt_neg.1 hl
          rcases hfree with h1 | h1
          · exact ⟨h1, by rw [← heq]; exact h1⟩
          · omega
        · have := ilt_neg.1 hl
          rcases hoth with h1 | h1
          · exact ⟨by rw [heq]; exact h1, h1⟩
          · omega
      · exact h.done j f (by omega) hf hj
    · cases hs
  · rename_i hge
    have ha0 : 0 ≤ (fc x (cel s.q i).toNat m).u := by
      cases hb : ilt (fc x (cel s.q i).toNat m).u 0 with
      | true => exact absurd (.inl hb) hge
      | false => exact ilt_nonneg.1 hb
    have hb0 : 0 ≤ (otherF y s (cel s.q i).toNat m).u := by
      cases hb : ilt (otherF y s (cel s.q i).toNat m).u 0 with
      | true => exact absurd (.inr hb) hge
      | false => exact ilt_nonneg.1 hb
    obtain ⟨halt, hav, _⟩ := hbk ha0
    have hb := hoth.resolve_left (by omega)
    split at hs
    · rename_i hn
      have hn' := ilt_neg.1 hn
      split at hs
      · cases hs
      · rename_i htk
        have hs' := (Option.some.inj hs).symm
        have hT : ∀ v, s'.T v = if v = (fc x (cel s.q i).toNat m).u.toNat then (otherF y s (cel s.q i).toNat m).u else s.T v := fun v => by rw [hs']; rfl
        have hB : ∀ v, s'.B v = if v = (fc x (cel s.q i).toNat m).u.toNat then wantP (otherF y s (cel s.q i).toNat m).p (s.B (cel s.q i).toNat) (fc x (cel s.q i).toNat m).p else s.B v := fun v => by rw [hs']; rfl
        have hg : ∀ w, s'.g w = if w = (otherF y s (cel s.q i).toNat m).u.toNat then true else s.g w := fun w => by rw [hs']; rfl
        have hq : s'.q = s.q ++ [(fc x (cel s.q i).toNat m).u] := by rw [hs']
        clear hs hs'
        have hlen : s'.q.length = s.q.length + 1 := by rw [hq]; simp
        have hqc : ∀ j, cel s'.q j = if j = s.q.length then (fc x (cel s.q i).toNat m).u else cel s.q j := fun j => by rw [hq]; exact cel_snoc _ _ _
        generalize hau : (fc x (cel s.q i).toNat m).u = au at *
        generalize hbu : (otherF y s (cel s.q i).toNat m).u = bu at *
        have hne : ∀ j, j < s.q.length → (cel s.q j).toNat ≠ au.toNat := fun j hj e => by have := (h.qin j hj).2.2; rw [e] at this; omega
        have hnt : ∀ v, v < n → s.T v ≠ bu := fun v hv e => htk ((h.tk bu.toNat).2 ⟨v, hv, by omega⟩)
        have ht : t ≠ au.toNat := fun e => by have := h.st.1; rw [e] at this; omega
        have hf0 := h.fst
        have hle := h.le
        refine ⟨⟨⟨by omega, by rw [hqc, if_neg (by omega)]; exact hf0.2⟩, ⟨by rw [hT, if_neg ht]; exact h.st.1, by rw [hB, if_neg ht]; exact h.st.2⟩, by omega, ?_, ?_, ?_, ?_, ?_, ?_, ?_⟩, ?_, by omega⟩
        · intro j hj
          rw [hqc]
          by_cases e : j = s.q.length
          · rw [if_pos e]; exact ⟨ha0, halt, by rw [hT, if_pos rfl]; exact hb0⟩
          · rw [if_neg e]
            obtain ⟨a1, a2, a3⟩ := h.qin j (by omega)
            exact ⟨a1, a2, by rw [hT, if_neg (hne j (by omega))]; exact a3⟩
        · intro j k hj hk
          rw [hqc, hqc]
          by_cases e : j = s.q.length
          · by_cases e2 : k = s.q.length
            · intro _; omega
            · rw [if_pos e, if_neg e2]; intro h2; exact absurd (by rw [← h2]) (hne k (by omega))
          · by_cases e2 : k = s.q.length
            · rw [if_neg e, if_pos e2]; intro h2; exact absurd (by rw [h2]) (hne j (by omega))
            · rw [if_neg e, if_neg e2]; exact h.inj j k (by omega) (by omega)
        · intro v; rw [hT]; split
          · exact .inr hb0
          · exact h.neg v
        · intro v hv h0
          rw [hT] at h0 ⊢
          rw [hB]
          by_cases e : v = au.toNat
          · rw [if_pos e, if_pos e]
            exact ⟨hb.2.1, want_valid hb.2.2 l2 hav, s.q.length, by omega, by rw [hqc, if_pos rfl]; omega⟩
          · rw [if_neg e] at h0 ⊢
            rw [if_neg e]
            obtain ⟨a1, a2, j, hj, hj2⟩ := h.lab v hv h0
            exact ⟨a1, a2, j, by omega, by rw [hqc, if_neg (by omega)]; exact hj2⟩
        · intro w
          rw [hg]
          constructor
          · intro hw
            by_cases e : w = bu.toNat
            · exact ⟨au.toNat, by omega, by rw [hT, if_pos rfl]; omega⟩
            · rw [if_neg e] at hw
              obtain ⟨v, hv, hvw⟩ := (h.tk w).1 hw
              exact ⟨v, hv, by rw [hT, if_neg (fun e => by rw [e] at hvw; omega)]; exact hvw⟩
          · rintro ⟨v, hv, hvw⟩
            rw [hT] at hvw
            by_cases e : v = au.toNat
            · rw [if_pos e] at hvw; rw [if_pos (by omega)]
            · rw [if_neg e] at hvw
              by_cases e2 : w = bu.toNat
              · rw [if_pos e2]
              · rw [if_neg e2]; exact (h.tk w).2 ⟨v, hv, hvw⟩
        · intro v v' hv hv' h0 he
          rw [hT] at h0
          rw [hT, hT] at he
          by_cases e : v = au.toNat
          · by_cases e2 : v' = au.toNat
            · omega
            · rw [if_pos e, if_neg e2] at he; exact absurd he.symm (hnt v' hv')
          · by_cases e2 : v' = au.toNat
            · rw [if_neg e, if_pos e2] at he; exact absurd he (hnt v hv)
            · rw [if_neg e, if_neg e2] at he
              rw [if_neg e] at h0
              exact h.tinj v v' hv hv' h0 he
        · intro j f hjf hf hj
          have hj' : j < s.q.length := by omega
          rw [hqc, if_neg (by omega)]
          by_cases e : j = i ∧ f = m
          · obtain ⟨rfl, rfl⟩ := e
            right
            have ho := oth' j f hj'
            rw [hau, ho, hbu]
            refine ⟨ha0, hb0, by rw [hT, if_pos rfl], ?_⟩
            rw [hB, if_pos rfl, hB, if_neg (hne j hj')]
          · exact fc' j f hj' (h.done j f (by omega) hf hj')
        · rw [hqc, if_neg (by omega)]
    · split at hs
      · rename_i hh
        cases hs
        refine ⟨⟨h.fst, h.st, h.le, h.qin, h.inj, h.neg, h.lab, h.tk, h.tinj, ?_⟩, rfl, Nat.le_refl _⟩
        intro j f hjf hf hj
        by_cases e : j = i ∧ f = m
        · obtain ⟨rfl, rfl⟩ := e
          exact .inr ⟨ha0, hb0, hh.1, eqP_iff.1 hh.2⟩
        · exact h.done j f (by omega) hf hj
      · cases hs

theorem MI.tet (hx : chk n x = 0) (hy : chk n y = 0) (h : MI x y n t u p i 0 s) (hi : i < s.q.length) : ∀ m s', m ≤ 4 → mT x y s (cel s.q i).toNat m = some s' → MI x y n t u p i m s' ∧ cel s'.q i = cel s.q i ∧ s.q.length ≤ s'.q.length := by
  intro m
  induction m with
  | zero => intro s' _ hs; simp only [mT, Option.some.injEq] at hs; subst hs; exact ⟨h, rfl, Nat.le_refl _⟩
  | succ m ih =>
    intro s' hm hs
    simp only [mT] at hs
    obtain ⟨s1, h1, h2⟩ := Option.bind_eq_some_iff.1 hs
    obtain ⟨a, b, c⟩ := ih s1 (by omega) h1
    rw [← b] at h2
    obtain ⟨d, e, f⟩ := a.face hx hy (by omega) (by omega) h2
    exact ⟨d, e.trans b, by omega⟩

theorem MI.next (h : MI x y n t u p i 4 s) (hi : i < s.q.length) : MI x y n t u p (i + 1) 0 s :=
  ⟨h.fst, h.st, hi, h.qin, h.inj, h.neg, h.lab, h.tk, h.tinj, fun j f hjf hf hj => h.done j f (by omega) hf hj⟩

theorem MI.start (ht : t < n) (hu : u < n) (hp : p.valid = true) : MI x y n t u p 0 0 (mStart t u p) := by
  have hT : ∀ v, (mStart t u p).T v = if v = t then (u : Int) else -1 := fun v => rfl
  have hB : ∀ v, (mStart t u p).B v = if v = t then p else .zero := fun v => rfl
  have hq : (mStart t u p).q = [(t : Int)] := rfl
  have hc : cel [(t : Int)] 0 = t := rfl
  refine ⟨⟨by simp [hq], hc⟩, ⟨by rw [hT, if_pos rfl], by rw [hB, if_pos rfl]⟩, Nat.zero_le _, ?_, ?_, ?_, ?_, ?_, ?_, ?_⟩
  · intro j hj
    have : j = 0 := by simpa [hq] using hj
    subst this
    rw [hq, hc, Int.toNat_natCast, hT, if_pos rfl]
    omega
  · intro j k hj hk _
    have : j = 0 := by simpa [hq] using hj
    have : k = 0 := by simpa [hq] using hk
    omega
  · intro v; rw [hT]; split <;> omega
  · intro v hv h0
    rw [hT] at h0 ⊢
    rw [hB]
    split at h0
    · rename_i e
      rw [if_pos e, if_pos e]
      exact ⟨by omega, hp, 0, by simp [hq], by rw [hq, hc, e]⟩
    · omega
  · intro w
    show (if w = u then true else false) = true ↔ _
    constructor
    · intro h
      split at h
      · rename_i e; exact ⟨t, ht, by rw [hT, if_pos rfl, e]⟩
      · cases h
    · rintro ⟨v, hv, hvw⟩
      rw [hT] at hvw
      split at hvw
      · rw [if_pos (by omega)]
      · omega
  · intro v v' hv hv' h0 he
    rw [hT] at h0
    rw [hT, hT] at he
    split at h0
    · split at he
      · split at he
        · omega
        · omega
      · omega
    · omega
  · intro j f hjf; omega

theorem MI.run (hx : chk n x = 0) (hy : chk n y = 0) (h : MI x y n t u p 0 0 s) : ∀ i s', mQ x y s i = some s' → ∃ j, j ≤ i ∧ MI x y n t u p j 0 s' ∧ (j = i ∨ s'.q.length ≤ j) := by
  intro i
  induction i with
  | zero => intro s' hs; simp only [mQ, Option.some.injEq] at hs; subst hs; exact ⟨0, Nat.le_refl _, h, .inl rfl⟩
  | succ i ih =>
    intro s' hs
    simp only [mQ] at hs
    obtain ⟨s1, h1, h2⟩ := Option.bind_eq_some_iff.1 hs
    obtain ⟨j, hj, hb, hd⟩ := ih s1 h1
    split at h2
    · rename_i hi
      have hji : j = i := by omega
      subst hji
      obtain ⟨a, b, c⟩ := hb.tet hx hy hi 4 s' (by omega) h2
      exact ⟨j + 1, by omega, a.next (by omega), .inl rfl⟩
    · rename_i hi
      cases h2
      exact ⟨j, by omega, hb, .inr (by have := hb.le; omega)⟩

/-- A matching that ends well keeps all faces. -/
theorem mRes_loc (hx : chk n x = 0) (hy : chk n y = 0) (ht : t < n) (hu : u < n) (hp : p.valid = true) (h : mRes x y n t u p = true) : ∃ R, Loc2 x n y n R ∧ R t u p := by
  unfold mRes at h
  obtain ⟨s, hs⟩ := Option.isSome_iff_exists.1 h
  obtain ⟨j, hj, hb, hd⟩ := (MI.start (x := x) (y := y) ht hu hp).run hx hy n s hs
  have hle := hb.le
  have hsh := hb.short
  have hjl : j = s.q.length := by omega
  subst hjl
  refine ⟨fun v w q => v < n ∧ s.T v = (w : Int) ∧ s.B v = q, ⟨?_, ?_, ?_, ?_⟩, ht, hb.st.1, hb.st.2⟩
  · rintro v w q ⟨hv, h1, rfl⟩
    obtain ⟨a, b, _⟩ := hb.lab v hv (by omega)
    exact ⟨hv, by omega, b⟩
  · rintro v w q f ⟨hv, h1, rfl⟩ hf
    obtain ⟨_, _, k, hk, hk2⟩ := hb.lab v hv (by omega)
    have hF := hb.done k f (.inl hk) hf hk
    rw [hk2, Int.toNat_natCast] at hF
    unfold FCond otherF at hF
    rw [h1, Int.toNat_natCast] at hF
    rcases hF with hF | ⟨a, b, c, d⟩
    · exact .inl hF
    · have := (face_back hx hv hf a).1
      exact .inr ⟨a, b, by omega, by rw [c, Int.toNat_of_nonneg b], d⟩
  · rintro v w q w' q' ⟨hv, h1, rfl⟩ ⟨_, h2, rfl⟩
    exact ⟨by omega, rfl⟩
  · rintro v v' w q q' ⟨hv, h1, rfl⟩ ⟨hv', h2, rfl⟩
    exact hb.tinj v v' hv hv' (by omega) (by omega)

/-- Where there is a relation, nothing goes wrong. -/
def MJ (n : Nat) (R : Nat → Nat → Pm → Prop) (s : MS) : Prop := ∀ v, v < n → 0 ≤ s.T v → R v (s.T v).toNat (s.B v)
theorem MJ.face {R : Nat → Nat → Pm → Prop} (hx : chk n x = 0) (L : Loc2 x n y n R) (h : MI x y n t u p i m s) (hi : i < s.q.length) (hm : m < 4) (hJ : MJ n R s) : ∃ s', mF x y s (cel s.q i).toNat m = some s' ∧ MJ n R s' := by
  obtain ⟨q0, q1, q2⟩ := h.qin i hi
  have hv : (cel s.q i).toNat < n := by omega
  have hR := hJ _ hv q2
  have hF := L.face hR hm
  have ho : otherF y s (cel s.q i).toNat m = fc y (s.T (cel s.q i).toNat).toNat ((s.B (cel s.q i).toNat).at (m : Nat)).toNat := rfl
  rw [← ho] at hF
  unfold mF
  simp only
  rcases hF with ⟨a, b⟩ | ⟨a, b, c⟩
  · rw [if_pos (.inl (ilt_neg.2 (by omega))), if_pos (by rw [a, b])]
    exact ⟨s, rfl, hJ⟩
  · have hlt := (face_back hx hv hm a).1
    rw [if_neg (by rintro (h1 | h1) <;> have := ilt_neg.1 h1 <;> omega)]
    split
    · rename_i hn
      have hn' := ilt_neg.1 hn
      rw [if_neg]
      · refine ⟨_, rfl, fun v hv2 h0 => ?_⟩
        simp only [fset] at h0 ⊢
        by_cases e : v = (fc x (cel s.q i).toNat m).u.toNat
        · rw [if_pos e, if_pos e, e]; exact c
        · rw [if_neg e] at h0 ⊢
          rw [if_neg e]
          exact hJ v hv2 h0
      · intro htk
        obtain ⟨v, hv2, hvw⟩ := (h.tk _).1 htk
        rw [Int.toNat_of_nonneg b] at hvw
        have h3 := hJ v hv2 (by omega)
        rw [hvw] at h3
        have := L.inj h3 c
        rw [← this, hvw] at hn'
        omega
    · rename_i hn
      have h0 : 0 ≤ s.T (fc x (cel s.q i).toNat m).u.toNat := by
        cases hb : ilt (s.T (fc x (cel s.q i).toNat m).u.toNat) 0 with
        | true => exact absurd hb hn
        | false => exact ilt_nonneg.1 hb
      have h3 := hJ _ (by omega) h0
      obtain ⟨e1, e2⟩ := L.fn h3 c
      rw [if_pos ⟨by omega, eqP_iff.2 e2⟩]
      exact ⟨s, rfl, hJ⟩

theorem MJ.tet {R : Nat → Nat → Pm → Prop} (hx : chk n x = 0) (hy : chk n y = 0) (L : Loc2 x n y n R) (h : MI x y n t u p i 0 s) (hi : i < s.q.length) (hJ : MJ n R s) : ∀ m, m ≤ 4 → ∃ s', mT x y s (cel s.q i).toNat m = some s' ∧ MJ n R s' := by
  intro m
  induction m with
  | zero => intro _; exact ⟨s, rfl, hJ⟩
  | succ m ih =>
    intro hm
    obtain ⟨s1, h1, h2⟩ := ih (by omega)
    obtain ⟨a, b, c⟩ := h.tet hx hy hi m s1 (by omega) h1
    obtain ⟨s2, h3, h4⟩ := h2.face hx L a (by omega) (by omega)
    rw [b] at h3
    exact ⟨s2, by simp only [mT, h1, Option.bind_some]; exact h3, h4⟩

/-- Where there is a relation, the matching ends well. -/
theorem mRes_of {R : Nat → Nat → Pm → Prop} (hx : chk n x = 0) (hy : chk n y = 0) (L : Loc2 x n y n R) (hR : R t u p) : mRes x y n t u p = true := by
  obtain ⟨ht, hu, hp⟩ := L.lt hR
  have hst := MI.start (x := x) (y := y) ht hu hp
  have hJ : MJ n R (mStart t u p) := by
    intro v hv h0
    have hT : (mStart t u p).T v = if v = t then (u : Int) else -1 := rfl
    have hB : (mStart t u p).B v = if v = t then p else .zero := rfl
    rw [hT] at h0 ⊢
    rw [hB]
    split at h0
    · rename_i e; rw [if_pos e, if_pos e, e, Int.toNat_natCast]; exact hR
    · omega
  have main : ∀ i, ∃ s', mQ x y (mStart t u p) i = some s' ∧ MJ n R s' := by
    intro i
    induction i with
    | zero => exact ⟨_, rfl, hJ⟩
    | succ i ih =>
      obtain ⟨s1, h1, h2⟩ := ih
      obtain ⟨j, hj, hb, hd⟩ := hst.run hx hy i s1 h1
      simp only [mQ, h1, Option.bind_some]
      split
      · rename_i hi
        have hji : j = i := by omega
        subst hji
        exact h2.tet hx hy L hb hi 4 (by omega)
      · exact ⟨s1, rfl, h2⟩
  obtain ⟨s', h1, _⟩ := main n
  unfold mRes
  rw [h1]; rfl
end
end Go.Ab

namespace Go.Ab

def labN (y : List Int) (n u : Nat) : Nat := (cel (partsL y n) u).toNat
def fp (x y : List Int) (n t u : Nat) : Bool := (List.range 24).any fun p => mRes x y n t u (nthP p)
def fstA (x : List Int) (n t : Nat) : Nat → Bool
  | 0 => true
  | k + 1 => fstA x n t k && (cel (partsL x n) k != cel (partsL x n) t)
/-- The first tetrahedron of its part. -/
def isFst (x : List Int) (n t : Nat) : Bool := fstA x n t t
def fu (x y : List Int) (n : Nat) (g : Nat → Bool) (t : Nat) : Option Nat := (List.range n).find? fun u => !g (labN y n u) && fp x y n t u
/-- The parts that are used, behind the first t tetrahedra. -/
def rst (x y : List Int) (n : Nat) : Nat → Nat → Bool
  | 0 => fun _ => false
  | t + 1 => if isFst x n t = true then (match fu x y n (rst x y n t) t with | some u => fset (rst x y n t) (labN y n u) true | none => rst x y n t) else rst x y n t

theorem fstA_iff {x : List Int} {n t : Nat} : ∀ {k : Nat}, fstA x n t k = true ↔ ∀ j, j < k → cel (partsL x n) j ≠ cel (partsL x n) t := by
  intro k
  induction k with
  | zero => simp [fstA]
  | succ k ih =>
    simp only [fstA, Bool.and_eq_true, bne_iff_ne, ih]
    constructor
    · rintro ⟨h1, h2⟩ j hj
      by_cases e : j = k
      · subst e; exact h2
      · exact h1 j (by omega)
    · intro h
      exact ⟨fun j hj => h j (by omega), h k (by omega)⟩
theorem isFst_eq {x : List Int} {n s t : Nat} (hs : isFst x n s = true) (ht : isFst x n t = true) (h : cel (partsL x n) s = cel (partsL x n) t) : s = t := by
  rcases Nat.lt_trichotomy s t with h1 | h1 | h1
  · exact absurd h (fstA_iff.1 ht s h1)
  · exact h1
  · exact absurd h.symm (fstA_iff.1 hs t h1)

theorem parts_same {x : List Int} {n v w : Nat} (hc : chk n x = 0) (hv : v < n) (hw : w < n) : cel (partsL x n) v = cel (partsL x n) w ↔ Reach (Adj x n) v w := by
  have h := parts_spec hc n (Nat.le_refl _)
  exact h.same v w hv hw (h.done v hv)
theorem parts_le (x : List Int) (n : Nat) : ∀ t, (pst x n t).2 ≤ t := by
  intro t
  induction t with
  | zero => simp [pst]
  | succ t ih => simp only [pst]; split <;> (try simp only) <;> omega
theorem parts_lab {x : List Int} {n v : Nat} (hc : chk n x = 0) (hv : v < n) : 0 ≤ cel (partsL x n) v ∧ cel (partsL x n) v < n := by
  have h := parts_spec hc n (Nat.le_refl _)
  have h1 := h.done v hv
  have h2 := h.rng v hv
  have h3 := parts_le x n n
  unfold partsL
  omega
theorem labN_same {x : List Int} {n v w : Nat} (hc : chk n x = 0) (hv : v < n) (hw : w < n) : labN x n v = labN x n w ↔ Reach (Adj x n) v w := by
  rw [← parts_same hc hv hw]
  have h1 := parts_lab hc hv
  have h2 := parts_lab hc hw
  unfold labN
  omega

section
variable {x y : List Int} {n : Nat}

def Rel2 (x y : List Int) (n t u : Nat) : Prop := ∃ R, Loc2 x n y n R ∧ ∃ p, R t u p

theorem fp_rel (hx : chk n x = 0) (hy : chk n y = 0) {t u : Nat} (ht : t < n) (hu : u < n) : fp x y n t u = true ↔ Rel2 x y n t u := by
  constructor
  · intro h
    obtain ⟨p, hp, h⟩ := List.any_eq_true.1 h
    have hp' := List.mem_range.1 hp
    obtain ⟨R, L, hR⟩ := mRes_loc hx hy ht hu (nthP_valid hp') h
    exact ⟨R, L, _, hR⟩
  · rintro ⟨R, L, p, hR⟩
    obtain ⟨i, hi, e⟩ := nthP_all (L.lt hR).2.2
    refine List.any_eq_true.2 ⟨i, List.mem_range.2 hi, ?_⟩
    rw [e]
    exact mRes_of hx hy L hR

theorem fu_spec {g : Nat → Bool} {t u : Nat} (h : fu x y n g t = some u) : u < n ∧ g (labN y n u) = false ∧ fp x y n t u = true := by
  have h1 := List.find?_some h
  have h2 := List.mem_of_find?_eq_some h
  simp only [Bool.and_eq_true, Bool.not_eq_true'] at h1
  exact ⟨List.mem_range.1 h2, h1.1, h1.2⟩

/-- What is used was used for some part. -/
theorem rst_used : ∀ {t d : Nat}, rst x y n t d = true → ∃ s u, s < t ∧ isFst x n s = true ∧ fu x y n (rst x y n s) s = some u ∧ labN y n u = d := by
  intro t
  induction t with
  | zero => intro d h; simp [rst] at h
  | succ t ih =>
    intro d h
    simp only [rst] at h
    split at h
    · rename_i hf
      cases hu : fu x y n (rst x y n t) t with
      | some u =>
        rw [hu] at h
        simp only [fset] at h
        split at h
        · rename_i e; exact ⟨t, u, by omega, hf, hu, e.symm⟩
        · obtain ⟨s, v, h1, h2⟩ := ih h; exact ⟨s, v, by omega, h2⟩
      | none =>
        rw [hu] at h
        obtain ⟨s, v, h1, h2⟩ := ih h; exact ⟨s, v, by omega, h2⟩
    · obtain ⟨s, v, h1, h2⟩ := ih h; exact ⟨s, v, by omega, h2⟩

/-- EACH PART FINDS ONE. -/
theorem fu_some {R : Nat → Nat → Pm → Prop} (hx : chk n x = 0) (hy : chk n y = 0) (L : Loc2 x n y n R) (hall : ∀ v, v < n → ∃ w q, R v w q) {t : Nat} (ht : t < n) (hf : isFst x n t = true) : ∃ u, fu x y n (rst x y n t) t = some u := by
  apply Classical.byContradiction
  intro hno
  have hnone : ∀ u, u < n → fp x y n t u = true → rst x y n t (labN y n u) = true := by
    intro u hu h
    cases hb : rst x y n t (labN y n u) with
    | true => rfl
    | false =>
      exfalso
      have : fu x y n (rst x y n t) t = none := by
        cases hq : fu x y n (rst x y n t) t with
        | none => rfl
        | some v => exact absurd ⟨v, hq⟩ hno
      have := List.find?_eq_none.1 this u (List.mem_range.2 hu)
      rw [hb, h] at this
      exact this rfl
  have hall' : ∀ v, ∃ w q, v < n → R v w q := by
    intro v
    by_cases hv : v < n
    · obtain ⟨w, q, h⟩ := hall v hv; exact ⟨w, q, fun _ => h⟩
    · exact ⟨0, .zero, fun h => absurd h hv⟩
  obtain ⟨phi, hphi'⟩ := Classical.axiomOfChoice hall'
  obtain ⟨psi, hphi⟩ := Classical.axiomOfChoice hphi'
  -- a first tetrahedron whose image lies in a part that t's part is related to
  let P : Nat → Prop := fun s => s < n ∧ isFst x n s = true ∧ ∃ u, u < n ∧ Reach (Adj y n) (phi s) u ∧ Rel2 x y n t u
  have hP0 : P t := ⟨ht, hf, phi t, (L.lt (hphi t ht)).2.1, .refl _, R, L, _, hphi t ht⟩
  have hstep : ∀ s : {s // P s}, ∃ s' : {s // P s}, s'.1 < t ∧ ∃ u, fu x y n (rst x y n s'.1) s'.1 = some u ∧ labN y n u = labN y n (phi s.1) := by
    rintro ⟨s, hs, hfs, u, hu, hr, hrel⟩
    have hps := (L.lt (hphi s hs)).2.1
    obtain ⟨s', u', h1, h2, h3, h4⟩ := rst_used (hnone u hu ((fp_rel hx hy ht hu).2 hrel))
    obtain ⟨hu', _, hfp⟩ := fu_spec h3
    have hs' : s' < n := by omega
    obtain ⟨T, LT, q, hT⟩ := (fp_rel hx hy hs' hu').1 hfp
    have e1 : Reach (Adj y n) u' u := (labN_same hy hu' hu).1 h4
    obtain ⟨v, q2, hv, hrv⟩ := LT.onto hx hy hT e1
    have hvn := (LT.lt hv).1
    obtain ⟨T1, L1, q1, hT1⟩ := hrel
    -- t to u, back to v, on to its image
    have LB := LT.back hx hy
    have L2 := Loc2.comp hx hy hx L1 LB
    have L3 := Loc2.comp hx hx hy L2 L
    have hw := (L.whole hx (hphi s' hs') hrv)
    obtain ⟨w, q3, hw1, hw2⟩ := hw
    refine ⟨⟨s', hs', h2, w, (L.lt hw1).2.1, hw2, _, L3, _, v, _, q3, ⟨u, q1, inverseP q2, hT1, ⟨q2, hv, rfl⟩, rfl⟩, hw1, rfl⟩, h1, u', h3, ?_⟩
    rw [h4]
    exact ((labN_same hy hps hu).2 hr).symm
  obtain ⟨nx, hnx⟩ := Classical.axiomOfChoice hstep
  let f : Nat → {s // P s} := fun k => Nat.rec ⟨t, hP0⟩ (fun _ s => nx s) k
  have hf0 : (f 0).1 = t := rfl
  have hfs : ∀ k, f (k + 1) = nx (f k) := fun _ => rfl
  have hlt : ∀ k, (f (k + 1)).1 < t := fun k => by rw [hfs]; exact (hnx (f k)).1
  have hinj : ∀ a b, a < b → (f a).1 ≠ (f b).1 := by
    intro a
    induction a with
    | zero =>
      intro b hb
      obtain ⟨b', rfl⟩ : ∃ b', b = b' + 1 := ⟨b - 1, by omega⟩
      have := hlt b'
      rw [hf0]; omega
    | succ a ih =>
      intro b hb
      obtain ⟨b', rfl⟩ : ∃ b', b = b' + 1 := ⟨b - 1, by omega⟩
      intro he
      refine ih b' (by omega) ?_
      obtain ⟨_, u, h1, h2⟩ := hnx (f a)
      obtain ⟨_, u', h3, h4⟩ := hnx (f b')
      rw [hfs, hfs] at he
      rw [he, h3] at h1
      cases h1
      have ha := (f a).2
      have hb' := (f b').2
      have pa := (L.lt (hphi _ ha.1)).2.1
      have pb := (L.lt (hphi _ hb'.1)).2.1
      have hr := (labN_same hy pa pb).1 (h2.symm.trans h4)
      obtain ⟨v, q, hv, hrv⟩ := L.onto hx hy (hphi _ ha.1) hr
      have := L.inj hv (hphi _ hb'.1)
      subst this
      exact isFst_eq ha.2.1 hb'.2.1 ((parts_same hx ha.1 hb'.1).2 hrv)
  have hq := pigeon n ((List.range (n + 1)).map fun k => ((f k).1 : Int)) (by
    intro j hj
    have hj' : j < n + 1 := by simpa using hj
    have e : cel ((List.range (n + 1)).map fun k => ((f k).1 : Int)) j = ((f j).1 : Int) := by
      simp [cel, List.getD_eq_getElem?_getD, hj']
    rw [e]
    have := (f j).2.1
    omega) (by
    intro j k hj hk he
    have hj' : j < n + 1 := by simpa using hj
    have hk' : k < n + 1 := by simpa using hk
    have e : ∀ j, j < n + 1 → cel ((List.range (n + 1)).map fun k => ((f k).1 : Int)) j = ((f j).1 : Int) := fun j hj' => by
      simp [cel, List.getD_eq_getElem?_getD, hj']
    rw [e j hj', e k hk'] at he
    rcases Nat.lt_trichotomy j k with h | h | h
    · exact absurd (by omega) (hinj j k h)
    · exact h
    · exact absurd (by omega) (hinj k j h))
  simp at hq
  omega
end
end Go.Ab
