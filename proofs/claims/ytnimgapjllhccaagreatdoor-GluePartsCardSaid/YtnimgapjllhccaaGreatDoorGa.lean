/- What a search through a gluing finds: its parts and its orientations, in plain words. Conditions: none beyond the given model and program. -/
import Derived.Test.YtnimgapjllhccaaGreatDoorPn
namespace Go.Ab

theorem cel_set {o : List Int} {i : Nat} {v : Int} (hi : i < o.length) (j : Nat) : cel (o.set i v) j = if i = j then v else cel o j := by
  simp only [cel, List.getD_eq_getElem?_getD, List.getElem?_set]
  by_cases h : i = j
  · subst h; simp [hi]
  · simp [h]
theorem cel_snoc (q : List Int) (u : Int) (j : Nat) : cel (q ++ [u]) j = if j = q.length then u else cel q j := by
  simp only [cel, List.getD_eq_getElem?_getD, List.getElem?_append]
  by_cases h : j < q.length
  · rw [if_pos h, if_neg (by omega)]
  · rw [if_neg h]
    by_cases h2 : j = q.length
    · subst h2; simp
    · have e1 : [u][j - q.length]? = none := List.getElem?_eq_none (by simp; omega)
      have e2 : q[j]? = none := List.getElem?_eq_none (by omega)
      rw [if_neg h2, e1, e2]

inductive Reach (E : Nat → Nat → Prop) : Nat → Nat → Prop
  | refl (a : Nat) : Reach E a a
  | tail {a b c : Nat} : Reach E a b → E b c → Reach E a c

theorem Reach.one {E : Nat → Nat → Prop} {a b : Nat} (h : E a b) : Reach E a b := .tail (.refl a) h
theorem Reach.trans {E : Nat → Nat → Prop} {a b c : Nat} (h : Reach E a b) (k : Reach E b c) : Reach E a c := by
  induction k with
  | refl => exact h
  | tail _ e ih => exact .tail ih e

/-- Two tetrahedra with a face in common. -/
def Adj (x : List Int) (n : Nat) (s t : Nat) : Prop := s < n ∧ ∃ f, f < 4 ∧ (fc x s f).u = (t : Int)

theorem face_back {x : List Int} {n t f : Nat} (hc : chk n x = 0) (ht : t < n) (hf : f < 4) (h0 : 0 ≤ (fc x t f).u) :
    (fc x t f).u < n ∧ (fc x t f).p.valid = true ∧ 0 ≤ (fc x t f).p.at f ∧ (fc x t f).p.at f < 4 ∧ (fc x (fc x t f).u.toNat ((fc x t f).p.at f).toNat).u = t ∧ (fc x (fc x t f).u.toNat ((fc x t f).p.at f).toNat).p = inverseP (fc x t f).p := by
  have h : faceOk n x t f = true := by
    unfold chk at hc
    split at hc
    · rename_i h
      simp only [checkB, Bool.and_eq_true] at h
      exact List.all_eq_true.1 (List.all_eq_true.1 h.2 t (List.mem_range.2 ht)) f (List.mem_range.2 hf)
    · cases hc
  unfold faceOk at h
  simp only [Bool.or_eq_true, Bool.and_eq_true, decide_eq_true_eq] at h
  rcases h with h | h
  · simp only [Fc.free, Bool.and_eq_true, beq_iff_eq] at h; omega
  · obtain ⟨h1, h2, h3, h4, h5, h6⟩ := h
    have := valid_at h3 hf
    exact ⟨h2, h3, this.1, this.2, by simpa using h5, eqP_iff.1 h6⟩

theorem Adj.lt {x : List Int} {n s t : Nat} (hc : chk n x = 0) (h : Adj x n s t) : t < n := by
  obtain ⟨hs, f, hf, hu⟩ := h
  have := (face_back hc hs hf (by omega)).1
  omega
theorem Adj.symm {x : List Int} {n s t : Nat} (hc : chk n x = 0) (h : Adj x n s t) : Adj x n t s := by
  have hlt := h.lt hc
  obtain ⟨hs, f, hf, hu⟩ := h
  obtain ⟨_, _, h3, h4, h5, _⟩ := face_back hc hs hf (by omega)
  rw [hu] at h5
  exact ⟨hlt, ((fc x s f).p.at f).toNat, by omega, by simpa using h5⟩
theorem Reach.symm {x : List Int} {n s t : Nat} (hc : chk n x = 0) (h : Reach (Adj x n) s t) : Reach (Adj x n) t s := by
  induction h with
  | refl => exact .refl _
  | tail _ e ih => exact (Reach.one (e.symm hc)).trans ih
theorem Reach.lt {x : List Int} {n s t : Nat} (hc : chk n x = 0) (h : Reach (Adj x n) s t) (hs : s < n) : t < n := by
  induction h with
  | refl => exact hs
  | tail _ e _ => exact e.lt hc

/-- A way of marking: which marks are none, and the mark of a tetrahedron at a face. -/
structure Mk where
  blank : Int → Bool
  w : Fc → Int → Int

/-- One face: its tetrahedron is marked, if it was not. -/
def gf (M : Mk) (c : Int) (s : List Int × List Int) (a : Fc) : List Int × List Int :=
  if ile 0 a.u = true ∧ M.blank (cel s.1 a.u.toNat) = true then (s.1.set a.u.toNat (M.w a c), s.2 ++ [a.u]) else s
/-- The first m faces of a tetrahedron. -/
def gt (M : Mk) (x : List Int) (s : List Int × List Int) (t : Nat) : Nat → List Int × List Int
  | 0 => s
  | m + 1 => gf M (cel (gt M x s t m).1 t) (gt M x s t m) (fc x t m)
/-- The first i tetrahedra of the list. -/
def gq (M : Mk) (x : List Int) (s : List Int × List Int) : Nat → List Int × List Int
  | 0 => s
  | i + 1 => if i < (gq M x s i).2.length then gt M x (gq M x s i) (cel (gq M x s i).2 i).toNat 4 else gq M x s i

structure BI (M : Mk) (x : List Int) (n : Nat) (P : Nat → Int → Prop) (o0 : List Int) (t0 : Nat) (i m : Nat) (s : List Int × List Int) : Prop where
  fst : 0 < s.2.length ∧ cel s.2 0 = (t0 : Int)
  len : s.1.length = n
  le : i ≤ s.2.length
  qin : ∀ j, j < s.2.length → 0 ≤ cel s.2 j ∧ cel s.2 j < n ∧ M.blank (cel o0 (cel s.2 j).toNat) = true ∧ M.blank (cel s.1 (cel s.2 j).toNat) = false ∧ P (cel s.2 j).toNat (cel s.1 (cel s.2 j).toNat)
  inj : ∀ j k, j < s.2.length → k < s.2.length → cel s.2 j = cel s.2 k → j = k
  lab : ∀ v, v < n → M.blank (cel o0 v) = true → M.blank (cel s.1 v) = false → ∃ j, j < s.2.length ∧ cel s.2 j = v
  blk : ∀ v, v < n → M.blank (cel s.1 v) = true → cel s.1 v = cel o0 v
  old : ∀ v, v < n → M.blank (cel o0 v) = false → cel s.1 v = cel o0 v
  done : ∀ j f, (j < i ∨ (j = i ∧ f < m)) → f < 4 → j < s.2.length → 0 ≤ (fc x (cel s.2 j).toNat f).u → M.blank (cel s.1 (fc x (cel s.2 j).toNat f).u.toNat) = false

section
variable {M : Mk} {x : List Int} {n : Nat} {P : Nat → Int → Prop} {o0 : List Int} {t0 i m : Nat} {s : List Int × List Int}

/-- What marks keep. -/
structure Keeps (M : Mk) (x : List Int) (n : Nat) (P : Nat → Int → Prop) : Prop where
  lt : ∀ t f, t < n → f < 4 → 0 ≤ (fc x t f).u → (fc x t f).u < n
  nb : ∀ t f c, t < n → f < 4 → 0 ≤ (fc x t f).u → P t c → M.blank c = false → M.blank (M.w (fc x t f) c) = false
  st : ∀ t f c, t < n → f < 4 → 0 ≤ (fc x t f).u → P t c → M.blank c = false → P (fc x t f).u.toNat (M.w (fc x t f) c)

theorem gf_keep {c : Int} {a : Fc} {v : Nat} (hu : 0 ≤ a.u → a.u.toNat < s.1.length) (hv : M.blank (cel s.1 v) = false) : cel (gf M c s a).1 v = cel s.1 v := by
  unfold gf
  split
  · rename_i h
    have h0 : 0 ≤ a.u := by have := h.1; rw [ile_eq] at this; simpa using this
    simp only
    rw [cel_set (hu h0)]
    split
    · rename_i e; rw [e, hv] at h; simp at h
    · rfl
  · rfl

theorem BI.face (K : Keeps M x n P) (h : BI M x n P o0 t0 i m s) (hi : i < s.2.length) (hm : m < 4) : BI M x n P o0 t0 i (m + 1) (gf M (cel s.1 (cel s.2 i).toNat) s (fc x (cel s.2 i).toNat m)) := by
  obtain ⟨q0, q1, q2, q3, q4⟩ := h.qin i hi
  have ht : (cel s.2 i).toNat < n := by omega
  generalize hcur : (cel s.2 i).toNat = t at *
  generalize hc : cel s.1 t = c at *
  have hult : 0 ≤ (fc x t m).u → (fc x t m).u < n := K.lt t m ht hm
  have hbl : 0 ≤ (fc x t m).u → M.blank (M.w (fc x t m) c) = false := fun h0 => K.nb t m c ht hm h0 q4 q3
  have hst : 0 ≤ (fc x t m).u → P (fc x t m).u.toNat (M.w (fc x t m) c) := fun h0 => K.st t m c ht hm h0 q4 q3
  generalize ha : fc x t m = a at *
  unfold gf
  split
  · rename_i hh
    have h0 : 0 ≤ a.u := by have := hh.1; rw [ile_eq] at this; simpa using this
    have hlt := hult h0
    have hl : a.u.toNat < s.1.length := by rw [h.len]; omega
    have hne : ∀ j, j < s.2.length → (cel s.2 j).toNat ≠ a.u.toNat := fun j hj e => by
      have := (h.qin j hj).2.2.2.1
      rw [e, hh.2] at this; cases this
    have ho0 : M.blank (cel o0 a.u.toNat) = true := by
      cases hb : M.blank (cel o0 a.u.toNat) with
      | true => rfl
      | false => have := h.old a.u.toNat (by omega) hb; rw [← this, hh.2] at hb; cases hb
    refine ⟨⟨by simp, by simp only [cel_snoc]; rw [if_neg (by have := h.fst.1; omega)]; exact h.fst.2⟩, by simp [h.len], by simp; have := h.le; omega, ?_, ?_, ?_, ?_, ?_, ?_⟩
    · intro j hj
      simp only [List.length_append, List.length_cons, List.length_nil] at hj
      simp only [cel_snoc]
      by_cases e : j = s.2.length
      · rw [if_pos e]
        refine ⟨h0, hlt, ho0, ?_, ?_⟩
        · rw [cel_set hl, if_pos rfl]; exact hbl h0
        · rw [cel_set hl, if_pos rfl]; exact hst h0
      · rw [if_neg e]
        obtain ⟨a1, a2, a3, a4, a5⟩ := h.qin j (by omega)
        refine ⟨a1, a2, a3, ?_, ?_⟩
        · rw [cel_set hl, if_neg (fun e => hne j (by omega) e.symm)]; exact a4
        · rw [cel_set hl, if_neg (fun e => hne j (by omega) e.symm)]; exact a5
    · intro j k hj hk
      simp only [List.length_append, List.length_cons, List.length_nil] at hj hk
      simp only [cel_snoc]
      by_cases e : j = s.2.length
      · by_cases e2 : k = s.2.length
        · intro _; omega
        · rw [if_pos e, if_neg e2]; intro h2; exact absurd (by rw [← h2]) (hne k (by omega))
      · by_cases e2 : k = s.2.length
        · rw [if_neg e, if_pos e2]; intro h2; exact absurd (by rw [h2]) (hne j (by omega))
        · rw [if_neg e, if_neg e2]; exact h.inj j k (by omega) (by omega)
    · intro v hv hb hb2
      simp only [List.length_append, List.length_cons, List.length_nil, cel_snoc]
      by_cases e : a.u.toNat = v
      · exact ⟨s.2.length, by omega, by rw [if_pos rfl]; omega⟩
      · rw [cel_set hl, if_neg e] at hb2
        obtain ⟨j, hj, hj2⟩ := h.lab v hv hb hb2
        exact ⟨j, by omega, by rw [if_neg (by omega)]; exact hj2⟩
    · intro v hv hb
      rw [cel_set hl] at hb ⊢
      split at hb
      · rw [hbl h0] at hb; cases hb
      · rename_i e; rw [if_neg e]; exact h.blk v hv hb
    · intro v hv hb
      rw [cel_set hl, if_neg (fun e => by rw [← e, ho0] at hb; cases hb)]
      exact h.old v hv hb
    · intro j f hjf hf hj h2
      simp only [List.length_append, List.length_cons, List.length_nil] at hj
      simp only [cel_snoc] at h2 ⊢
      have hj' : j < s.2.length := by omega
      rw [if_neg (by omega)] at h2 ⊢
      rw [cel_set hl]
      split
      · exact hbl h0
      · rename_i e
        rcases hjf with hjf | ⟨rfl, hfm⟩
        · exact h.done j f (.inl hjf) hf hj' h2
        · by_cases hfe : f = m
          · subst hfe; rw [hcur, ha] at e; exact absurd rfl e
          · exact h.done j f (.inr ⟨rfl, by omega⟩) hf hj' h2
  · rename_i hh
    refine ⟨h.fst, h.len, h.le, h.qin, h.inj, h.lab, h.blk, h.old, ?_⟩
    intro j f hjf hf hj h2
    rcases hjf with hjf | ⟨rfl, hfm⟩
    · exact h.done j f (.inl hjf) hf hj h2
    · by_cases hfe : f = m
      · subst hfe
        rw [hcur, ha] at h2 ⊢
        cases hb : M.blank (cel s.1 a.u.toNat) with
        | false => rfl
        | true => exact absurd ⟨by rw [ile_eq]; simpa using h2, hb⟩ hh
      · exact h.done j f (.inr ⟨rfl, by omega⟩) hf hj h2

/-- The list behind a face begins as it was. -/
theorem gf_q (c : Int) (a : Fc) {j : Nat} (hj : j < s.2.length) : cel (gf M c s a).2 j = cel s.2 j ∧ s.2.length ≤ (gf M c s a).2.length := by
  unfold gf
  split
  · simp only [cel_snoc, List.length_append, List.length_cons, List.length_nil]; rw [if_neg (by omega)]; exact ⟨rfl, by omega⟩
  · exact ⟨rfl, Nat.le_refl _⟩

theorem BI.tet (K : Keeps M x n P) (h : BI M x n P o0 t0 i 0 s) (hi : i < s.2.length) : ∀ m, m ≤ 4 → BI M x n P o0 t0 i m (gt M x s (cel s.2 i).toNat m) ∧ cel (gt M x s (cel s.2 i).toNat m).2 i = cel s.2 i ∧ s.2.length ≤ (gt M x s (cel s.2 i).toNat m).2.length := by
  intro m
  induction m with
  | zero => intro _; exact ⟨h, rfl, Nat.le_refl _⟩
  | succ m ih =>
    intro hm
    obtain ⟨h1, h2, h3⟩ := ih (by omega)
    have hf := h1.face K (by omega) (show m < 4 by omega)
    rw [h2] at hf
    have hq := gf_q (M := M) (s := gt M x s (cel s.2 i).toNat m) (cel (gt M x s (cel s.2 i).toNat m).1 (cel s.2 i).toNat) (fc x (cel s.2 i).toNat m) (j := i) (by omega)
    exact ⟨hf, by simp only [gt]; rw [hq.1]; exact h2, by simp only [gt]; omega⟩

theorem BI.next (h : BI M x n P o0 t0 i 4 s) (hi : i < s.2.length) : BI M x n P o0 t0 (i + 1) 0 s :=
  ⟨h.fst, h.len, hi, h.qin, h.inj, h.lab, h.blk, h.old, fun j f hjf hf hj h2 => h.done j f (by omega) hf hj h2⟩

theorem BI.start (hl : o0.length = n) {c : Int} (ht : t0 < n) (hb : M.blank (cel o0 t0) = true) (hc : M.blank c = false) (hP : P t0 c) : BI M x n P o0 t0 0 0 (o0.set t0 c, [(t0 : Int)]) := by
  have hs : ∀ j, cel (o0.set t0 c) j = if t0 = j then c else cel o0 j := cel_set (by omega)
  have hq : cel [(t0 : Int)] 0 = t0 := rfl
  refine ⟨⟨by simp, hq⟩, by simp [hl], Nat.zero_le _, ?_, ?_, ?_, ?_, ?_, ?_⟩
  · intro j hj
    have : j = 0 := by simpa using hj
    subst this
    simp only [hq, Int.toNat_natCast, hs, if_true]
    exact ⟨by omega, by omega, hb, hc, hP⟩
  · intro j k hj hk _
    have : j = 0 := by simpa using hj
    have : k = 0 := by simpa using hk
    omega
  · intro v hv h1 h2
    simp only [hs] at h2
    split at h2
    · rename_i e; exact ⟨0, by simp, by simp only [hq]; omega⟩
    · rw [h1] at h2; cases h2
  · intro v hv h1
    simp only [hs] at h1 ⊢
    split at h1
    · rw [hc] at h1; cases h1
    · rename_i e; rw [if_neg e]
  · intro v hv h1
    simp only [hs]
    rw [if_neg (fun e => by rw [← e, hb] at h1; cases h1)]
  · intro j f hjf; omega

/-- As many places as one can tell apart. -/
theorem pigeon : ∀ (n : Nat) (q : List Int), (∀ j, j < q.length → 0 ≤ cel q j ∧ cel q j < n) → (∀ j k, j < q.length → k < q.length → cel q j = cel q k → j = k) → q.length ≤ n := by
  intro n q h1 h2
  have hnd : q.Nodup := by
    refine List.pairwise_iff_getElem.2 fun j k hj hk hjk he => ?_
    have : cel q j = cel q k := by simp only [cel, List.getD_eq_getElem?_getD, List.getElem?_eq_getElem hj, List.getElem?_eq_getElem hk, he]
    have := h2 j k hj hk this
    omega
  have hmem : ∀ v ∈ q, 0 ≤ v ∧ v < n := by
    intro v hv
    obtain ⟨j, hj, rfl⟩ := List.getElem_of_mem hv
    have := h1 j hj
    simpa [cel, List.getD_eq_getElem?_getD, List.getElem?_eq_getElem hj] using this
  clear h1 h2
  induction n generalizing q with
  | zero =>
    cases q with
    | nil => simp
    | cons a l => have := hmem a (List.mem_cons_self ..); omega
  | succ n ih =>
    by_cases hn : (n : Int) ∈ q
    · have h3 := ih (q.erase (n : Int)) (hnd.erase _) (fun v hv => by
        have h4 := (hnd.mem_erase_iff).1 hv
        have := hmem v h4.2
        have := h4.1
        omega)
      rw [List.length_erase_of_mem hn] at h3
      omega
    · have := ih q hnd (fun v hv => by
        have := hmem v hv
        have : v ≠ n := fun e => hn (e ▸ hv)
        omega)
      omega

theorem BI.short (h : BI M x n P o0 t0 i m s) : s.2.length ≤ n := pigeon n s.2 (fun j hj => ⟨(h.qin j hj).1, (h.qin j hj).2.1⟩) h.inj

/-- All of it: i tetrahedra, as long as there are some. -/
theorem BI.run (K : Keeps M x n P) (h : BI M x n P o0 t0 0 0 s) : ∀ i, (∃ j, j ≤ i ∧ BI M x n P o0 t0 j 0 (gq M x s i) ∧ (j = i ∨ (gq M x s i).2.length ≤ j)) := by
  intro i
  induction i with
  | zero => exact ⟨0, Nat.le_refl _, h, .inl rfl⟩
  | succ i ih =>
    obtain ⟨j, hj, hb, hd⟩ := ih
    simp only [gq]
    by_cases hi : i < (gq M x s i).2.length
    · rw [if_pos hi]
      have hji : j = i := by omega
      subst hji
      obtain ⟨h1, h2, h3⟩ := hb.tet K hi 4 (by omega)
      exact ⟨j + 1, by omega, h1.next (by omega), .inl rfl⟩
    · rw [if_neg hi]
      exact ⟨j, by omega, hb, .inr (by have := hb.le; omega)⟩

theorem BI.fin (K : Keeps M x n P) (h : BI M x n P o0 t0 0 0 s) : BI M x n P o0 t0 (gq M x s n).2.length 0 (gq M x s n) := by
  obtain ⟨j, hj, hb, hd⟩ := h.run K n
  have := hb.le
  have := hb.short
  have : j = (gq M x s n).2.length := by omega
  rwa [this] at hb
end

/-- The marks behind a whole search from t0 on. -/
def srch (M : Mk) (x : List Int) (n : Nat) (o0 : List Int) (t0 : Nat) (c : Int) : List Int := (gq M x (o0.set t0 c, [(t0 : Int)]) n).1

/-- Marked tetrahedra are closed: their neighbours are marked. -/
def Closed (M : Mk) (x : List Int) (n : Nat) (o : List Int) : Prop := ∀ s t, s < n → M.blank (cel o s) = false → Adj x n s t → M.blank (cel o t) = false

/-- What a search finds: just what can be reached. -/
theorem srch_spec {M : Mk} {x : List Int} {n : Nat} {o0 : List Int} {t0 : Nat} {c : Int} {P : Nat → Int → Prop} (hc0 : chk n x = 0) (K : Keeps M x n P) (hl : o0.length = n) (ht : t0 < n) (hb : M.blank (cel o0 t0) = true) (hc : M.blank c = false) (hP : P t0 c) (hcl : Closed M x n o0) :
    (srch M x n o0 t0 c).length = n ∧ (∀ v, v < n → M.blank (cel o0 v) = false → cel (srch M x n o0 t0 c) v = cel o0 v) ∧
    (∀ v, v < n → M.blank (cel o0 v) = true → M.blank (cel (srch M x n o0 t0 c) v) = false → P v (cel (srch M x n o0 t0 c) v)) ∧
    (∀ v, v < n → M.blank (cel (srch M x n o0 t0 c) v) = true → cel (srch M x n o0 t0 c) v = cel o0 v) ∧
    (∀ v, Reach (Adj x n) t0 v → M.blank (cel o0 v) = true ∧ M.blank (cel (srch M x n o0 t0 c) v) = false) ∧ Closed M x n (srch M x n o0 t0 c) := by
  have h := (BI.start (x := x) hl ht hb hc hP).fin K
  unfold srch
  generalize (gq M x (o0.set t0 c, [(t0 : Int)]) n) = s at h
  have hcl2 : Closed M x n s.1 := by
    intro v u hv hm hvu
    cases hb0 : M.blank (cel o0 v) with
    | false =>
      have := hcl v u hv hb0 hvu
      rw [h.old u (hvu.lt hc0) this]; exact this
    | true =>
      obtain ⟨j, hj, hj2⟩ := h.lab v hv hb0 hm
      obtain ⟨_, f, hf, hu⟩ := hvu
      have := h.done j f (.inl hj) hf hj (by rw [hj2, Int.toNat_natCast, hu]; omega)
      rwa [hj2, Int.toNat_natCast, hu, Int.toNat_natCast] at this
  have h0 : M.blank (cel s.1 t0) = false := by
    have := (h.qin 0 h.fst.1).2.2.2.1
    rwa [h.fst.2, Int.toNat_natCast] at this
  refine ⟨h.len, h.old, ?_, h.blk, ?_, hcl2⟩
  · intro v hv h1 h2
    obtain ⟨j, hj, hj2⟩ := h.lab v hv h1 h2
    have := (h.qin j hj).2.2.2.2
    rwa [hj2, Int.toNat_natCast] at this
  · intro v hr
    induction hr with
    | refl => exact ⟨hb, h0⟩
    | tail r e ih =>
      rename_i v u
      refine ⟨?_, hcl2 v u e.1 ih.2 e⟩
      cases hbu : M.blank (cel o0 u) with
      | true => rfl
      | false => have := hcl u v (e.lt hc0) hbu (e.symm hc0); rw [ih.1] at this; cases this
end Go.Ab

namespace Go.Ab

/-- Marks of parts. -/
def mP (k : Int) : Mk := ⟨fun v => ilt v 0, fun _ _ => k⟩
/-- The parts of the first t tetrahedra, and how many. -/
def pst (x : List Int) (n : Nat) : Nat → List Int × Nat
  | 0 => (List.replicate n (-1), 0)
  | t + 1 => if ilt (cel (pst x n t).1 t) 0 = true then (srch (mP (pst x n t).2) x n (pst x n t).1 t (pst x n t).2, (pst x n t).2 + 1) else pst x n t

theorem cel_rep (n v : Nat) (c : Int) (hv : v < n) : cel (List.replicate n c) v = c := by
  simp [cel, List.getD_eq_getElem?_getD, List.getElem?_replicate, hv]

structure PI (x : List Int) (n t : Nat) (s : List Int × Nat) : Prop where
  len : s.1.length = n
  rng : ∀ v, v < n → cel s.1 v = -1 ∨ (0 ≤ cel s.1 v ∧ cel s.1 v < s.2)
  done : ∀ v, v < t → 0 ≤ cel s.1 v
  same : ∀ v w, v < n → w < n → 0 ≤ cel s.1 v → (cel s.1 v = cel s.1 w ↔ Reach (Adj x n) v w)
  rep : ∃ r : Nat → Nat, ∀ c, c < s.2 → r c < t ∧ cel s.1 (r c) = c ∧ (∀ v, v < n → cel s.1 v = c → r c ≤ v) ∧ ∀ d, c < d → d < s.2 → r c < r d

theorem ilt_neg {v : Int} : ilt v 0 = true ↔ v < 0 := by rw [ilt_eq]; simp
theorem ilt_nonneg {v : Int} : ilt v 0 = false ↔ 0 ≤ v := by rw [ilt_eq]; simp

theorem PI.step {x : List Int} {n t : Nat} (hc : chk n x = 0) (ht : t < n) (h : PI x n t (pst x n t)) : PI x n (t + 1) (pst x n (t + 1)) := by
  simp only [pst]
  generalize pst x n t = s at h
  obtain ⟨o, k⟩ := s
  obtain ⟨len, rng, done, same, r, hr⟩ := h
  simp only at len rng done same hr
  cases hb : ilt (cel o t) 0 with
  | false =>
    rw [if_neg (by simp)]
    refine ⟨len, rng, fun v hv => ?_, same, r, fun c hcc => ?_⟩
    · by_cases e : v = t
      · subst e; exact ilt_nonneg.1 hb
      · exact done v (by omega)
    · obtain ⟨h1, h2, h3, h4⟩ := hr c hcc
      exact ⟨by omega, h2, h3, h4⟩
  | true =>
    rw [if_pos rfl]
    have hcl : Closed (mP k) x n o := by
      intro v u hv hm hvu
      have h0 : 0 ≤ cel o v := ilt_nonneg.1 hm
      have := (same v u hv (hvu.lt hc) h0).2 (.one hvu)
      exact ilt_nonneg.2 (by omega)
    have K : Keeps (mP k) x n (fun v c => c = k ∧ Reach (Adj x n) t v) := by
      refine ⟨fun v f hv hf h0 => (face_back hc hv hf h0).1, fun v f c hv hf h0 _ _ => (show ilt (k : Int) 0 = false from ilt_nonneg.2 (by omega)), fun v f c hv hf h0 hp _ => ⟨rfl, .tail hp.2 ⟨hv, f, hf, by omega⟩⟩⟩
    obtain ⟨a1, a2, a3, a4, a5, a6⟩ := srch_spec (M := mP k) (c := (k : Int)) hc K len ht hb (show ilt (k : Int) 0 = false from ilt_nonneg.2 (by omega)) ⟨rfl, .refl _⟩ hcl
    generalize srch (mP k) x n o t k = o1 at *
    have new : ∀ v, v < n → ilt (cel o v) 0 = true → 0 ≤ cel o1 v → cel o1 v = k ∧ Reach (Adj x n) t v := fun v hv h1 h2 => a3 v hv h1 (ilt_nonneg.2 h2)
    have cs : ∀ v, v < n → (0 ≤ cel o v ∧ cel o1 v = cel o v) ∨ (cel o v < 0 ∧ cel o1 v = k ∧ Reach (Adj x n) t v) ∨ (cel o v < 0 ∧ cel o1 v = -1 ∧ ¬ Reach (Adj x n) t v) := by
      intro v hv
      cases h1 : ilt (cel o v) 0 with
      | false => exact .inl ⟨ilt_nonneg.1 h1, a2 v hv h1⟩
      | true =>
        have h1' := ilt_neg.1 h1
        cases h2 : ilt (cel o1 v) 0 with
        | false => exact .inr (.inl ⟨h1', new v hv h1 (ilt_nonneg.1 h2)⟩)
        | true =>
          refine .inr (.inr ⟨h1', ?_, fun hr => ?_⟩)
          · have := a4 v hv h2
            have := rng v hv
            omega
          · have h3 : ilt (cel o1 v) 0 = false := (a5 v hr).2
            rw [h2] at h3; cases h3
    refine ⟨a1, ?_, ?_, ?_, fun c => if c = k then t else r c, ?_⟩
    · intro v hv
      have := rng v hv
      rcases cs v hv with h1 | h1 | h1 <;> simp only <;> omega
    · intro v hv
      by_cases e : v = t
      · subst e
        have h3 : ilt (cel o1 v) 0 = false := (a5 v (.refl _)).2
        exact ilt_nonneg.1 h3
      · have h0 := done v (by omega)
        rcases cs v (by omega) with h1 | h1 | h1 <;> simp only <;> omega
    · intro v w hv hw h0
      simp only at h0
      rcases cs v hv with ⟨v1, v2⟩ | ⟨v1, v2, v3⟩ | ⟨v1, v2, v3⟩
      · rcases cs w hw with ⟨w1, w2⟩ | ⟨w1, w2, w3⟩ | ⟨w1, w2, w3⟩
        · simp only; rw [v2, w2]; exact same v w hv hw v1
        · have hv2 := rng v hv
          refine ⟨fun e => ?_, fun hr => ?_⟩
          · simp only at e; omega
          · have := (same v w hv hw v1).2 hr; omega
        · refine ⟨fun e => ?_, fun hr => ?_⟩
          · simp only at e; omega
          · have := (same v w hv hw v1).2 hr; omega
      · rcases cs w hw with ⟨w1, w2⟩ | ⟨w1, w2, w3⟩ | ⟨w1, w2, w3⟩
        · have hw2 := rng w hw
          refine ⟨fun e => ?_, fun hr => ?_⟩
          · simp only at e; omega
          · have := (same w v hw hv w1).2 (hr.symm hc); omega
        · exact ⟨fun _ => (v3.symm hc).trans w3, fun _ => by simp only; omega⟩
        · refine ⟨fun e => ?_, fun hr => absurd (v3.trans hr) w3⟩
          simp only at e; omega
      · omega
    · intro c hcc
      simp only at hcc
      have htk : cel o1 t = k := (new t ht hb (ilt_nonneg.1 (a5 t (.refl _)).2)).1
      by_cases e : c = k
      · subst e
        simp only [if_true]
        refine ⟨by omega, htk, fun v hv h1 => ?_, fun d h1 h2 => by omega⟩
        rcases Nat.lt_or_ge v t with h2 | h2
        · have h0 := done v h2
          have := rng v hv
          rcases cs v hv with h3 | h3 | h3 <;> omega
        · exact h2
      · simp only [if_neg e]
        obtain ⟨h1, h2, h3, h4⟩ := hr c (by omega)
        refine ⟨by omega, ?_, fun v hv h5 => ?_, fun d h5 h6 => ?_⟩
        · rcases cs (r c) (by omega) with h5 | h5 | h5 <;> omega
        · rcases cs v hv with h6 | h6 | h6
          · exact h3 v hv (by omega)
          · omega
          · omega
        · split
          · exact h1
          · exact h4 d h5 (by omega)

theorem parts_spec {x : List Int} {n : Nat} (hc : chk n x = 0) : ∀ t, t ≤ n → PI x n t (pst x n t) := by
  intro t
  induction t with
  | zero =>
    intro _
    refine ⟨by simp [pst], fun v hv => .inl (by simp only [pst]; exact cel_rep n v _ hv), fun v hv => by omega, fun v w hv hw h0 => ?_, fun _ => 0, fun c hcc => ?_⟩
    · simp only [pst] at h0; rw [cel_rep n v _ hv] at h0; omega
    · simp only [pst] at hcc; omega
  | succ t ih => intro ht; exact (ih (by omega)).step hc (by omega)

def partsL (x : List Int) (n : Nat) : List Int := (pst x n n).1
def partsN (x : List Int) (n : Nat) : Nat := (pst x n n).2

theorem cnt_foldl (l : List Int) : ∀ a : Int, a ≤ l.foldl (fun a v => if v + 1 > a then v + 1 else a) a ∧ (∀ v ∈ l, v + 1 ≤ l.foldl (fun a v => if v + 1 > a then v + 1 else a) a) ∧
    (l.foldl (fun a v => if v + 1 > a then v + 1 else a) a = a ∨ ∃ v ∈ l, l.foldl (fun a v => if v + 1 > a then v + 1 else a) a = v + 1) := by
  induction l with
  | nil => intro a; simp
  | cons b q ih =>
    intro a
    simp only [List.foldl_cons]
    by_cases hb : b + 1 > a
    · rw [if_pos hb]
      obtain ⟨h1, h2, h3⟩ := ih (b + 1)
      refine ⟨by omega, fun v hv => ?_, ?_⟩
      · rcases List.mem_cons.1 hv with rfl | hv
        · exact h1
        · exact h2 v hv
      · rcases h3 with h3 | ⟨v, hv, h3⟩
        · exact .inr ⟨b, List.mem_cons_self .., h3⟩
        · exact .inr ⟨v, List.mem_cons_of_mem _ hv, h3⟩
    · rw [if_neg hb]
      obtain ⟨h1, h2, h3⟩ := ih a
      refine ⟨h1, fun v hv => ?_, ?_⟩
      · rcases List.mem_cons.1 hv with rfl | hv
        · omega
        · exact h2 v hv
      · rcases h3 with h3 | ⟨v, hv, h3⟩
        · exact .inl h3
        · exact .inr ⟨v, List.mem_cons_of_mem _ hv, h3⟩

/-- An orientation. -/
def IsOri (x : List Int) (n : Nat) (w : Nat → Int) : Prop := (∀ v, v < n → w v = 1 ∨ w v = -1) ∧ ∀ t f, t < n → f < 4 → 0 ≤ (fc x t f).u → w (fc x t f).u.toNat = -(signP (fc x t f).p) * w t
def Orientable (x : List Int) (n : Nat) : Prop := ∃ w, IsOri x n w

theorem signP_one (p : Pm) : signP p = 1 ∨ signP p = -1 := by
  have h : ∀ x y : Int, sg x y = 1 ∨ sg x y = -1 := fun x y => by unfold sg; split <;> simp
  unfold signP
  rcases h p.a p.b with h1 | h1 <;> rcases h p.a p.c with h2 | h2 <;> rcases h p.b p.c with h3 | h3 <;> rcases h p.a p.d with h4 | h4 <;> rcases h p.b p.d with h5 | h5 <;> rcases h p.c p.d with h6 | h6 <;> rw [h1, h2, h3, h4, h5, h6] <;> simp

/-- Marks of an orientation. -/
def mO : Mk := ⟨fun v => v == 0, fun a c => -(signP a.p) * c⟩
def okf (x : List Int) (s : List Int × List Int) (t m : Nat) : Bool := ilt (fc x t m).u 0 || (cel (gt mO x s t (m + 1)).1 (fc x t m).u.toNat == mO.w (fc x t m) (cel (gt mO x s t m).1 t))
def okT (x : List Int) (s : List Int × List Int) (t : Nat) : Nat → Bool
  | 0 => true
  | m + 1 => okT x s t m && okf x s t m
def okQ (x : List Int) (s : List Int × List Int) : Nat → Bool
  | 0 => true
  | i + 1 => okQ x s i && (!decide (i < (gq mO x s i).2.length) || okT x (gq mO x s i) (cel (gq mO x s i).2 i).toNat 4)
def ost (x : List Int) (n : Nat) : Nat → List Int × Bool
  | 0 => (List.replicate n 0, true)
  | t + 1 => if (ost x n t).2 = true ∧ cel (ost x n t).1 t = 0 then (srch mO x n (ost x n t).1 t 1, okQ x ((ost x n t).1.set t 1, [(t : Int)]) n) else ost x n t

/-- The faces met are consistent. -/
def Con (x : List Int) (i m : Nat) (s : List Int × List Int) : Prop := ∀ j f, (j < i ∨ (j = i ∧ f < m)) → f < 4 → j < s.2.length → 0 ≤ (fc x (cel s.2 j).toNat f).u →
  cel s.1 (fc x (cel s.2 j).toNat f).u.toNat = mO.w (fc x (cel s.2 j).toNat f) (cel s.1 (cel s.2 j).toNat)

section
variable {x : List Int} {n : Nat} {P : Nat → Int → Prop} {o0 : List Int} {t0 i m : Nat} {s : List Int × List Int}

theorem Con.face (K : Keeps mO x n P) (h : BI mO x n P o0 t0 i m s) (hi : i < s.2.length) (hm : m < 4) (hc : Con x i m s)
    (ho : 0 ≤ (fc x (cel s.2 i).toNat m).u → cel (gf mO (cel s.1 (cel s.2 i).toNat) s (fc x (cel s.2 i).toNat m)).1 (fc x (cel s.2 i).toNat m).u.toNat = mO.w (fc x (cel s.2 i).toNat m) (cel s.1 (cel s.2 i).toNat)) :
    Con x i (m + 1) (gf mO (cel s.1 (cel s.2 i).toNat) s (fc x (cel s.2 i).toNat m)) := by
  have qi := h.qin i hi
  have hb := h.face K hi hm
  have hu : 0 ≤ (fc x (cel s.2 i).toNat m).u → (fc x (cel s.2 i).toNat m).u.toNat < s.1.length := fun h0 => by
    have := K.lt (cel s.2 i).toNat m (by omega) hm h0
    rw [h.len]; omega
  have keep : ∀ v, mO.blank (cel s.1 v) = false → cel (gf mO (cel s.1 (cel s.2 i).toNat) s (fc x (cel s.2 i).toNat m)).1 v = cel s.1 v := fun v hv => gf_keep hu hv
  have hq : ∀ j, j < s.2.length → cel (gf mO (cel s.1 (cel s.2 i).toNat) s (fc x (cel s.2 i).toNat m)).2 j = cel s.2 j := fun j hj => (gf_q _ _ hj).1
  intro j f hjf hf hj h2
  have hji : j ≤ i := by omega
  rw [hq j (by omega)] at h2 ⊢
  rw [keep _ (h.qin j (by omega)).2.2.2.1]
  by_cases e : j = i ∧ f = m
  · obtain ⟨rfl, rfl⟩ := e; exact ho h2
  · have hd := h.done j f (by omega) hf (by omega) h2
    rw [keep _ hd]
    exact hc j f (by omega) hf (by omega) h2

theorem Con.tet (K : Keeps mO x n P) (h : BI mO x n P o0 t0 i 0 s) (hi : i < s.2.length) (hc : Con x i 0 s) : ∀ m, m ≤ 4 → okT x s (cel s.2 i).toNat m = true → Con x i m (gt mO x s (cel s.2 i).toNat m) := by
  intro m
  induction m with
  | zero => intro _ _; exact hc
  | succ m ih =>
    intro hm hok
    simp only [okT, Bool.and_eq_true] at hok
    have h1 := ih (by omega) hok.1
    obtain ⟨b1, b2, b3⟩ := h.tet K hi m (by omega)
    have := Con.face K b1 (by omega) (by omega) h1
    rw [b2] at this
    refine this fun h0 => ?_
    have h3 := hok.2
    simp only [okf, Bool.or_eq_true, beq_iff_eq] at h3
    rcases h3 with h3 | h3
    · have := ilt_neg.1 h3; omega
    · exact h3

theorem Con.run (K : Keeps mO x n P) (h : BI mO x n P o0 t0 0 0 s) : ∀ i, okQ x s i = true → ∃ j, j ≤ i ∧ BI mO x n P o0 t0 j 0 (gq mO x s i) ∧ (j = i ∨ (gq mO x s i).2.length ≤ j) ∧ Con x j 0 (gq mO x s i) := by
  intro i
  induction i with
  | zero => intro _; exact ⟨0, Nat.le_refl _, h, .inl rfl, fun j f hjf => by omega⟩
  | succ i ih =>
    intro hok
    simp only [okQ, Bool.and_eq_true] at hok
    obtain ⟨j, hj, hb, hd, hcon⟩ := ih hok.1
    simp only [gq]
    by_cases hi : i < (gq mO x s i).2.length
    · rw [if_pos hi]
      have hji : j = i := by omega
      subst hji
      obtain ⟨h1, h2, h3⟩ := hb.tet K hi 4 (by omega)
      have h4 := hok.2
      simp only [hi, decide_true, Bool.not_true, Bool.false_or] at h4
      have h5 := Con.tet K hb hi hcon 4 (by omega) h4
      exact ⟨j + 1, by omega, h1.next (by omega), .inl rfl, fun a f haf hf ha h6 => h5 a f (by omega) hf ha h6⟩
    · rw [if_neg hi]
      exact ⟨j, by omega, hb, .inr (by have := hb.le; omega), hcon⟩

/-- At a gluing with an orientation all faces are consistent. -/
theorem ok_face {w : Nat → Int} (hc : chk n x = 0) (hw : IsOri x n w) (hcl : Closed mO x n o0) (hP : ∀ v c, v < n → P v c → c = w v * w t0) (h : BI mO x n P o0 t0 i m s) (hi : i < s.2.length) (hm : m < 4) (h0 : 0 ≤ (fc x (cel s.2 i).toNat m).u) :
    cel (gf mO (cel s.1 (cel s.2 i).toNat) s (fc x (cel s.2 i).toNat m)).1 (fc x (cel s.2 i).toNat m).u.toNat = mO.w (fc x (cel s.2 i).toNat m) (cel s.1 (cel s.2 i).toNat) := by
  obtain ⟨q0, q1, q2, q3, q4⟩ := h.qin i hi
  have hlt := (face_back hc (show (cel s.2 i).toNat < n by omega) hm h0).1
  have hadj : Adj x n (cel s.2 i).toNat (fc x (cel s.2 i).toNat m).u.toNat := ⟨by omega, m, hm, by omega⟩
  have hor := hw.2 (cel s.2 i).toNat m (by omega) hm h0
  have htn : (cel s.2 i).toNat < n := by omega
  generalize (cel s.2 i).toNat = t at *
  generalize fc x t m = a at *
  have hl : a.u.toNat < s.1.length := by rw [h.len]; omega
  unfold gf
  split
  · rename_i hh; simp only; rw [cel_set hl, if_pos rfl]
  · rename_i hh
    have hnb : mO.blank (cel s.1 a.u.toNat) = false := by
      cases hb : mO.blank (cel s.1 a.u.toNat) with
      | false => rfl
      | true => exact absurd ⟨by rw [ile_eq]; simpa using h0, hb⟩ hh
    cases hb0 : mO.blank (cel o0 a.u.toNat) with
    | false => have := hcl _ _ (by omega) hb0 (hadj.symm hc); rw [q2] at this; cases this
    | true =>
      obtain ⟨j, hj, hj2⟩ := h.lab _ (by omega) hb0 hnb
      have h5 := (h.qin j hj).2.2.2.2
      rw [hj2, Int.toNat_natCast] at h5
      have e1 := hP _ _ (by omega) h5
      have e2 := hP _ _ (by omega) q4
      rw [e1, e2, hor]
      simp only [mO, Int.mul_assoc]

theorem ok_tet {w : Nat → Int} (K : Keeps mO x n P) (hc : chk n x = 0) (hw : IsOri x n w) (hcl : Closed mO x n o0) (hP : ∀ v c, v < n → P v c → c = w v * w t0) (h : BI mO x n P o0 t0 i 0 s) (hi : i < s.2.length) : ∀ m, m ≤ 4 → okT x s (cel s.2 i).toNat m = true := by
  intro m
  induction m with
  | zero => intro _; rfl
  | succ m ih =>
    intro hm
    simp only [okT, ih (by omega), Bool.true_and, okf, Bool.or_eq_true, beq_iff_eq]
    obtain ⟨b1, b2, b3⟩ := h.tet K hi m (by omega)
    have := ok_face hc hw hcl hP b1 (by omega) (show m < 4 by omega)
    rw [b2] at this
    by_cases h0 : 0 ≤ (fc x (cel s.2 i).toNat m).u
    · exact .inr (this h0)
    · exact .inl (ilt_neg.2 (by omega))

theorem ok_run {w : Nat → Int} (K : Keeps mO x n P) (hc : chk n x = 0) (hw : IsOri x n w) (hcl : Closed mO x n o0) (hP : ∀ v c, v < n → P v c → c = w v * w t0) (h : BI mO x n P o0 t0 0 0 s) : ∀ i, okQ x s i = true := by
  intro i
  induction i with
  | zero => rfl
  | succ i ih =>
    simp only [okQ, ih, Bool.true_and, Bool.or_eq_true, Bool.not_eq_true', decide_eq_false_iff_not]
    by_cases hi : i < (gq mO x s i).2.length
    · right
      obtain ⟨j, hj, hb, hd⟩ := h.run K i
      have hji : j = i := by omega
      subst hji
      exact ok_tet K hc hw hcl hP hb hi 4 (by omega)
    · exact .inl hi
end

structure OI (x : List Int) (n t : Nat) (s : List Int × Bool) : Prop where
  len : s.1.length = n
  rng : ∀ v, v < n → cel s.1 v = 0 ∨ cel s.1 v = 1 ∨ cel s.1 v = -1
  cl : Closed mO x n s.1
  good : s.2 = true → (∀ v, v < t → cel s.1 v ≠ 0) ∧ ∀ v f, v < n → cel s.1 v ≠ 0 → f < 4 → 0 ≤ (fc x v f).u → cel s.1 (fc x v f).u.toNat = -(signP (fc x v f).p) * cel s.1 v
  bad : s.2 = false → ¬ Orientable x n

theorem bO {c : Int} : mO.blank c = false ↔ c ≠ 0 := by simp [mO]
theorem bO' {c : Int} : mO.blank c = true ↔ c = 0 := by simp [mO]

theorem mul_one (c d : Int) (h1 : c = 1 ∨ c = -1) (h2 : d = 1 ∨ d = -1) : -c * d = 1 ∨ -c * d = -1 := by
  rcases h1 with rfl | rfl <;> rcases h2 with rfl | rfl <;> simp

theorem keepsO {x : List Int} {n : Nat} (hc : chk n x = 0) : Keeps mO x n (fun _ c => c = 1 ∨ c = -1) := by
  refine ⟨fun v f hv hf h0 => (face_back hc hv hf h0).1, fun v f c hv hf h0 hp _ => bO.2 ?_, fun v f c hv hf h0 hp _ => mul_one _ _ (signP_one _) hp⟩
  have := mul_one (signP (fc x v f).p) c (signP_one _) hp
  simp only [mO]
  omega

theorem OI.step {x : List Int} {n t : Nat} (hc : chk n x = 0) (ht : t < n) (h : OI x n t (ost x n t)) : OI x n (t + 1) (ost x n (t + 1)) := by
  simp only [ost]
  generalize ost x n t = s at h
  obtain ⟨o, r⟩ := s
  obtain ⟨len, rng, cl, good, bad⟩ := h
  simp only at len rng cl good bad
  by_cases hh : r = true ∧ cel o t = 0
  · rw [if_pos hh]
    obtain ⟨rfl, hb⟩ := hh
    have K := keepsO hc
    obtain ⟨a1, a2, a3, a4, a5, a6⟩ := srch_spec (M := mO) (c := 1) hc K len ht (bO'.2 hb) (by simp [mO]) (.inl rfl) cl
    have hst := BI.start (M := mO) (x := x) (P := fun _ c => c = 1 ∨ c = -1) len (c := 1) ht (bO'.2 hb) (by simp [mO]) (.inl rfl)
    refine ⟨a1, ?_, a6, ?_, ?_⟩
    · intro v hv
      simp only
      cases hb1 : mO.blank (cel (srch mO x n o t 1) v) with
      | true => exact .inl (bO'.1 hb1)
      | false =>
        cases hb2 : mO.blank (cel o v) with
        | false => rw [a2 v hv hb2]; exact rng v hv
        | true => exact .inr (a3 v hv hb2 hb1)
    · intro hok
      simp only at hok
      obtain ⟨g1, g2⟩ := good rfl
      obtain ⟨j, hj, hbi, hd, hcon⟩ := Con.run K hst n hok
      refine ⟨fun v hv => ?_, fun v f hv hv0 hf h0 => ?_⟩
      · by_cases e : v = t
        · subst e; exact bO.1 (a5 v (.refl _)).2
        · have := g1 v (by omega)
          rw [a2 v (by omega) (bO.2 this)]; exact this
      · simp only at hv0 ⊢
        cases hb2 : mO.blank (cel o v) with
        | false =>
          have hu := cl v _ hv hb2 ⟨hv, f, hf, (Int.toNat_of_nonneg h0).symm⟩
          rw [a2 v hv hb2, a2 _ (by have := (face_back hc hv hf h0).1; omega) hu]
          exact g2 v f hv (bO.1 hb2) hf h0
        | true =>
          simp only [srch] at hv0 ⊢
          obtain ⟨i, hi, hi2⟩ := hbi.lab v hv hb2 (bO.2 hv0)
          have hle := hbi.le
          have hsh := hbi.short
          have := hcon i f (by omega) hf hi (by rw [hi2]; exact h0)
          rw [hi2] at this
          exact this
    · intro hok hor
      simp only at hok
      obtain ⟨w, hw⟩ := hor
      have K2 : Keeps mO x n (fun v c => (c = 1 ∨ c = -1) ∧ c = w v * w t) := by
        refine ⟨K.lt, fun v f c hv hf h0 hp hbb => K.nb v f c hv hf h0 hp.1 hbb, fun v f c hv hf h0 hp hbb => ⟨K.st v f c hv hf h0 hp.1 hbb, ?_⟩⟩
        rw [hw.2 v f hv hf h0, hp.2]
        simp only [mO, Int.mul_assoc]
      have hst2 := BI.start (M := mO) (x := x) (P := fun v c => (c = 1 ∨ c = -1) ∧ c = w v * w t) len (c := 1) ht (bO'.2 hb) (by simp [mO]) ⟨.inl rfl, by rcases hw.1 t ht with e | e <;> rw [e] <;> rfl⟩
      have := ok_run K2 hc hw cl (fun v c _ hp => hp.2) hst2 n
      rw [this] at hok; cases hok
  · rw [if_neg hh]
    refine ⟨len, rng, cl, fun hr => ?_, bad⟩
    simp only at hr
    subst hr
    obtain ⟨g1, g2⟩ := good rfl
    refine ⟨fun v hv => ?_, g2⟩
    by_cases e : v = t
    · subst e; exact fun h0 => hh ⟨rfl, h0⟩
    · exact g1 v (by omega)

theorem orient_inv {x : List Int} {n : Nat} (hc : chk n x = 0) : ∀ t, t ≤ n → OI x n t (ost x n t) := by
  intro t
  induction t with
  | zero =>
    intro _
    have hz : ∀ v, v < n → cel (List.replicate n (0 : Int)) v = 0 := fun v hv => cel_rep n v _ hv
    refine ⟨by simp [ost], fun v hv => .inl (by simp only [ost]; exact hz v hv), fun s t hs hb => ?_, fun _ => ⟨fun v hv => by omega, fun v f hv h0 => ?_⟩, fun h => by simp [ost] at h⟩
    · exact absurd (by simp only [ost]; exact hz s hs) (bO.1 hb)
    · exact absurd (by simp only [ost]; exact hz v hv) h0
  | succ t ih => intro ht; exact (ih (by omega)).step hc (by omega)

def oriL (x : List Int) (n : Nat) : List Int := (ost x n n).1
def oriB (x : List Int) (n : Nat) : Bool := (ost x n n).2

/-- What Orient tells: whether there is an orientation. -/
theorem oriB_iff {x : List Int} {n : Nat} (hc : chk n x = 0) : oriB x n = true ↔ Orientable x n := by
  have h := orient_inv hc n (Nat.le_refl _)
  unfold oriB
  constructor
  · intro hr
    obtain ⟨g1, g2⟩ := h.good hr
    refine ⟨fun v => cel (ost x n n).1 v, fun v hv => ?_, fun t f ht hf h0 => g2 t f ht (g1 t ht) hf h0⟩
    rcases h.rng v hv with h0 | h0
    · exact absurd h0 (g1 v hv)
    · exact h0
  · intro hor
    cases hr : (ost x n n).2 with
    | true => rfl
    | false => exact absurd hor (h.bad hr)
end Go.Ab
