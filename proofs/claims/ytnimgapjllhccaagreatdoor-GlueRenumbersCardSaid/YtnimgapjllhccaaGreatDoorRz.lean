/- Renumbering in plain words: it is valid, two are one, one can be undone, and what it keeps. Conditions: none beyond the given model and program. -/
import Derived.Test.YtnimgapjllhccaaGreatDoorMp
namespace Go.Ab

theorem ordOk_iff {n : Nat} {o q : List Int} : ordOk n o q = true ↔ (∀ t, t < n → 0 ≤ cel o t ∧ cel o t < n ∧ (pmAt q (4 * t)).valid = true) ∧ ∀ s t, s < t → t < n → cel o s ≠ cel o t := by
  unfold ordOk
  rw [List.all_eq_true]
  simp only [List.mem_range, okAt, Bool.and_eq_true, decide_eq_true_eq, Bool.not_eq_true']
  have hseen : ∀ t, (0 ≤ cel o t) → (seen o t (cel o t).toNat = false ↔ ∀ s, s < t → cel o s ≠ cel o t) := by
    intro t h0
    unfold seen
    rw [List.any_eq_false]
    simp only [List.mem_range, beq_iff_eq]
    constructor
    · intro h s hs e; exact h s hs (by rw [e]; omega)
    · intro h s hs e; exact h s hs (by omega)
  constructor
  · intro h
    refine ⟨fun t ht => ⟨(h t ht).1, (h t ht).2.1, (h t ht).2.2.2⟩, fun s t hst ht => (hseen t (h t ht).1).1 (h t ht).2.2.1 s hst⟩
  · rintro ⟨h1, h2⟩ t ht
    exact ⟨(h1 t ht).1, (h1 t ht).2.1, (hseen t (h1 t ht).1).2 fun s hs => h2 s t hs ht, (h1 t ht).2.2⟩

/-- An order of n things and its inverse, an array for each. -/
structure Ord3 (n : Nat) (s t : Nat → Nat) (r : Nat → Pm) : Prop where
  s_lt : ∀ v, v < n → s v < n
  t_lt : ∀ v, v < n → t v < n
  ts : ∀ v, v < n → t (s v) = v
  st : ∀ v, v < n → s (t v) = v
  val : ∀ v, v < n → (r v).valid = true

/-- The renumbered faces. -/
def RF (x : List Int) (s t : Nat → Nat) (r : Nat → Pm) : FF := fun v f =>
  let a := fc x (s v) ((r v).at (f : Nat)).toNat
  if ilt a.u 0 = true then ⟨-1, .zero⟩ else ⟨(t a.u.toNat : Int), composeP (inverseP (r (t a.u.toNat))) (composeP a.p (r v))⟩

theorem bk_spec {o : List Int} {n : Nat} (h1 : ∀ t, t < n → 0 ≤ cel o t) (hinj : ∀ s t, s < t → t < n → cel o s ≠ cel o t) : ∀ i, i ≤ n → ∀ j, j < i → bk o i (cel o j).toNat = (j : Int) := by
  intro i
  induction i with
  | zero => intro _ j hj; omega
  | succ i ih =>
    intro hi j hj
    simp only [bk]
    by_cases e : j = i
    · subst e; rw [if_pos rfl]
    · rw [if_neg]
      · exact ih (by omega) j (by omega)
      · intro he
        have := h1 i (by omega)
        have := h1 j (by omega)
        exact hinj j i (by omega) (by omega) (by omega)

/-- An injective list of n numbers below n has all of them. -/
theorem onto_of_inj {o : List Int} {n : Nat} (hl : o.length = n) (h1 : ∀ t, t < n → 0 ≤ cel o t ∧ cel o t < n) (hinj : ∀ s t, s < t → t < n → cel o s ≠ cel o t) {v : Nat} (hv : v < n) : ∃ t, t < n ∧ cel o t = v := by
  apply Classical.byContradiction
  intro hno
  have hne : ∀ t, t < n → cel o t ≠ v := fun t ht e => hno ⟨t, ht, e⟩
  have := pigeon n (o ++ [(v : Int)]) (by
    intro j hj
    rw [cel_snoc]
    simp only [List.length_append, List.length_cons, List.length_nil] at hj
    split
    · omega
    · exact h1 j (by omega)) (by
    intro j k hj hk he
    rw [cel_snoc, cel_snoc] at he
    simp only [List.length_append, List.length_cons, List.length_nil] at hj hk
    by_cases e : j = o.length
    · by_cases e2 : k = o.length
      · omega
      · rw [if_pos e, if_neg e2] at he; exact absurd he.symm (hne k (by omega))
    · by_cases e2 : k = o.length
      · rw [if_neg e, if_pos e2] at he; exact absurd he (hne j (by omega))
      · rw [if_neg e, if_neg e2] at he
        rcases Nat.lt_trichotomy j k with h | h | h
        · exact absurd he (hinj j k h (by omega))
        · exact h
        · exact absurd he.symm (hinj k j h (by omega)))
  simp at this
  omega

def sOf (o : List Int) (v : Nat) : Nat := (cel o v).toNat
def tOf (o : List Int) (n : Nat) (v : Nat) : Nat := (bk o n v).toNat
def rOf (q : List Int) (v : Nat) : Pm := pmAt q (4 * v)

theorem ord3_of {n : Nat} {o q : List Int} (hl : o.length = n) (h : ordOk n o q = true) : Ord3 n (sOf o) (tOf o n) (rOf q) := by
  obtain ⟨h1, h2⟩ := ordOk_iff.1 h
  have hb := bk_spec (o := o) (n := n) (fun t ht => (h1 t ht).1) h2 n (Nat.le_refl _)
  have hts : ∀ v, v < n → tOf o n (sOf o v) = v := fun v hv => by unfold tOf sOf; rw [hb v hv]; omega
  have honto : ∀ v, v < n → ∃ t, t < n ∧ sOf o t = v := fun v hv => by
    obtain ⟨t, ht, e⟩ := onto_of_inj hl (fun t ht => ⟨(h1 t ht).1, (h1 t ht).2.1⟩) h2 hv
    exact ⟨t, ht, by unfold sOf; omega⟩
  refine ⟨fun v hv => ?_, fun v hv => ?_, hts, fun v hv => ?_, fun v hv => (h1 v hv).2.2⟩
  · have := h1 v hv; unfold sOf; omega
  · obtain ⟨t, ht, rfl⟩ := honto v hv; rw [hts t ht]; exact ht
  · obtain ⟨t, ht, rfl⟩ := honto v hv; rw [hts t ht]

section
variable {x : List Int} {n : Nat} {s t : Nat → Nat} {r : Nat → Pm}

theorem plc_cel {o : List Int} {v : Nat} (hv : v < n) : cel (plc o n) v = bk o n v := by unfold plc; exact cel_inl hv

theorem rn_build {o q : List Int} (hl : o.length = n) (hc : chk n x = 0) (h : ordOk n o q = true) : build n (rnF x o q (plc o n)) = build n (RF x (sOf o) (tOf o n) (rOf q)) := by
  have O := ord3_of hl h
  refine build_congr fun v f hv hf => ?_
  have hs : src x o q v f = fc x (sOf o v) ((rOf q v).at (f : Nat)).toNat := rfl
  have hr := at_range (O.val v hv) (i := (f : Int)) (by omega) (by omega)
  have hb := face_back hc (O.s_lt v hv) (f := ((rOf q v).at (f : Nat)).toNat) (by omega)
  show (if ilt (src x o q v f).u 0 = true then (⟨-1, .zero⟩ : Fc) else glu q (plc o n) v (src x o q v f)) = (if ilt (fc x (sOf o v) ((rOf q v).at (f : Nat)).toNat).u 0 = true then ⟨-1, .zero⟩ else ⟨(tOf o n (fc x (sOf o v) ((rOf q v).at (f : Nat)).toNat).u.toNat : Int), composeP (inverseP (rOf q (tOf o n (fc x (sOf o v) ((rOf q v).at (f : Nat)).toNat).u.toNat))) (composeP (fc x (sOf o v) ((rOf q v).at (f : Nat)).toNat).p (rOf q v))⟩)
  rw [hs]
  generalize fc x (sOf o v) ((rOf q v).at (f : Nat)).toNat = a at hb ⊢
  by_cases hn : ilt a.u 0 = true
  · rw [if_pos hn, if_pos hn]
  · rw [if_neg hn, if_neg hn]
    have h0 : 0 ≤ a.u := ilt_nonneg.1 (by simpa using hn)
    have hlt := (hb h0).1
    have hu : a.u.toNat < n := by omega
    have hpos : 0 ≤ bk o n a.u.toNat := (bk_in o (by omega) n a.u.toNat (Nat.le_refl _)).1
    unfold glu tOf rOf
    rw [plc_cel hu, Int.toNat_of_nonneg hpos]

/-- The relation of the renumbered gluing and the gluing. -/
def RR (n : Nat) (s : Nat → Nat) (r : Nat → Pm) : Nat → Nat → Pm → Prop := fun v w p => v < n ∧ w = s v ∧ p = r v

theorem rf_face (v f : Nat) (hv : v < n) (hf : f < 4) : fc (build n (RF x s t r)) v f = RF x s t r v f := fc_build hv hf

theorem RF_glued (hc : chk n x = 0) (O : Ord3 n s t r) {v f : Nat} (hv : v < n) (hf : f < 4) (h0 : 0 ≤ (fc x (s v) ((r v).at (f : Nat)).toNat).u) :
    RF x s t r v f = ⟨(t (fc x (s v) ((r v).at (f : Nat)).toNat).u.toNat : Int), composeP (inverseP (r (t (fc x (s v) ((r v).at (f : Nat)).toNat).u.toNat))) (composeP (fc x (s v) ((r v).at (f : Nat)).toNat).p (r v))⟩ := by
  unfold RF
  simp only
  rw [if_neg (by rw [ilt_nonneg.2 h0]; simp)]
theorem RF_free {v f : Nat} (h0 : ¬ 0 ≤ (fc x (s v) ((r v).at (f : Nat)).toNat).u) : RF x s t r v f = ⟨-1, .zero⟩ := by
  unfold RF
  simp only
  rw [if_pos (ilt_neg.2 (by omega))]

theorem rf_loc (hc : chk n x = 0) (O : Ord3 n s t r) : Loc2 (build n (RF x s t r)) n x n (RR n s r) := by
  refine ⟨?_, ?_, ?_, ?_⟩
  · rintro v w q ⟨hv, rfl, rfl⟩; exact ⟨hv, O.s_lt v hv, O.val v hv⟩
  · rintro v w q f ⟨hv, rfl, rfl⟩ hf
    have hr := at_range (O.val v hv) (i := (f : Int)) (by omega) (by omega)
    rw [rf_face v f hv hf]
    rcases face_free hc (O.s_lt v hv) (show ((r v).at (f : Nat)).toNat < 4 by omega) with h | h
    · left
      rw [RF_free (by omega)]
      exact ⟨rfl, h⟩
    · right
      obtain ⟨hlt, hval, _⟩ := face_back hc (O.s_lt v hv) (show ((r v).at (f : Nat)).toNat < 4 by omega) h
      rw [RF_glued hc O hv hf h]
      have hu : (fc x (s v) ((r v).at (f : Nat)).toNat).u.toNat < n := by omega
      refine ⟨by simp only; omega, h, by simp only [Int.toNat_natCast]; exact O.t_lt _ hu, by simp only [Int.toNat_natCast]; exact (O.st _ hu).symm, ?_⟩
      simp only [Int.toNat_natCast]
      have vr := O.val v hv
      have vt := O.val _ (O.t_lt _ hu)
      generalize (fc x (s v) ((r v).at (f : Nat)).toNat).p = A at *
      generalize r (t (fc x (s v) ((r v).at (f : Nat)).toNat).u.toNat) = C at *
      unfold wantP
      rw [inv_compose (inverse_valid vt) (compose_valid' hval vr), inv_inv vt, inv_compose hval vr]
      rw [compose_assoc _ _ vt, ← compose_assoc (r v) (inverseP (r v)) (compose_valid' (inverse_valid hval) vt), (compose_inv vr).1, id_compose (compose_valid' (inverse_valid hval) vt), ← compose_assoc A (inverseP A) vt, (compose_inv hval).1, id_compose vt]
  · rintro v w q w' q' ⟨_, rfl, rfl⟩ ⟨_, rfl, rfl⟩; exact ⟨rfl, rfl⟩
  · rintro v v' w q q' ⟨hv, rfl, rfl⟩ ⟨hv', h, rfl⟩
    rw [← O.ts v hv, h, O.ts v' hv']

theorem rf_chk (hc : chk n x = 0) (O : Ord3 n s t r) : chk n (build n (RF x s t r)) = 0 := by
  refine chk_of (chk_n hc) fun v f hv hf => ?_
  have hr := at_range (O.val v hv) (i := (f : Int)) (by omega) (by omega)
  have hr' : ((r v).at (f : Nat)).toNat < 4 := by omega
  unfold Good
  rw [rf_face v f hv hf]
  rcases chk_good hc (O.s_lt v hv) hr' with h | h
  · left
    rw [RF_free (by have := h.1; omega)]
    exact ⟨rfl, rfl⟩
  · right
    obtain ⟨h0, hlt, hval, hns, hb1, hb2⟩ := h
    have hat := at_range hval hr.1 hr.2
    rw [RF_glued hc O hv hf h0]
    rw [Int.toNat_of_nonneg hr.1] at hns hb1 hb2
    generalize hA : fc x (s v) ((r v).at (f : Nat)).toNat = a at *
    have hu : a.u.toNat < n := by omega
    have htu := O.t_lt _ hu
    have vr := O.val v hv
    have vt := O.val _ htu
    simp only [Int.toNat_natCast]
    have hpv : (composeP (inverseP (r (t a.u.toNat))) (composeP a.p (r v))).valid = true := compose_valid' (inverse_valid vt) (compose_valid' hval vr)
    have hpf : (composeP (inverseP (r (t a.u.toNat))) (composeP a.p (r v))).at (f : Nat) = (inverseP (r (t a.u.toNat))).at (a.p.at ((r v).at (f : Nat))) := by
      rw [at_compose _ (by omega) (by omega), at_compose _ (by omega) (by omega)]
    have hback := (at_inv vt hat.1 hat.2).2
    have hpr := at_range hpv (i := (f : Int)) (by omega) (by omega)
    refine ⟨by omega, by omega, hpv, ?_, ?_⟩
    · rintro ⟨e1, e2⟩
      have e3 : t a.u.toNat = v := by omega
      have e4 : a.u.toNat = s v := by rw [← O.st _ hu, e3]
      rw [hpf, e3] at e2
      have e5 : (r v).at ((inverseP (r v)).at (a.p.at ((r v).at (f : Nat)))) = (r v).at (f : Nat) := by rw [e2]
      rw [e3] at hback
      rw [hback] at e5
      exact hns ⟨by omega, e5⟩
    · rw [rf_face _ _ htu (by omega)]
      have hsrc : fc x (s (t a.u.toNat)) ((r (t a.u.toNat)).at (((composeP (inverseP (r (t a.u.toNat))) (composeP a.p (r v))).at (f : Nat)).toNat : Nat)).toNat = fc x a.u.toNat (a.p.at ((r v).at (f : Nat))).toNat := by
        rw [O.st _ hu, Int.toNat_of_nonneg hpr.1, hpf, hback]
      have h0' : 0 ≤ (fc x (s (t a.u.toNat)) ((r (t a.u.toNat)).at (((composeP (inverseP (r (t a.u.toNat))) (composeP a.p (r v))).at (f : Nat)).toNat : Nat)).toNat).u := by rw [hsrc, hb1]; omega
      rw [RF_glued hc O htu (by omega) h0', hsrc, hb1, hb2, Int.toNat_natCast, O.ts v hv]
      refine ⟨rfl, ?_⟩
      simp only
      rw [inv_compose (inverse_valid vt) (compose_valid' hval vr), inv_inv vt, inv_compose hval vr, compose_assoc _ _ vt]

theorem sign_comp {p q : Pm} (hp : p.valid = true) (hq : q.valid = true) : signP (composeP p q) = signP p * signP q := by
  have h : l24.all (fun p => l24.all fun q => signP (composeP p q) == signP p * signP q) = true := by decide +kernel
  have := List.all_eq_true.1 (List.all_eq_true.1 h p (mem24 hp)) q (mem24 hq)
  simpa using this
/-- What is kept where a relation keeps all faces. -/
theorem ori_of_loc {y : List Int} {m : Nat} {R : Nat → Nat → Pm → Prop} (hx : chk n x = 0) (hy : chk m y = 0) (L : Loc2 x n y m R) (hall : ∀ v, v < n → ∃ w q, R v w q) (h : Orientable y m) : Orientable x n := by
  obtain ⟨w, hw⟩ := h
  have hall' : ∀ v, ∃ u q, v < n → R v u q := by
    intro v
    by_cases hv : v < n
    · obtain ⟨u, q, h⟩ := hall v hv; exact ⟨u, q, fun _ => h⟩
    · exact ⟨0, .zero, fun h => absurd h hv⟩
  obtain ⟨phi, h1⟩ := Classical.axiomOfChoice hall'
  obtain ⟨psi, h2⟩ := Classical.axiomOfChoice h1
  refine ⟨fun v => w (phi v) * signP (psi v), fun v hv => ?_, fun v f hv hf h0 => ?_⟩
  · have hl := L.lt (h2 v hv)
    rcases hw.1 _ hl.2.1 with e | e <;> rcases signP_one (psi v) with e2 | e2 <;> simp only [e, e2] <;> simp
  · have hR := h2 v hv
    obtain ⟨_, hpv, hqv⟩ := L.lt hR
    have hr := at_range hqv (i := (f : Int)) (by omega) (by omega)
    rcases L.face hR hf with ⟨a, b⟩ | ⟨a, b, c⟩
    · omega
    · have hu := (face_back hx hv hf a).1
      have hva := (face_back hx hv hf a).2.1
      have hvb := (face_back hy hpv (show ((psi v).at (f : Nat)).toNat < 4 by omega) b).2.1
      obtain ⟨e1, e2⟩ := L.fn (h2 _ (show (fc x v f).u.toNat < n by omega)) c
      simp only
      rw [e1, e2, hw.2 (phi v) _ hpv (show ((psi v).at (f : Nat)).toNat < 4 by omega) b]
      unfold wantP
      generalize (fc y (phi v) ((psi v).at (f : Nat)).toNat).p = B at *
      generalize (fc x v f).p = A at *
      have s1 : signP (composeP B (composeP (psi v) (inverseP A))) = signP B * (signP (psi v) * signP A) := by
        rw [sign_comp hvb (compose_valid' hqv (inverse_valid hva)), sign_comp hqv (inverse_valid hva), sign_inv hva]
      rw [s1]
      rcases signP_one B with e | e <;> rcases signP_one A with e3 | e3 <;> rcases signP_one (psi v) with e4 | e4 <;> rw [e, e3, e4] <;> simp
end
end Go.Ab

namespace Go.Ab

section
variable {x : List Int} {n : Nat}

/-- An order and its places determine a renumbering. -/
theorem rf_congr {s s' t t' : Nat → Nat} {r r' : Nat → Pm} (hc : chk n x = 0) (O : Ord3 n s t r) (hs : ∀ v, v < n → s v = s' v) (ht : ∀ v, v < n → t v = t' v) (hr : ∀ v, v < n → r v = r' v) : build n (RF x s t r) = build n (RF x s' t' r') := by
  refine build_congr fun v f hv hf => ?_
  have hr4 := at_range (O.val v hv) (i := (f : Int)) (by omega) (by omega)
  have hb := face_back hc (O.s_lt v hv) (f := ((r v).at (f : Nat)).toNat) (by omega)
  unfold RF
  simp only
  rw [← hs v hv, ← hr v hv]
  generalize fc x (s v) ((r v).at (f : Nat)).toNat = a at hb
  by_cases hn : ilt a.u 0 = true
  · rw [if_pos hn, if_pos hn]
  · rw [if_neg hn, if_neg hn]
    have h0 : 0 ≤ a.u := ilt_nonneg.1 (by simpa using hn)
    have hu : a.u.toNat < n := by have := (hb h0).1; omega
    rw [← ht _ hu, ← hr _ (O.t_lt _ hu)]

theorem ord3_comp {s1 t1 s2 t2 : Nat → Nat} {r1 r2 : Nat → Pm} (O1 : Ord3 n s1 t1 r1) (O2 : Ord3 n s2 t2 r2) : Ord3 n (fun v => s1 (s2 v)) (fun v => t2 (t1 v)) (fun v => composeP (r1 (s2 v)) (r2 v)) :=
  ⟨fun v hv => O1.s_lt _ (O2.s_lt v hv), fun v hv => O2.t_lt _ (O1.t_lt v hv), fun v hv => by rw [O1.ts _ (O2.s_lt v hv), O2.ts v hv], fun v hv => by rw [O2.st _ (O1.t_lt v hv), O1.st v hv],
    fun v hv => compose_valid' (O1.val _ (O2.s_lt v hv)) (O2.val v hv)⟩
theorem ord3_back {s t : Nat → Nat} {r : Nat → Pm} (O : Ord3 n s t r) : Ord3 n t s (fun v => inverseP (r (t v))) :=
  ⟨O.t_lt, O.s_lt, O.st, O.ts, fun v hv => inverse_valid (O.val _ (O.t_lt v hv))⟩

/-- Two renumberings are one. -/
theorem rf_two {s1 t1 s2 t2 : Nat → Nat} {r1 r2 : Nat → Pm} (hc : chk n x = 0) (O1 : Ord3 n s1 t1 r1) (O2 : Ord3 n s2 t2 r2) :
    build n (RF (build n (RF x s1 t1 r1)) s2 t2 r2) = build n (RF x (fun v => s1 (s2 v)) (fun v => t2 (t1 v)) (fun v => composeP (r1 (s2 v)) (r2 v))) := by
  refine build_congr fun v f hv hf => ?_
  have hr2 := at_range (O2.val v hv) (i := (f : Int)) (by omega) (by omega)
  have hs2 := O2.s_lt v hv
  have hr1 := at_range (O1.val _ hs2) hr2.1 hr2.2
  have hA : fc (build n (RF x s1 t1 r1)) (s2 v) ((r2 v).at (f : Nat)).toNat = RF x s1 t1 r1 (s2 v) ((r2 v).at (f : Nat)).toNat := rf_face _ _ hs2 (by omega)
  have hat : (composeP (r1 (s2 v)) (r2 v)).at (f : Nat) = (r1 (s2 v)).at ((r2 v).at (f : Nat)) := at_compose _ (by omega) (by omega)
  have hsrc : fc x (s1 (s2 v)) ((r1 (s2 v)).at ((((r2 v).at (f : Nat)).toNat : Nat) : Int)).toNat = fc x (s1 (s2 v)) ((composeP (r1 (s2 v)) (r2 v)).at (f : Nat)).toNat := by rw [hat, Int.toNat_of_nonneg hr2.1]
  have hb := face_back hc (O1.s_lt _ hs2) (f := ((composeP (r1 (s2 v)) (r2 v)).at (f : Nat)).toNat) (by rw [hat]; omega)
  by_cases h0 : 0 ≤ (fc x (s1 (s2 v)) ((composeP (r1 (s2 v)) (r2 v)).at (f : Nat)).toNat).u
  · obtain ⟨hlt, hval, _⟩ := hb h0
    have e1 := RF_glued (x := x) (s := fun v => s1 (s2 v)) (t := fun v => t2 (t1 v)) (r := fun v => composeP (r1 (s2 v)) (r2 v)) hc (ord3_comp O1 O2) hv hf h0
    rw [e1]
    have hA2 := RF_glued (x := x) hc O1 hs2 (show ((r2 v).at (f : Nat)).toNat < 4 by omega) (by rw [hsrc]; exact h0)
    rw [hsrc] at hA2
    generalize fc x (s1 (s2 v)) ((composeP (r1 (s2 v)) (r2 v)).at (f : Nat)).toNat = a at *
    have hu : a.u.toNat < n := by omega
    have e2 := RF_glued (x := build n (RF x s1 t1 r1)) (rf_chk hc O1) O2 hv hf (by rw [hA, hA2]; simp only; omega)
    rw [e2, hA, hA2]
    simp only [Int.toNat_natCast]
    have ht1 := O1.t_lt _ hu
    have ht2 := O2.t_lt _ ht1
    rw [O2.st _ ht1, inv_compose (O1.val _ ht1) (O2.val _ ht2)]
    have v1 := O1.val _ hs2
    have v2 := O2.val v hv
    have v3 := inverse_valid (O1.val _ ht1)
    rw [compose_assoc (inverseP (r1 (t1 a.u.toNat))) (composeP a.p (r1 (s2 v))) v2, compose_assoc a.p (r1 (s2 v)) v2, ← compose_assoc (inverseP (r2 (t2 (t1 a.u.toNat)))) (inverseP (r1 (t1 a.u.toNat))) (compose_valid' hval (compose_valid' v1 v2))]
  · have e1 := RF_free (x := x) (s := fun v => s1 (s2 v)) (t := fun v => t2 (t1 v)) (r := fun v => composeP (r1 (s2 v)) (r2 v)) h0
    rw [e1]
    have hA2 := RF_free (x := x) (s := s1) (t := t1) (r := r1) (v := s2 v) (f := ((r2 v).at (f : Nat)).toNat) (by rw [hsrc]; exact h0)
    exact RF_free (by rw [hA, hA2]; simp)

/-- The renumbering that changes nothing. -/
theorem rf_id {s t : Nat → Nat} {r : Nat → Pm} (hx : x.length = 20 * n) (hc : chk n x = 0) (hs : ∀ v, v < n → s v = v) (ht : ∀ v, v < n → t v = v) (hr : ∀ v, v < n → r v = idQ) : build n (RF x s t r) = x := by
  have hidv : idQ.valid = true := by decide +kernel
  have hinv : inverseP idQ = idQ := by rfl
  have O : Ord3 n (fun v => v) (fun v => v) (fun _ => idQ) := ⟨fun _ h => h, fun _ h => h, fun _ _ => rfl, fun _ _ => rfl, fun _ _ => hidv⟩
  have O' : Ord3 n s t r := ⟨fun v h => by rw [hs v h]; exact h, fun v h => by rw [ht v h]; exact h, fun v h => by rw [hs v h, ht v h], fun v h => by rw [ht v h, hs v h], fun v h => by rw [hr v h]; exact hidv⟩
  rw [rf_congr hc O' hs ht hr]
  conv => rhs; rw [← build_fc hx]
  refine build_congr fun v f hv hf => ?_
  have hid : (idQ.at (f : Nat)).toNat = f := by
    have h : f = 0 ∨ f = 1 ∨ f = 2 ∨ f = 3 := by omega
    rcases h with rfl | rfl | rfl | rfl <;> decide +kernel
  rcases chk_good hc hv hf with h | h
  · rw [RF_free (by rw [hid, h.1]; omega)]
    have : fc x v f = ⟨(fc x v f).u, (fc x v f).p⟩ := rfl
    rw [this, h.1, h.2]
  · rw [RF_glued hc O hv hf (by rw [hid]; exact h.1)]
    rw [hid, hinv, compose_id, id_compose h.2.2.1, Int.toNat_of_nonneg h.1]

/-- A renumbering can be undone. -/
theorem rf_undo {s t : Nat → Nat} {r : Nat → Pm} (hx : x.length = 20 * n) (hc : chk n x = 0) (O : Ord3 n s t r) : build n (RF (build n (RF x s t r)) t s (fun v => inverseP (r (t v)))) = x := by
  rw [rf_two hc O (ord3_back O)]
  exact rf_id hx hc (fun v hv => O.st v hv) (fun v hv => O.st v hv) fun v hv => (compose_inv (O.val _ (O.t_lt v hv))).1

theorem partsN_le {y : List Int} {m : Nat} {R : Nat → Nat → Pm → Prop} (hx : chk n x = 0) (hy : chk m y = 0) (L : Loc2 x n y m R) (hall : ∀ v, v < n → ∃ w q, R v w q) : partsN x n ≤ partsN y m := by
  have hp := parts_spec hx n (Nat.le_refl _)
  have hq := parts_spec hy m (Nat.le_refl _)
  obtain ⟨r, hr⟩ := hp.rep
  have hr' : ∀ c, c < partsN x n → r c < n ∧ cel (partsL x n) (r c) = c := fun c hc => ⟨(hr c hc).1, (hr c hc).2.1⟩
  have hall' : ∀ v, ∃ w, v < n → ∃ q, R v w q := by
    intro v
    by_cases hv : v < n
    · obtain ⟨w, h⟩ := hall v hv; exact ⟨w, fun _ => h⟩
    · exact ⟨0, fun h => absurd h hv⟩
  obtain ⟨phi, hphi⟩ := Classical.axiomOfChoice hall'
  have hlab : ∀ c, c < partsN x n → 0 ≤ cel (partsL y m) (phi (r c)) ∧ cel (partsL y m) (phi (r c)) < partsN y m := by
    intro c hc
    obtain ⟨q, h⟩ := hphi (r c) (hr' c hc).1
    have hw := (L.lt h).2.1
    have h1 := hq.rng _ hw
    have h2 := hq.done _ hw
    unfold partsN partsL
    omega
  have hlen : ((List.range (partsN x n)).map fun c => cel (partsL y m) (phi (r c))).length = partsN x n := by simp
  have hcel : ∀ c, c < partsN x n → cel ((List.range (partsN x n)).map fun c => cel (partsL y m) (phi (r c))) c = cel (partsL y m) (phi (r c)) := by
    intro c hc
    conv => lhs; rw [cel]
    simp [List.getD_eq_getElem?_getD, hc]
  have := pigeon (partsN y m) ((List.range (partsN x n)).map fun c => cel (partsL y m) (phi (r c))) (by
    intro j hj
    rw [hlen] at hj
    rw [hcel j hj]; exact hlab j hj) (by
    intro j k hj hk he
    rw [hlen] at hj hk
    rw [hcel j hj, hcel k hk] at he
    obtain ⟨q, h⟩ := hphi (r j) (hr' j hj).1
    obtain ⟨q', h'⟩ := hphi (r k) (hr' k hk).1
    have hre := (parts_same hy (L.lt h).2.1 (L.lt h').2.1).1 he
    obtain ⟨v, q2, hv, hrv⟩ := L.onto hx hy h hre
    have := L.inj hv h'
    subst this
    have e := (parts_same hx (hr' j hj).1 (hr' k hk).1).2 hrv
    rw [(hr' j hj).2, (hr' k hk).2] at e
    omega)
  rw [hlen] at this
  exact this

/-- What a renumbering keeps. -/
theorem rf_keeps {s t : Nat → Nat} {r : Nat → Pm} (hc : chk n x = 0) (O : Ord3 n s t r) : oriB x n = oriB (build n (RF x s t r)) n ∧ partsN x n = partsN (build n (RF x s t r)) n := by
  have hA := rf_chk hc O
  have L := rf_loc hc O
  have hall : ∀ v, v < n → ∃ w q, RR n s r v w q := fun v hv => ⟨s v, r v, hv, rfl, rfl⟩
  have LB := L.back hA hc
  have hallB : ∀ w, w < n → ∃ v p, ∃ q, RR n s r v w q ∧ p = inverseP q := fun w hw => ⟨t w, _, r (t w), ⟨O.t_lt w hw, (O.st w hw).symm, rfl⟩, rfl⟩
  refine ⟨?_, Nat.le_antisymm (partsN_le hc hA LB hallB) (partsN_le hA hc L hall)⟩
  rw [Bool.eq_iff_iff, oriB_iff hc, oriB_iff hA]
  exact ⟨ori_of_loc hA hc L hall, ori_of_loc hc hA LB hallB⟩
end

-- the lists that the law makes
/-- The inverses of the arrays, each at its place. -/
def udF (o q : List Int) : Nat → Nat → Pm
  | 0, _ => .zero
  | i + 1, v => if v = (cel o i).toNat then inverseP (pmAt q (4 * i)) else udF o q i v
theorem ud_spec {o q : List Int} {n : Nat} (h1 : ∀ t, t < n → 0 ≤ cel o t) (hinj : ∀ s t, s < t → t < n → cel o s ≠ cel o t) : ∀ i, i ≤ n → ∀ j, j < i → udF o q i (cel o j).toNat = inverseP (pmAt q (4 * j)) := by
  intro i
  induction i with
  | zero => intro _ j hj; omega
  | succ i ih =>
    intro hi j hj
    simp only [udF]
    by_cases e : j = i
    · subst e; rw [if_pos rfl]
    · rw [if_neg]
      · exact ih (by omega) j (by omega)
      · intro he
        have := h1 i (by omega)
        have := h1 j (by omega)
        exact hinj j i (by omega) (by omega) (by omega)
/-- An order after another. -/
def boF (o o2 : List Int) (i : Nat) : Nat → Int := fun j => if j < i then cel o (cel o2 j).toNat else 0
def byF (q o2 q2 : List Int) (i : Nat) : Nat → Pm := fun j => if j < i then composeP (pmAt q (4 * (cel o2 j).toNat)) (pmAt q2 (4 * j)) else .zero
def boL (o o2 : List Int) (n : Nat) : List Int := inl n (boF o o2 n)
def byL (q o2 q2 : List Int) (n : Nat) : List Int := pms n (byF q o2 q2 n)
def udL (o q : List Int) (n : Nat) : List Int := pms n (udF o q n)

theorem ord_of3 {n : Nat} {o q : List Int} {t : Nat → Nat} (h0 : ∀ v, v < n → 0 ≤ cel o v) (O : Ord3 n (sOf o) t (rOf q)) : ordOk n o q = true := by
  refine ordOk_iff.2 ⟨fun v hv => ⟨h0 v hv, ?_, O.val v hv⟩, fun s v hs hv he => ?_⟩
  · have := O.s_lt v hv; have := h0 v hv; unfold sOf at *; omega
  · have h : sOf o s = sOf o v := by unfold sOf; rw [he]
    have e := O.ts s (by omega)
    rw [h, O.ts v hv] at e
    omega
theorem tOf_uniq {n : Nat} {s t t' : Nat → Nat} {r : Nat → Pm} (O : Ord3 n s t r) (O' : Ord3 n s t' r) {v : Nat} (hv : v < n) : t v = t' v := by
  have h := O'.ts (t v) (O.t_lt v hv)
  rw [O.st v hv] at h
  exact h.symm
theorem Ord3.congr {n : Nat} {s s' t t' : Nat → Nat} {r r' : Nat → Pm} (O : Ord3 n s t r) (hs : ∀ v, v < n → s v = s' v) (ht : ∀ v, v < n → t v = t' v) (hr : ∀ v, v < n → r v = r' v) : Ord3 n s' t' r' :=
  ⟨fun v hv => by rw [← hs v hv]; exact O.s_lt v hv, fun v hv => by rw [← ht v hv]; exact O.t_lt v hv, fun v hv => by rw [← hs v hv, ← ht _ (O.s_lt v hv)]; exact O.ts v hv, fun v hv => by rw [← ht v hv, ← hs _ (O.t_lt v hv)]; exact O.st v hv,
    fun v hv => by rw [← hr v hv]; exact O.val v hv⟩

section
variable {x o q o2 q2 : List Int} {n : Nat}
theorem bo_s {v : Nat} (hv : v < n) : sOf (boL o o2 n) v = sOf o (sOf o2 v) := by
  unfold sOf boL
  rw [cel_inl hv, boF, if_pos hv]
theorem by_r {v : Nat} (hv : v < n) : rOf (byL q o2 q2 n) v = composeP (rOf q (sOf o2 v)) (rOf q2 v) := by
  unfold rOf byL
  rw [pms_at hv, byF, if_pos hv]
  rfl
theorem bo_ord (ho : o.length = n) (ho2 : o2.length = n) (h1 : ordOk n o q = true) (h2 : ordOk n o2 q2 = true) : ordOk n (boL o o2 n) (byL q o2 q2 n) = true := by
  have O1 := ord3_of ho h1
  have O2 := ord3_of ho2 h2
  have hh := ordOk_iff.1 h1
  refine ord_of3 (t := fun v => tOf o2 n (tOf o n v)) (fun v hv => ?_) ((ord3_comp O1 O2).congr (fun v hv => (bo_s hv).symm) (fun v hv => rfl) (fun v hv => (by_r hv).symm))
  unfold boL
  rw [cel_inl hv, boF, if_pos hv]
  exact (hh.1 _ (O2.s_lt v hv)).1
theorem bo_eq (hx : chk n x = 0) (ho : o.length = n) (ho2 : o2.length = n) (h1 : ordOk n o q = true) (h2 : ordOk n o2 q2 = true) :
    build n (RF x (sOf (boL o o2 n)) (tOf (boL o o2 n) n) (rOf (byL q o2 q2 n))) = build n (RF (build n (RF x (sOf o) (tOf o n) (rOf q))) (sOf o2) (tOf o2 n) (rOf q2)) := by
  have O1 := ord3_of ho h1
  have O2 := ord3_of ho2 h2
  have lB : (boL o o2 n).length = n := inl_length _ _
  have O := ord3_of lB (bo_ord ho ho2 h1 h2)
  rw [rf_two hx O1 O2]
  have O' := (ord3_comp O1 O2).congr (s' := sOf (boL o o2 n)) (t' := fun v => tOf o2 n (tOf o n v)) (r' := rOf (byL q o2 q2 n)) (fun v hv => (bo_s hv).symm) (fun v hv => rfl) (fun v hv => (by_r hv).symm)
  exact rf_congr hx O (fun v hv => bo_s hv) (fun v hv => tOf_uniq O O' hv) (fun v hv => by_r hv)
theorem ud_s {v : Nat} (hv : v < n) : sOf (plc o n) v = tOf o n v := by
  unfold sOf tOf
  rw [plc_cel hv]
theorem ud_r (ho : o.length = n) (h1 : ordOk n o q = true) {v : Nat} (hv : v < n) : rOf (udL o q n) v = inverseP (rOf q (tOf o n v)) := by
  have O1 := ord3_of ho h1
  have hh := ordOk_iff.1 h1
  have h := ud_spec (q := q) (fun t ht => (hh.1 t ht).1) hh.2 n (Nat.le_refl _) (tOf o n v) (O1.t_lt v hv)
  have e : (cel o (tOf o n v)).toNat = v := O1.st v hv
  rw [e] at h
  unfold rOf udL
  rw [pms_at hv]
  exact h
theorem ud_ord (ho : o.length = n) (h1 : ordOk n o q = true) : ordOk n (plc o n) (udL o q n) = true := by
  have O1 := ord3_of ho h1
  refine ord_of3 (t := sOf o) (fun v hv => ?_) ((ord3_back O1).congr (fun v hv => (ud_s hv).symm) (fun v hv => rfl) (fun v hv => (ud_r ho h1 hv).symm))
  rw [plc_cel hv]
  exact (bk_in o (by omega) n v (Nat.le_refl _)).1
theorem ud_eq (lx : x.length = 20 * n) (hx : chk n x = 0) (ho : o.length = n) (h1 : ordOk n o q = true) :
    build n (RF (build n (RF x (sOf o) (tOf o n) (rOf q))) (sOf (plc o n)) (tOf (plc o n) n) (rOf (udL o q n))) = x := by
  have O1 := ord3_of ho h1
  have lB : (plc o n).length = n := inl_length _ _
  have O := ord3_of lB (ud_ord ho h1)
  have O' := (ord3_back O1).congr (s' := sOf (plc o n)) (t' := sOf o) (r' := rOf (udL o q n)) (fun v hv => (ud_s hv).symm) (fun v hv => rfl) (fun v hv => (ud_r ho h1 hv).symm)
  have := rf_undo lx hx O1
  rw [← this]
  conv => lhs; rw [this]
  conv => rhs; rw [this]
  exact (rf_congr (rf_chk hx O1) O (fun v hv => ud_s hv) (fun v hv => tOf_uniq O O' hv) (fun v hv => ud_r ho h1 hv)).trans this
end
end Go.Ab
