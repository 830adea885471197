/- Two gluings side by side, and the parts of a gluing, in plain words. Conditions: none beyond the given model and program. -/
import Derived.Test.YtnimgapjllhccaaGreatDoorPv
import Derived.Test.YtnimgapjllhccaaGreatDoorMp
import Derived.Test.YtnimgapjllhccaaGreatDoorRu
import Derived.Test.YtnimgapjllhccaaGreatDoorWa
namespace Go.Ab

section
variable {x y : List Int} {n m : Nat}

theorem uni_eq (hx : x.length = 20 * n) : uni x y n m = build (n + m) fun t f => if t < n then fc x t f else (fc y (t - n) f).sh n := by
  unfold uni
  conv => lhs; rw [← build_fc hx]
  rw [build_append]
  refine build_congr fun t f ht hf => ?_
  by_cases h : t < n
  · rw [if_pos h, if_pos h]
  · rw [if_neg h, if_neg h]; rfl
theorem uni_len (hx : x.length = 20 * n) : (uni x y n m).length = 20 * (n + m) := by rw [uni_eq hx]; exact build_length _ _
theorem uF_lo (hx : x.length = 20 * n) {t f : Nat} (ht : t < n) (hf : f < 4) : fc (uni x y n m) t f = fc x t f := by
  rw [uni_eq hx, fc_build (by omega) hf, if_pos ht]
theorem uF_hi (hx : x.length = 20 * n) {t f : Nat} (ht : t < m) (hf : f < 4) : fc (uni x y n m) (n + t) f = (fc y t f).sh n := by
  rw [uni_eq hx, fc_build (by omega) hf, if_neg (by omega), show n + t - n = t by omega]
theorem uF_glued (hx : x.length = 20 * n) (cy : chk m y = 0) (hnm : n + m ≤ 1000) {t f : Nat} (ht : t < m) (hf : f < 4) (h0 : 0 ≤ (fc y t f).u) : fc (uni x y n m) (n + t) f = ⟨(fc y t f).u + n, (fc y t f).p⟩ := by
  have hb := (face_back cy ht hf h0).1
  rw [uF_hi hx ht hf]
  unfold Fc.sh
  rw [if_pos (by rw [ile_eq]; simpa using h0), Fc.add, wrap_of (by omega) (by omega)]
theorem uF_free (hx : x.length = 20 * n) {t f : Nat} (ht : t < m) (hf : f < 4) (h0 : ¬ 0 ≤ (fc y t f).u) : fc (uni x y n m) (n + t) f = fc y t f := by
  rw [uF_hi hx ht hf]
  unfold Fc.sh
  rw [if_neg (by rw [ile_eq]; simpa using h0)]

theorem uni_chk (hx : x.length = 20 * n) (cx : chk n x = 0) (cy : chk m y = 0) (hnm : n + m ≤ 1000) : chk (n + m) (uni x y n m) = 0 := by
  refine chk_of hnm fun t f ht hf => ?_
  unfold Good
  by_cases h : t < n
  · rw [uF_lo hx h hf]
    rcases chk_good cx h hf with hg | ⟨h0, h1, h2, h3, h4, h5⟩
    · exact .inl hg
    · have hr := face_back cx h hf h0
      refine .inr ⟨h0, by omega, h2, h3, ?_, ?_⟩
      · rw [uF_lo hx (by omega) (by omega)]; exact h4
      · rw [uF_lo hx (by omega) (by omega)]; exact h5
  · obtain ⟨s, rfl⟩ : ∃ s, t = n + s := ⟨t - n, by omega⟩
    have hs : s < m := by omega
    rcases chk_good cy hs hf with hg | ⟨h0, h1, h2, h3, h4, h5⟩
    · rw [uF_free hx hs hf (by have := hg.1; omega)]; exact .inl hg
    · have hr := face_back cy hs hf h0
      rw [uF_glued hx cy hnm hs hf h0]
      simp only
      have hu : ((fc y s f).u + (n : Int)).toNat = n + (fc y s f).u.toNat := by omega
      have hb : 0 ≤ (fc y (fc y s f).u.toNat ((fc y s f).p.at f).toNat).u := by rw [h4]; omega
      have hg := uF_glued (x := x) hx cy hnm (t := (fc y s f).u.toNat) (f := ((fc y s f).p.at f).toNat) (by omega) (by omega) hb
      refine .inr ⟨by omega, by omega, h2, ?_, ?_, ?_⟩
      · rintro ⟨e1, e2⟩; exact h3 ⟨by omega, e2⟩
      · rw [hu, hg, h4]; simp only; omega
      · rw [hu, hg, h5]

theorem uni_reach_lo (hx : x.length = 20 * n) (cx : chk n x = 0) {a b : Nat} (ha : a < n) : Reach (Adj (uni x y n m) (n + m)) a b ↔ Reach (Adj x n) a b := by
  constructor
  · intro h
    have : b < n ∧ Reach (Adj x n) a b := by
      induction h with
      | refl => exact ⟨ha, .refl _⟩
      | tail _ e ih =>
        obtain ⟨hb, hr⟩ := ih
        obtain ⟨_, f, hf, hu⟩ := e
        rw [uF_lo hx hb hf] at hu
        have := (face_back cx hb hf (by omega)).1
        exact ⟨by omega, .tail hr ⟨hb, f, hf, hu⟩⟩
    exact this.2
  · intro h
    induction h with
    | refl => exact .refl _
    | tail _ e ih =>
      obtain ⟨hb, f, hf, hu⟩ := e
      exact .tail ih ⟨by omega, f, hf, by rw [uF_lo hx hb hf]; exact hu⟩
theorem uni_reach_stay (hx : x.length = 20 * n) (cx : chk n x = 0) {a b : Nat} (ha : a < n) (h : Reach (Adj (uni x y n m) (n + m)) a b) : b < n := by
  induction h with
  | refl => exact ha
  | tail _ e ih =>
    obtain ⟨_, f, hf, hu⟩ := e
    rw [uF_lo hx ih hf] at hu
    have := (face_back cx ih hf (by omega)).1
    omega
theorem uni_reach_hi (hx : x.length = 20 * n) (cy : chk m y = 0) (hnm : n + m ≤ 1000) {a b : Nat} (ha : a < m) (hb : b < m) : Reach (Adj (uni x y n m) (n + m)) (n + a) (n + b) ↔ Reach (Adj y m) a b := by
  constructor
  · intro h
    have : ∀ c, Reach (Adj (uni x y n m) (n + m)) (n + a) c → ∃ d, d < m ∧ c = n + d ∧ Reach (Adj y m) a d := by
      intro c h
      induction h with
      | refl => exact ⟨a, ha, rfl, .refl _⟩
      | tail _ e ih =>
        obtain ⟨d, hd, rfl, hr⟩ := ih
        obtain ⟨_, f, hf, hu⟩ := e
        by_cases h0 : 0 ≤ (fc y d f).u
        · rw [uF_glued hx cy hnm hd hf h0] at hu
          simp only at hu
          have := (face_back cy hd hf h0).1
          exact ⟨(fc y d f).u.toNat, by omega, by omega, .tail hr ⟨hd, f, hf, by omega⟩⟩
        · rw [uF_free hx hd hf h0] at hu; omega
    obtain ⟨d, _, e, hr⟩ := this _ h
    have : d = b := by omega
    subst this; exact hr
  · intro h
    induction h with
    | refl => exact .refl _
    | tail h' e ih =>
      rename_i b' c'
      obtain ⟨hd, f, hf, hu⟩ := e
      have h0 : 0 ≤ (fc y b' f).u := by rw [hu]; omega
      exact .tail (ih hd) ⟨by omega, f, hf, by rw [uF_glued hx cy hnm hd hf h0, hu]; simp only; omega⟩
end

/-- Parts are numbered by their first tetrahedra: alike in a longer gluing that begins alike. -/
theorem lab_alike {x z : List Int} {n N : Nat} (cx : chk n x = 0) (cz : chk N z = 0) (hn : n ≤ N) (h : ∀ v w, v < n → w < n → (Reach (Adj z N) v w ↔ Reach (Adj x n) v w)) : ∀ v, v < n → cel (partsL z N) v = cel (partsL x n) v := by
  have px := parts_spec cx n (Nat.le_refl _)
  have pz := parts_spec cz N (Nat.le_refl _)
  obtain ⟨r, hr⟩ := px.rep
  obtain ⟨q, hq⟩ := pz.rep
  have same : ∀ v w, v < n → w < n → (cel (partsL z N) v = cel (partsL z N) w ↔ cel (partsL x n) v = cel (partsL x n) w) := fun v w hv hw => by
    rw [parts_same cz (by omega) (by omega), parts_same cx hv hw, h v w hv hw]
  have mono : ∀ c d, c < (pst x n n).2 → d < (pst x n n).2 → r c < r d → c < d := by
    intro c d hc hd hl
    rcases Nat.lt_trichotomy c d with e | e | e
    · exact e
    · subst e; omega
    · have := (hr d hd).2.2.2 c e hc; omega
  have key : ∀ c, c < (pst x n n).2 → cel (partsL z N) (r c) = c := by
    intro c
    induction c using Nat.strongRecOn with
    | ind c ih =>
      intro hc
      obtain ⟨r1, r2, r3, _⟩ := hr c hc
      have hrz := pz.rng (r c) (by omega)
      have hdz := pz.done (r c) (by omega)
      obtain ⟨c', hc'⟩ : ∃ c' : Nat, cel (partsL z N) (r c) = c' := ⟨(cel (partsL z N) (r c)).toNat, by unfold partsL; omega⟩
      have hlt : c' < (pst z N N).2 := by unfold partsL at hc'; omega
      obtain ⟨q1, q2, q3, _⟩ := hq c' hlt
      have qle : q c' ≤ r c := q3 (r c) (by omega) hc'
      have qx : cel (partsL x n) (q c') = c := by
        have := (same (q c') (r c) (by omega) r1).1 (by rw [hc']; exact q2)
        rw [this]; exact r2
      have rle : r c ≤ q c' := r3 (q c') (by omega) qx
      have qr : q c' = r c := by omega
      rcases Nat.lt_trichotomy c' c with e | e | e
      · have h1 := ih c' e (by omega)
        have h2 := (same (r c') (r c) (hr c' (by omega)).1 r1).1 (by rw [h1, hc'])
        rw [show cel (partsL x n) (r c') = c' from (hr c' (by omega)).2.1, show cel (partsL x n) (r c) = c from r2] at h2
        omega
      · rw [hc', e]
      · have hcz : c < (pst z N N).2 := by omega
        have hqm := (hq c hcz).2.2.2 c' e hlt
        obtain ⟨p1, p2, p3, _⟩ := hq c hcz
        have hwn : q c < n := by omega
        have hwx := px.rng (q c) hwn
        have hwd := px.done (q c) hwn
        obtain ⟨d, hd⟩ : ∃ d : Nat, cel (partsL x n) (q c) = d := ⟨(cel (partsL x n) (q c)).toNat, by unfold partsL; omega⟩
        have hdl : d < (pst x n n).2 := by unfold partsL at hd; omega
        have hrd := (hr d hdl).2.2.1 (q c) hwn hd
        have hdc : d < c := mono d c hdl hc (by omega)
        have h1 := ih d hdc hdl
        have h2 := (same (r d) (q c) (hr d hdl).1 hwn).2 (by rw [hd]; exact (hr d hdl).2.1)
        rw [h1, show cel (partsL z N) (q c) = c from p2] at h2
        omega
  intro v hv
  have hvx := px.rng v hv
  have hvd := px.done v hv
  obtain ⟨c, hc⟩ : ∃ c : Nat, cel (partsL x n) v = c := ⟨(cel (partsL x n) v).toNat, by unfold partsL; omega⟩
  have hcl : c < (pst x n n).2 := by unfold partsL at hc; omega
  have := (same v (r c) hv (hr c hcl).1).2 (by rw [hc]; exact (hr c hcl).2.1.symm)
  rw [this, key c hcl, hc]

section
variable {x y : List Int} {n m : Nat}
theorem uni_lab_lo (hx : x.length = 20 * n) (cx : chk n x = 0) (cy : chk m y = 0) (hnm : n + m ≤ 1000) {v : Nat} (hv : v < n) : cel (partsL (uni x y n m) (n + m)) v = cel (partsL x n) v :=
  lab_alike cx (uni_chk hx cx cy hnm) (by omega) (fun v w hv hw => uni_reach_lo hx cx hv) v hv
/-- The parts of both. -/
theorem uni_parts (hx : x.length = 20 * n) (cx : chk n x = 0) (cy : chk m y = 0) (hnm : n + m ≤ 1000) : partsN (uni x y n m) (n + m) = partsN x n + partsN y m := by
  have cz := uni_chk hx cx cy hnm
  have px := parts_spec cx n (Nat.le_refl _)
  have py := parts_spec cy m (Nat.le_refl _)
  have pz := parts_spec cz (n + m) (Nat.le_refl _)
  obtain ⟨r, hr⟩ := px.rep
  obtain ⟨s, hs⟩ := py.rep
  obtain ⟨q, hq⟩ := pz.rep
  have labz : ∀ v, v < n + m → 0 ≤ cel (partsL (uni x y n m) (n + m)) v ∧ cel (partsL (uni x y n m) (n + m)) v < partsN (uni x y n m) (n + m) := fun v hv => by
    have := pz.rng v hv; have := pz.done v hv; unfold partsL partsN; omega
  have labx : ∀ v, v < n → 0 ≤ cel (partsL x n) v ∧ cel (partsL x n) v < partsN x n := fun v hv => by
    have := px.rng v hv; have := px.done v hv; unfold partsL partsN; omega
  have laby : ∀ v, v < m → 0 ≤ cel (partsL y m) v ∧ cel (partsL y m) v < partsN y m := fun v hv => by
    have := py.rng v hv; have := py.done v hv; unfold partsL partsN; omega
  have celm : ∀ (F : Nat → Int) (N c : Nat), c < N → cel ((List.range N).map F) c = F c := fun F N c hc => by
    conv => lhs; rw [cel]
    simp [List.getD_eq_getElem?_getD, hc]
  refine Nat.le_antisymm ?_ ?_
  · -- each part of both begins in one of them
    have := pigeon (partsN x n + partsN y m) ((List.range (partsN (uni x y n m) (n + m))).map fun c => if q c < n then cel (partsL x n) (q c) else partsN x n + cel (partsL y m) (q c - n)) (by
      intro j hj
      have hj' : j < partsN (uni x y n m) (n + m) := by simpa using hj
      rw [celm _ _ _ hj']
      have h1 := (hq j hj').1
      split
      · rename_i h; have := labx _ h; omega
      · have := laby (q j - n) (by omega); omega) (by
      intro j k hj hk he
      have hj' : j < partsN (uni x y n m) (n + m) := by simpa using hj
      have hk' : k < partsN (uni x y n m) (n + m) := by simpa using hk
      rw [celm _ _ _ hj', celm _ _ _ hk'] at he
      have a1 := (hq j hj').1
      have b1 := (hq k hk').1
      have a2 : cel (partsL (uni x y n m) (n + m)) (q j) = j := (hq j hj').2.1
      have b2 : cel (partsL (uni x y n m) (n + m)) (q k) = k := (hq k hk').2.1
      have fin : Reach (Adj (uni x y n m) (n + m)) (q j) (q k) → j = k := fun hR => by
        have := (parts_same cz a1 b1).2 hR
        rw [a2, b2] at this; omega
      split at he
      · rename_i h1
        split at he
        · rename_i h2
          exact fin ((uni_reach_lo hx cx h1).2 ((parts_same cx h1 h2).1 he))
        · have := labx _ h1; have := laby (q k - n) (by omega); omega
      · rename_i h1
        split at he
        · rename_i h2
          have := labx _ h2; have := laby (q j - n) (by omega); omega
        · rename_i h2
          have e1 := (parts_same cy (v := q j - n) (w := q k - n) (by omega) (by omega)).1 (by omega)
          have := (uni_reach_hi (x := x) hx cy hnm (a := q j - n) (b := q k - n) (by omega) (by omega)).2 e1
          rw [show n + (q j - n) = q j by omega, show n + (q k - n) = q k by omega] at this
          exact fin this)
    simpa using this
  · have := pigeon (partsN (uni x y n m) (n + m)) ((List.range (partsN x n + partsN y m)).map fun c => cel (partsL (uni x y n m) (n + m)) (if c < partsN x n then r c else n + s (c - partsN x n))) (by
      intro j hj
      have hj' : j < partsN x n + partsN y m := by simpa using hj
      rw [celm _ _ _ hj']
      apply labz
      split
      · rename_i h; have := (hr j h).1; omega
      · have := (hs (j - partsN x n) (by unfold partsN at *; omega)).1; omega) (by
      intro j k hj hk he
      have hj' : j < partsN x n + partsN y m := by simpa using hj
      have hk' : k < partsN x n + partsN y m := by simpa using hk
      rw [celm _ _ _ hj', celm _ _ _ hk'] at he
      by_cases h1 : j < partsN x n
      · rw [if_pos h1] at he
        have a1 := (hr j h1).1
        have a2 : cel (partsL x n) (r j) = j := (hr j h1).2.1
        by_cases h2 : k < partsN x n
        · rw [if_pos h2] at he
          have b1 := (hr k h2).1
          have b2 : cel (partsL x n) (r k) = k := (hr k h2).2.1
          have e := (uni_reach_lo (y := y) (m := m) hx cx a1).1 ((parts_same cz (by omega) (by omega)).1 he)
          have := (parts_same cx a1 b1).2 e
          rw [a2, b2] at this; omega
        · rw [if_neg h2] at he
          have b1 := (hs (k - partsN x n) (by unfold partsN at *; omega)).1
          have e := (parts_same cz (v := r j) (w := n + s (k - partsN x n)) (by omega) (by omega)).1 he
          have := uni_reach_stay hx cx a1 e
          omega
      · rw [if_neg h1] at he
        have a1 := (hs (j - partsN x n) (by unfold partsN at *; omega)).1
        have a2 : cel (partsL y m) (s (j - partsN x n)) = (j - partsN x n : Nat) := (hs (j - partsN x n) (by unfold partsN at *; omega)).2.1
        by_cases h2 : k < partsN x n
        · rw [if_pos h2] at he
          have b1 := (hr k h2).1
          have e := (parts_same cz (v := r k) (w := n + s (j - partsN x n)) (by omega) (by omega)).1 he.symm
          have := uni_reach_stay hx cx b1 e
          omega
        · rw [if_neg h2] at he
          have b1 := (hs (k - partsN x n) (by unfold partsN at *; omega)).1
          have b2 : cel (partsL y m) (s (k - partsN x n)) = (k - partsN x n : Nat) := (hs (k - partsN x n) (by unfold partsN at *; omega)).2.1
          have e := (uni_reach_hi (x := x) hx cy hnm a1 b1).1 ((parts_same cz (by omega) (by omega)).1 he)
          have := (parts_same cy a1 b1).2 e
          rw [a2, b2] at this; omega)
    simpa using this
/-- No tetrahedron of the second gluing is in a part of the first. -/
theorem uni_lab_hi (hx : x.length = 20 * n) (cx : chk n x = 0) (cy : chk m y = 0) (hnm : n + m ≤ 1000) {v k : Nat} (hv : v < m) (hk : k < partsN x n) : cel (partsL (uni x y n m) (n + m)) (n + v) ≠ k := by
  intro h
  obtain ⟨r, hr⟩ := (parts_spec cx n (Nat.le_refl _)).rep
  have r1 := (hr k hk).1
  have r2 : cel (partsL x n) (r k) = k := (hr k hk).2.1
  have e : cel (partsL (uni x y n m) (n + m)) (r k) = cel (partsL (uni x y n m) (n + m)) (n + v) := by rw [uni_lab_lo hx cx cy hnm r1, r2, h]
  have := uni_reach_stay hx cx r1 ((parts_same (uni_chk hx cx cy hnm) (by omega) (by omega)).1 e)
  omega
end
end Go.Ab

namespace Go.Ab

theorem app_row {a : List Int} {j i : Nat} {F : FF} (ha : a.length = 20 * j) : a ++ row F i = build (j + 1) fun t f => if t < j then fc a t f else F i f := by
  simp only [build]
  congr 1
  · conv => lhs; rw [← build_fc ha]
    exact build_congr fun t f ht hf => by rw [if_pos ht]
  · unfold row
    simp only [Nat.lt_irrefl, if_false]

section
variable {x l : List Int} {k : Int} {n : Nat}
theorem cntK_mono : ∀ {i j : Nat}, i ≤ j → cntK l k i ≤ cntK l k j
  | i, 0, h => by have : i = 0 := by omega
                  subst this; exact Nat.le_refl _
  | i, j + 1, h => by
    by_cases e : i = j + 1
    · subst e; exact Nat.le_refl _
    · have := cntK_mono (i := i) (j := j) (by omega)
      simp only [cntK]
      split <;> omega
theorem cntK_lt {v i : Nat} (hv : v < i) (hk : cel l v = k) : cntK l k v < cntK l k i := by
  have h1 : cntK l k (v + 1) = cntK l k v + 1 := by simp only [cntK, if_pos hk]
  have := cntK_mono (l := l) (k := k) (show v + 1 ≤ i by omega)
  omega
theorem cntK_inj {v w : Nat} (hv : cel l v = k) (hw : cel l w = k) (h : cntK l k v = cntK l k w) : v = w := by
  rcases Nat.lt_trichotomy v w with e | e | e
  · have := cntK_lt e hv; omega
  · exact e
  · have := cntK_lt e hw; omega
theorem cntK_has : ∀ {i j : Nat}, j < cntK l k i → ∃ v, v < i ∧ cel l v = k ∧ cntK l k v = j
  | 0, j, h => by simp [cntK] at h
  | i + 1, j, h => by
    simp only [cntK] at h
    split at h
    · rename_i hk
      by_cases e : j = cntK l k i
      · exact ⟨i, by omega, hk, e.symm⟩
      · obtain ⟨v, h1, h2, h3⟩ := cntK_has (i := i) (j := j) (by omega)
        exact ⟨v, by omega, h2, h3⟩
    · obtain ⟨v, h1, h2, h3⟩ := cntK_has (i := i) (j := j) h
      exact ⟨v, by omega, h2, h3⟩
theorem ptK_fc : ∀ {i v f : Nat}, v < i → cel l v = k → f < 4 → fc (ptK x l k i) (cntK l k v) f = pF x l k v f
  | 0, v, f, h, _, _ => by omega
  | i + 1, v, f, h, hk, hf => by
    simp only [ptK]
    by_cases hki : cel l i = k
    · rw [if_pos hki, app_row (ptK_len x l k i)]
      by_cases e : v = i
      · subst e
        rw [fc_build (by omega) hf, if_neg (by omega)]
      · have := cntK_lt (i := i) (v := v) (by omega) hk
        rw [fc_build (by omega) hf, if_pos this]
        exact ptK_fc (by omega) hk hf
    · rw [if_neg hki]
      exact ptK_fc (by by_cases e : v = i; · subst e; exact absurd hk hki
                       · omega) hk hf
theorem pF_glued {v f : Nat} (h : 0 ≤ (fc x v f).u) : pF x l k v f = ⟨(cntK l k (fc x v f).u.toNat : Int), (fc x v f).p⟩ := by
  unfold pF; rw [if_pos (by rw [ile_eq]; simpa using h)]
theorem pF_free {v f : Nat} (h : ¬ 0 ≤ (fc x v f).u) : pF x l k v f = fc x v f := by
  unfold pF; rw [if_neg (by rw [ile_eq]; simpa using h)]

/-- A neighbour is in the same part. -/
theorem part_nb (hc : chk n x = 0) {v f : Nat} (hv : v < n) (hf : f < 4) (h0 : 0 ≤ (fc x v f).u) : (fc x v f).u.toNat < n ∧ cel (partsL x n) (fc x v f).u.toNat = cel (partsL x n) v := by
  have hb := (face_back hc hv hf h0).1
  exact ⟨by omega, ((parts_same hc hv (by omega)).2 (.tail (.refl _) ⟨hv, f, hf, by omega⟩)).symm⟩
end

section
variable {x y : List Int} {n m : Nat} {k : Int}
theorem partK_len : (ptK x (partsL x n) k n).length = 20 * cntK (partsL x n) k n := ptK_len _ _ _ _
theorem partK_chk (hc : chk n x = 0) : chk (cntK (partsL x n) k n) (ptK x (partsL x n) k n) = 0 := by
  have hn := chk_n hc
  have hle := cntK_le (partsL x n) k n
  refine chk_of (by omega) fun j f hj hf => ?_
  obtain ⟨v, hv, hk, rfl⟩ := cntK_has hj
  unfold Good
  rw [ptK_fc hv hk hf]
  rcases chk_good hc hv hf with hg | ⟨h0, h1, h2, h3, h4, h5⟩
  · rw [pF_free (by have := hg.1; omega)]; exact .inl hg
  · have hr := face_back hc hv hf h0
    obtain ⟨n1, n2⟩ := part_nb hc hv hf h0
    rw [hk] at n2
    have hlt := cntK_lt (i := n) n1 n2
    rw [pF_glued h0]
    simp only [Int.toNat_natCast]
    have h40 : 0 ≤ (fc x (fc x v f).u.toNat ((fc x v f).p.at f).toNat).u := by rw [h4]; omega
    refine .inr ⟨by omega, by omega, h2, ?_, ?_, ?_⟩
    · rintro ⟨e1, e2⟩
      exact h3 ⟨by have := cntK_inj n2 hk (by omega); omega, e2⟩
    · rw [ptK_fc n1 n2 (by omega), pF_glued h40, h4, Int.toNat_natCast]
    · rw [ptK_fc n1 n2 (by omega), pF_glued h40, h5]

def RP (x : List Int) (n : Nat) (k : Int) : Nat → Nat → Pm → Prop := fun j v q => v < n ∧ cel (partsL x n) v = k ∧ cntK (partsL x n) k v = j ∧ q = idQ
theorem idQ_valid : idQ.valid = true := by decide +kernel
theorem idQ_at {f : Nat} (hf : f < 4) : (idQ.at (f : Nat)).toNat = f := by
  have h : f = 0 ∨ f = 1 ∨ f = 2 ∨ f = 3 := by omega
  rcases h with rfl | rfl | rfl | rfl <;> decide +kernel
theorem part_loc (hc : chk n x = 0) : Loc2 (ptK x (partsL x n) k n) (cntK (partsL x n) k n) x n (RP x n k) := by
  refine ⟨?_, ?_, ?_, ?_⟩
  · rintro j v q ⟨hv, hk, rfl, rfl⟩; exact ⟨cntK_lt hv hk, hv, idQ_valid⟩
  · rintro j v q f ⟨hv, hk, rfl, rfl⟩ hf
    rw [ptK_fc hv hk hf, idQ_at hf]
    rcases face_free hc hv hf with h | h
    · rw [pF_free (by omega)]; exact .inl ⟨h, h⟩
    · obtain ⟨n1, n2⟩ := part_nb hc hv hf h
      have hp := (face_back hc hv hf h).2.1
      rw [pF_glued h]
      refine .inr ⟨by simp only; omega, h, n1, n2.trans hk, by simp only [Int.toNat_natCast], ?_⟩
      unfold wantP
      rw [id_compose (inverse_valid hp), (compose_inv hp).1]
  · rintro j v q v' q' ⟨_, hk, h, rfl⟩ ⟨_, hk', h', rfl⟩; exact ⟨cntK_inj hk hk' (h.trans h'.symm), rfl⟩
  · rintro j j' v q q' ⟨_, _, h, _⟩ ⟨_, _, h', _⟩; exact h.symm.trans h'

/-- Two places side by side. -/
theorem loc_uni {a b z : List Int} {p q N : Nat} {R1 R2 : Nat → Nat → Pm → Prop} (ha : a.length = 20 * p) (ca : chk p a = 0) (cb : chk q b = 0) (hpq : p + q ≤ 1000) (L1 : Loc2 a p z N R1) (L2 : Loc2 b q z N R2) (hdis : ∀ t v r t' r', R1 t v r → R2 t' v r' → False) :
    Loc2 (uni a b p q) (p + q) z N (fun t v r => (t < p ∧ R1 t v r) ∨ (p ≤ t ∧ R2 (t - p) v r)) := by
  refine ⟨?_, ?_, ?_, ?_⟩
  · rintro t v r (⟨ht, h⟩ | ⟨ht, h⟩)
    · have := L1.lt h; exact ⟨by omega, this.2⟩
    · have := L2.lt h; exact ⟨by omega, this.2⟩
  · rintro t v r f (⟨ht, h⟩ | ⟨ht, h⟩) hf
    · rw [uF_lo ha ht hf]
      rcases L1.face h hf with g | ⟨g1, g2, g3⟩
      · exact .inl g
      · exact .inr ⟨g1, g2, .inl ⟨(L1.lt g3).1, g3⟩⟩
    · obtain ⟨s, rfl⟩ : ∃ s, t = p + s := ⟨t - p, by omega⟩
      rw [show p + s - p = s by omega] at h
      have hs := (L2.lt h).1
      rcases L2.face h hf with g | ⟨g1, g2, g3⟩
      · rw [uF_free ha hs hf (by omega)]; exact .inl g
      · rw [uF_glued ha cb hpq hs hf g1]
        refine .inr ⟨by simp only; omega, g2, .inr ⟨by simp only; omega, ?_⟩⟩
        simp only
        rw [show ((fc b s f).u + (p : Int)).toNat - p = (fc b s f).u.toNat by omega]
        exact g3
  · rintro t v r v' r' (⟨ht, h⟩ | ⟨ht, h⟩) (⟨ht', h'⟩ | ⟨ht', h'⟩)
    · exact L1.fn h h'
    · omega
    · omega
    · exact L2.fn h h'
  · rintro t t' v r r' (⟨ht, h⟩ | ⟨ht, h⟩) (⟨ht', h'⟩ | ⟨ht', h'⟩)
    · exact L1.inj h h'
    · exact (hdis _ _ _ _ _ h h').elim
    · exact (hdis _ _ _ _ _ h' h).elim
    · have := L2.inj h h'; omega

/-- The parts 0 .. i-1, side by side. -/
def ul (x : List Int) (n : Nat) : Nat → Nat
  | 0 => 0
  | i + 1 => ul x n i + cntK (partsL x n) (i : Int) n
def uL (x : List Int) (n : Nat) : Nat → List Int
  | 0 => []
  | i + 1 => uni (uL x n i) (ptK x (partsL x n) (i : Int) n) (ul x n i) (cntK (partsL x n) (i : Int) n)
def RU (x : List Int) (n : Nat) : Nat → Nat → Nat → Pm → Prop
  | 0 => fun _ _ _ => False
  | i + 1 => fun t v r => (t < ul x n i ∧ RU x n i t v r) ∨ (ul x n i ≤ t ∧ RP x n (i : Int) (t - ul x n i) v r)

theorem sumK_step (l : List Int) (i : Nat) : ∀ N : Nat, (List.range N).foldl (fun s (k : Nat) => s + cntK l (k : Int) (i + 1)) 0 = (List.range N).foldl (fun s (k : Nat) => s + cntK l (k : Int) i) 0 + if 0 ≤ cel l i ∧ cel l i < N then 1 else 0 := by
  intro N
  induction N with
  | zero => simp
  | succ N ih =>
    rw [List.range_succ, List.foldl_append, List.foldl_append, ih]
    simp only [List.foldl_cons, List.foldl_nil, cntK]
    by_cases h1 : cel l i = (N : Int)
    · rw [if_pos h1, if_neg (by omega), if_pos (by omega)]; omega
    · rw [if_neg h1]
      by_cases h2 : 0 ≤ cel l i ∧ cel l i < N
      · rw [if_pos h2, if_pos (by omega)]; omega
      · rw [if_neg h2, if_neg (by omega)]; omega
theorem ul_fold (x : List Int) (n : Nat) : ∀ N, ul x n N = (List.range N).foldl (fun s (k : Nat) => s + cntK (partsL x n) (k : Int) n) 0 := by
  intro N
  induction N with
  | zero => rfl
  | succ N ih => rw [List.range_succ, List.foldl_append, ← ih]; rfl
theorem ul_mono {i j : Nat} (h : i ≤ j) : ul x n i ≤ ul x n j := by
  induction j with
  | zero => have : i = 0 := by omega
            subst this; exact Nat.le_refl _
  | succ j ih =>
    by_cases e : i = j + 1
    · subst e; exact Nat.le_refl _
    · have := ih (by omega); simp only [ul]; omega
theorem ul_all (hc : chk n x = 0) : ul x n (partsN x n) = n := by
  rw [ul_fold]
  have hp := parts_spec hc n (Nat.le_refl _)
  have : ∀ i, i ≤ n → (List.range (partsN x n)).foldl (fun s (k : Nat) => s + cntK (partsL x n) (k : Int) i) 0 = i := by
    intro i
    induction i with
    | zero =>
      intro _
      have : ∀ N : Nat, (List.range N).foldl (fun s (k : Nat) => s + cntK (partsL x n) (k : Int) 0) 0 = 0 := by
        intro N
        induction N with
        | zero => rfl
        | succ N ih => rw [List.range_succ, List.foldl_append, ih]; rfl
      exact this _
    | succ i ih =>
      intro hi
      have h1 := hp.rng i hi
      have h2 := hp.done i hi
      rw [sumK_step, ih (by omega), if_pos (by unfold partsL partsN; omega)]
  exact this n (Nat.le_refl _)
theorem ul_le (hc : chk n x = 0) {i : Nat} (hi : i ≤ partsN x n) : ul x n i ≤ n := by
  have := ul_mono (x := x) (n := n) hi
  rw [ul_all hc] at this
  exact this
theorem uL_ok (hc : chk n x = 0) : ∀ i, i ≤ partsN x n → (uL x n i).length = 20 * ul x n i ∧ chk (ul x n i) (uL x n i) = 0 ∧ Loc2 (uL x n i) (ul x n i) x n (RU x n i) ∧ (∀ t v r, RU x n i t v r → cel (partsL x n) v < i) ∧ ∀ t, t < ul x n i → ∃ v r, RU x n i t v r := by
  intro i
  have hn := chk_n hc
  induction i with
  | zero =>
    intro _
    refine ⟨rfl, rfl, ⟨fun h => h.elim, fun h => h.elim, fun h => h.elim, fun h => h.elim⟩, fun t v r h => h.elim, fun t ht => by simp [ul] at ht⟩
  | succ i ih =>
    intro hi
    obtain ⟨h1, h2, h3, h4, h5⟩ := ih (by omega)
    have hle := ul_le hc hi
    simp only [ul] at hle
    have c2 := partK_chk (k := (i : Int)) hc
    refine ⟨uni_len h1, uni_chk h1 h2 c2 (by omega), loc_uni h1 h2 c2 (by omega) h3 (part_loc hc) ?_, ?_, ?_⟩
    · rintro t v r t' r' ha ⟨_, hk, _⟩
      have := h4 _ _ _ ha
      omega
    · rintro t v r (⟨_, ha⟩ | ⟨_, _, hk, _⟩)
      · have := h4 _ _ _ ha; omega
      · omega
    · intro t ht
      simp only [ul] at ht
      by_cases e : t < ul x n i
      · obtain ⟨v, r, h⟩ := h5 t e
        exact ⟨v, r, .inl ⟨e, h⟩⟩
      · obtain ⟨v, g1, g2, g3⟩ := cntK_has (l := partsL x n) (k := (i : Int)) (i := n) (j := t - ul x n i) (by omega)
        exact ⟨v, idQ, .inr ⟨by omega, g1, g2, g3, rfl⟩⟩

/-- A part of the first gluing is that part of both. -/
theorem uni_part (hx : x.length = 20 * n) (cx : chk n x = 0) (cy : chk m y = 0) (hnm : n + m ≤ 1000) {c : Nat} (hc : c < partsN x n) :
    cntK (partsL (uni x y n m) (n + m)) (c : Int) (n + m) = cntK (partsL x n) (c : Int) n ∧ ptK (uni x y n m) (partsL (uni x y n m) (n + m)) (c : Int) (n + m) = ptK x (partsL x n) (c : Int) n := by
  have lo : ∀ v, v < n → cel (partsL (uni x y n m) (n + m)) v = cel (partsL x n) v := fun v hv => uni_lab_lo hx cx cy hnm hv
  have hi : ∀ v, v < m → cel (partsL (uni x y n m) (n + m)) (n + v) ≠ c := fun v hv => uni_lab_hi hx cx cy hnm hv hc
  have k1 : ∀ i, i ≤ n → cntK (partsL (uni x y n m) (n + m)) (c : Int) i = cntK (partsL x n) (c : Int) i := by
    intro i
    induction i with
    | zero => intro _; rfl
    | succ i ih => intro h; simp only [cntK, lo i h, ih (by omega)]
  have p1 : ∀ i, i ≤ n → ptK (uni x y n m) (partsL (uni x y n m) (n + m)) (c : Int) i = ptK x (partsL x n) (c : Int) i := by
    intro i
    induction i with
    | zero => intro _; rfl
    | succ i ih =>
      intro h
      have hrow : row (pF (uni x y n m) (partsL (uni x y n m) (n + m)) (c : Int)) i = row (pF x (partsL x n) (c : Int)) i := by
        have hf : ∀ f, f < 4 → pF (uni x y n m) (partsL (uni x y n m) (n + m)) (c : Int) i f = pF x (partsL x n) (c : Int) i f := by
          intro f hf
          by_cases h0 : 0 ≤ (fc x i f).u
          · have hb := (face_back cx h hf h0).1
            rw [pF_glued (by rw [uF_lo hx h hf]; exact h0), pF_glued h0, uF_lo hx h hf, k1 _ (by omega)]
          · rw [pF_free (by rw [uF_lo hx h hf]; exact h0), pF_free h0, uF_lo hx h hf]
        unfold row
        rw [hf 0 (by omega), hf 1 (by omega), hf 2 (by omega), hf 3 (by omega)]
      simp only [ptK, lo i h, ih (by omega), hrow]
  have tail : ∀ j, j ≤ m → cntK (partsL (uni x y n m) (n + m)) (c : Int) (n + j) = cntK (partsL x n) (c : Int) n ∧ ptK (uni x y n m) (partsL (uni x y n m) (n + m)) (c : Int) (n + j) = ptK x (partsL x n) (c : Int) n := by
    intro j
    induction j with
    | zero => intro _; exact ⟨k1 n (Nat.le_refl _), p1 n (Nat.le_refl _)⟩
    | succ j ih =>
      intro h
      have e := hi j (by omega)
      obtain ⟨i1, i2⟩ := ih (by omega)
      rw [show n + (j + 1) = n + j + 1 by omega]
      simp only [cntK, ptK, if_neg e]
      exact ⟨i1, i2⟩
  exact tail m (Nat.le_refl _)
end
end Go.Ab
