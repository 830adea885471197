/- A judgement over abstract heaps, its rules for code, regions and calls. Conditions: none beyond the given model and program. -/
import Derived.Test.YtnimgapjllhccaaGreatDoorAbA
import Derived.TacticsIn
import Derived.MapKept
import Derived.OrdersIn
namespace Go.Ab

def Wf (r : Option Nat) : Fence := { fn := fun _ => True, depth := none, alive := false, round := r }
theorem wf_room (r : Option Nat) (n : Nat) : (Wf r).room n := fun _ h => by simp [Wf] at h

inductive AX where
  | normal
  | exit (id : Nat)
  | ret
  | panic (v : Value)

def XRel (m : Map) : AX → Exit → Prop
  | .normal, .normal => True
  | .exit i, .exit j => i = j
  | .ret, .ret => True
  | .panic v, .panic [p] => p.recovered = false ∧ p.goexit = false ∧ VRel m v p.v
  | _, _ => False

theorem XRel.mono {m m' : Map} (hm : Map.le m m') {x : AX} {y : Exit} (h : XRel m x y) : XRel m' x y := by
  unfold XRel at *
  split at h <;> simp_all
  exact h.2.2.mono hm

/-- What holds behind a piece of code. -/
def Post (bs : Bs) (n n0 B0 : Nat) (m : Map) (h : Heap) (w : World) (Q : AX → Env → Heap → Prop) (x : Exit) (a' : Act) (w' : World) : Prop :=
  ∃ ax m' e' h', Q ax e' h' ∧ XRel m' ax x ∧ Tr n0 B0 m h w m' h' w' ∧ ERel m' e' a' ∧ a'.tmps.size = n ∧ DOk bs B0 a'.defers w'

def awp (r : Option Nat) (bs : Bs) (P : Program) (n n0 : Nat) (c : Code) (Q : AX → Env → Heap → Prop) (e : Env) (h : Heap) : Prop :=
  ∀ (B0 : Nat) (m : Map) (a : Act) (w : World), St n0 B0 m h w → ERel m e a → a.tmps.size = n → DOk bs B0 a.defers w → c.wpIn (Wf r) 0 P (Post bs n n0 B0 m h w Q) a w

section
variable {r : Option Nat} {bs : Bs} {P : Program} {n n0 B0 : Nat} {Q Q' : AX → Env → Heap → Prop} {e e2 : Env} {h h2 : Heap} {m : Map} {w : World}

theorem awp_mono {c : Code} (hw : awp r bs P n n0 c Q e h) (hq : ∀ x e h, Q x e h → Q' x e h) : awp r bs P n n0 c Q' e h :=
  fun B0 m a w s he h1 h2 => wpIn_mono (hw B0 m a w s he h1 h2) fun _ _ _ ⟨ax, m', e', h', q, rest⟩ => ⟨ax, m', e', h', hq _ _ _ q, rest⟩

theorem awp_skip (hq : Q .normal e h) : awp r bs P n n0 .skip Q e h :=
  fun _ m _ _ s he h1 h2 => wpIn_skip ⟨.normal, m, e, h, hq, trivial, Tr.refl s, he, h1, h2⟩
theorem awp_exit {id : Nat} (hq : Q (.exit id) e h) : awp r bs P n n0 (.exit id) Q e h :=
  fun _ m _ _ s he h1 h2 => wpIn_exit ⟨.exit id, m, e, h, hq, rfl, Tr.refl s, he, h1, h2⟩
theorem awp_ret (hq : Q .ret e h) : awp r bs P n n0 .ret Q e h :=
  fun _ m _ _ s he h1 h2 => wpIn_ret ⟨.ret, m, e, h, hq, trivial, Tr.refl s, he, h1, h2⟩
theorem awp_label {l : Nat} (hq : Q .normal e h) : awp r bs P n n0 (.label l) Q e h :=
  fun _ m _ _ s he h1 h2 => wpIn_label ⟨.normal, m, e, h, hq, trivial, Tr.refl s, he, h1, h2⟩

/-- What is to hold behind the first of two pieces. -/
def thenQ (K : Env → Heap → Prop) (Q : AX → Env → Heap → Prop) : AX → Env → Heap → Prop
  | .normal, e, h => K e h
  | x, e, h => Q x e h

theorem post_trans {m' : Map} {h' : Heap} {w' : World} (t : Tr n0 B0 m h w m' h' w') {x : Exit} {a : Act} {w'' : World} (p : Post bs n n0 B0 m' h' w' Q x a w'') : Post bs n n0 B0 m h w Q x a w'' :=
  let ⟨ax, m'', e'', h'', q, xr, tr, rest⟩ := p; ⟨ax, m'', e'', h'', q, xr, t.trans tr, rest⟩

theorem awp_seq {c d : Code} (hw : awp r bs P n n0 c (thenQ (awp r bs P n n0 d Q) Q) e h) : awp r bs P n n0 (.seq c d) Q e h := by
  intro B0 m a w s he h1 h2
  refine wpIn_seq (wpIn_mono (hw B0 m a w s he h1 h2) ?_)
  rintro x a' w' ⟨ax, m', e', h', q, xr, tr, he', s1, s2⟩
  cases ax <;> cases x <;> simp only [XRel] at xr <;> simp only [Exit.then, thenQ] at q ⊢
  · exact wpIn_mono (q B0 m' a' w' tr.st he' s1 s2) fun _ _ _ p => post_trans tr p
  · subst xr; exact ⟨_, m', e', h', q, rfl, tr, he', s1, s2⟩
  · exact ⟨_, m', e', h', q, trivial, tr, he', s1, s2⟩
  · exact ⟨_, m', e', h', q, xr, tr, he', s1, s2⟩

theorem awp_cond {c : Operand} {x y : Code} {t : Bool} (hc : eo e c = some (.bool t)) (hw : awp r bs P n n0 (if t then x else y) Q e h) : awp r bs P n n0 (.cond c x y) Q e h :=
  fun B0 m a w s he h1 h2 => wpIn_cond ((he.op hc).plain_eq rfl) (hw B0 m a w s he h1 h2)

theorem awp_if {c : Operand} {x y : Code} {p : Prop} [Decidable p] (hc : eo e c = some (.bool (decide p))) (h1 : p → awp r bs P n n0 x Q e h) (h2 : ¬ p → awp r bs P n n0 y Q e h) : awp r bs P n n0 (.cond c x y) Q e h := by
  refine awp_cond hc ?_
  by_cases hp : p
  · simpa [hp] using h1 hp
  · simpa [hp] using h2 hp

theorem awp_ifb {c : Operand} {x y : Code} {b : Bool} (hc : eo e c = some (.bool b)) (h1 : b = true → awp r bs P n n0 x Q e h) (h2 : b = false → awp r bs P n n0 y Q e h) : awp r bs P n n0 (.cond c x y) Q e h := by
  refine awp_cond hc ?_
  cases b
  · simpa using h2 rfl
  · simpa using h1 rfl

def blockQ (id : Nat) (Q : AX → Env → Heap → Prop) : AX → Env → Heap → Prop
  | .exit j, e, h => if j = id then Q .normal e h else Q (.exit j) e h
  | x, e, h => Q x e h

theorem awp_block {id : Nat} {c : Code} (hw : awp r bs P n n0 c (blockQ id Q) e h) : awp r bs P n n0 (.block id c) Q e h := by
  intro B0 m a w s he h1 h2
  refine wpIn_block (wpIn_mono (hw B0 m a w s he h1 h2) ?_)
  rintro x a' w' ⟨ax, m', e', h', q, xr, tr, he', s1, s2⟩
  cases ax <;> cases x <;> simp only [XRel] at xr <;> simp only [Exit.inBlock, blockQ] at q ⊢
  · exact ⟨_, m', e', h', q, trivial, tr, he', s1, s2⟩
  · subst xr
    split at q
    · rw [if_pos (by assumption)]; exact ⟨_, m', e', h', q, trivial, tr, he', s1, s2⟩
    · rw [if_neg (by assumption)]; exact ⟨_, m', e', h', q, rfl, tr, he', s1, s2⟩
  · exact ⟨_, m', e', h', q, trivial, tr, he', s1, s2⟩
  · exact ⟨_, m', e', h', q, xr, tr, he', s1, s2⟩

/-- One state is seen as another one: fewer blocks, other numbers, fewer places of the frame. -/
def Ref (n0 : Nat) (e2 : Env) (h2 : Heap) (e : Env) (h : Heap) : Prop :=
  ∀ (B0 : Nat) (m : Map) (a : Act) (w : World), St n0 B0 m h w → ERel m e a → ∃ m2, Tr n0 B0 m h w m2 h2 w ∧ ERel m2 e2 a

theorem Ref.refl : Ref n0 e h e h := fun _ m _ _ s he => ⟨m, Tr.refl s, he⟩
theorem Ref.trans {e3 : Env} {h3 : Heap} (a : Ref n0 e2 h2 e h) (b : Ref n0 e3 h3 e2 h2) : Ref n0 e3 h3 e h := fun B0 m ac w s he =>
  let ⟨m2, t2, e2⟩ := a B0 m ac w s he; let ⟨m3, t3, e3⟩ := b B0 m2 ac w t2.st e2; ⟨m3, t2.trans t3, e3⟩

theorem awp_ref {c : Code} (hr : Ref n0 e2 h2 e h) (hw : awp r bs P n n0 c Q e2 h2) : awp r bs P n n0 c Q e h := fun B0 m a w s he h1 h3 =>
  let ⟨m2, t2, he2⟩ := hr B0 m a w s he; wpIn_mono (hw B0 m2 a w t2.st he2 h1 h3) fun _ _ _ p => post_trans t2 p

theorem least_of (p : Nat → Prop) (hp : ∃ k, p k) : ∃ k, p k ∧ ∀ j, p j → k ≤ j := by
  obtain ⟨k, hk⟩ := hp
  induction k using Nat.strongRecOn with
  | _ k ih =>
    by_cases hx : ∃ j, j < k ∧ p j
    · obtain ⟨j, hj, hpj⟩ := hx; exact ih j hj hpj
    · exact ⟨k, hk, fun j hj => Nat.le_of_not_lt fun hlt => hx ⟨j, hlt, hj⟩⟩

open Classical in
theorem wpIn_loop_ghost {F : Fence} {k : Nat} {α : Type} {c : Code} {Qx : Exit → Act → World → Prop} (J : α → Act → World → Prop) (dec : α → Nat) {a : Act} {w : World} (x0 : α) (h0 : J x0 a w)
    (round : ∀ x a w, J x a w → c.wpIn F k P (Exit.then (fun a' w' => ∃ y, J y a' w' ∧ dec y < dec x) Qx) a w) : (Code.loop c).wpIn F k P Qx a w := by
  refine wpIn_loop (fun a w => ∃ x, J x a w) (fun a w => if hx : ∃ d, ∃ x, J x a w ∧ dec x = d then Classical.choose (least_of _ hx) else 0) ⟨x0, h0⟩ ?_
  rintro a w ⟨x1, hx1⟩
  have hx : ∃ d, ∃ x, J x a w ∧ dec x = d := ⟨_, x1, hx1, rfl⟩
  obtain ⟨⟨x, hj, hd⟩, hmin⟩ := Classical.choose_spec (least_of _ hx)
  refine wpIn_mono (round x a w hj) ?_
  intro ex a' w' hp
  cases ex <;> simp only [Exit.then] at hp ⊢ <;> try exact hp
  obtain ⟨y, hy, hlt⟩ := hp
  refine ⟨⟨y, hy⟩, ?_⟩
  have hy' : ∃ d, ∃ x, J x a' w' ∧ dec x = d := ⟨_, y, hy, rfl⟩
  rw [dif_pos hx, dif_pos hy', ← hd]
  exact Nat.lt_of_le_of_lt ((Classical.choose_spec (least_of _ hy')).2 _ ⟨y, hy, rfl⟩) hlt

/-- A loop, its states told by a ghost. -/
theorem awp_loop {α : Type} {c : Code} (S : α → Env) (H : α → Heap) (I : α → Prop) (dec : α → Nat) (x0 : α) (hI : I x0) (h0 : Ref n0 (S x0) (H x0) e h)
    (round : ∀ x, I x → awp r bs P n n0 c (thenQ (fun e' h' => ∃ y, I y ∧ dec y < dec x ∧ Ref n0 (S y) (H y) e' h') Q) (S x) (H x)) : awp r bs P n n0 (.loop c) Q e h := by
  intro B0 m a w s he h1 h2
  obtain ⟨m0, t0, he0⟩ := h0 B0 m a w s he
  refine wpIn_loop_ghost (fun x a' w' => ∃ m', I x ∧ Tr n0 B0 m h w m' (H x) w' ∧ ERel m' (S x) a' ∧ a'.tmps.size = n ∧ DOk bs B0 a'.defers w') dec x0 ⟨m0, hI, t0, he0, h1, h2⟩ ?_
  rintro x a1 w1 ⟨m1, hI1, t1, he1, s1, s2⟩
  refine wpIn_mono (round x hI1 B0 m1 a1 w1 t1.st he1 s1 s2) ?_
  rintro ex a' w' ⟨ax, m', e', h', q, xr, tr, he', s3, s4⟩
  cases ax <;> cases ex <;> simp only [XRel] at xr <;> simp only [Exit.then, thenQ] at q ⊢
  · obtain ⟨y, hy, hlt, hr⟩ := q
    obtain ⟨m2, t2, he2⟩ := hr B0 m' a' w' tr.st he'
    exact ⟨y, ⟨m2, hy, t1.trans (tr.trans t2), he2, s3, s4⟩, hlt⟩
  · subst xr; exact ⟨_, m', e', h', q, rfl, t1.trans tr, he', s3, s4⟩
  · exact ⟨_, m', e', h', q, trivial, t1.trans tr, he', s3, s4⟩
  · exact ⟨_, m', e', h', q, xr, t1.trans tr, he', s3, s4⟩
end
end Go.Ab

namespace Go.Ab

section
variable {r : Option Nat} {P : Program} {n n0 B0 : Nat} {Q Q' : AX → Env → Heap → Prop} {e e2 : Env} {h h2 hs hs' H : Heap} {m m' : Map} {w w' : World} {s : List (Option Nat)}

theorem subL_get {s : List (Option Nat)} : ∀ {l l' : List Value}, subL s l l' → l.length = l'.length ∧ ∀ (j : Nat) (v u : Value), l[j]? = some v → l'[j]? = some u → sub s v u := by
  intro l
  induction l with
  | nil => intro l' hh; simp only [subL] at hh; subst hh; simp
  | cons x q ih =>
    intro l' hh
    simp only [subL] at hh
    obtain ⟨v', r', rfl, h1, h2⟩ := hh
    obtain ⟨i1, i2⟩ := ih h2
    refine ⟨by simp [i1], ?_⟩
    intro j v u ha hb
    cases j with
    | zero => simp at ha hb; subst ha; subst hb; exact h1
    | succ j => exact i2 j v u (by simpa using ha) (by simpa using hb)

/-- A choice of blocks shows one heap in another one. -/
structure Emb (s : List (Option Nat)) (h2 h : Heap) : Prop where
  len : s.length = h2.length
  blk : ∀ i b2, hblk h2 i = some b2 → (∃ j b, s[i]? = some (some j) ∧ hblk h j = some b ∧ subL s b2.cells b.cells ∧ (b2.own = true → b.own = true)) ∨ (s[i]? = some none ∧ b2.cells = [])
  inj : ∀ i j k b2 b2', i ≠ j → hblk h2 i = some b2 → b2.own = true → hblk h2 j = some b2' → s[i]? = some (some k) → s[j]? = some (some k) → False

theorem mloc_pickNone {i : Nat} (hi : s[i]? = some none) : mloc (pickMap s m) i = none := by simp [mloc, pickMap, hi]
theorem mloc_pickOut {i : Nat} (hi : s[i]? = none) : mloc (pickMap s m) i = none := by simp [mloc, pickMap, hi]

theorem mloc_pick_some {i : Nat} {L : Loc} (hL : mloc (pickMap s m) i = some L) : ∃ j, s[i]? = some (some j) ∧ mloc m j = some L := by
  cases hi : s[i]? with
  | none => rw [mloc_pickOut hi] at hL; cases hL
  | some x =>
    cases x with
    | none => rw [mloc_pickNone hi] at hL; cases hL
    | some j => rw [mloc_pickMap hi] at hL; exact ⟨j, rfl, hL⟩

theorem MRel.ren {f : Nat → Nat} {cells : List Value} {es : List MapEntry} (hm : ∀ i L, mloc m i = some L → mloc m' (f i) = some L) (h : MRel m cells es) : MRel m' (renL f cells) es := by
  refine ⟨by rw [renL_length]; exact h.1, fun j e he => ?_⟩
  obtain ⟨v, h1, h2, h3, h4⟩ := h.2 j e he
  refine ⟨Ab.ren f v, ?_, ?_, h3, h4.ren hm⟩
  · rw [renL_eq, List.getElem?_map, h1, Option.map_some]
    congr 1
    generalize e.key = k at h3
    cases k <;> first | rfl | cases h3
  · rw [renL_eq, List.getElem?_map, h2, Option.map_some]

theorem sub_key {v u : Value} (h : sub s v u) (hk : keyOk u = true) : v = u := by
  cases v with
  | pointer a => cases a with
    | none => simp only [sub] at h; exact h.symm
    | some a => simp only [sub] at h; obtain ⟨j, _, rfl⟩ := h; cases hk
  | slice a n z => cases a with
    | none => simp only [sub] at h; exact h.symm
    | some a =>
      simp only [sub] at h
      rcases h with ⟨_, _, rfl⟩ | ⟨j, _, rfl⟩ <;> cases hk
  | map a => cases a with
    | none => simp only [sub] at h; exact h.symm
    | some a => simp only [sub] at h; obtain ⟨j, _, rfl⟩ := h; cases hk
  | func g xs ys => simp only [sub] at h; obtain ⟨_, _, rfl, _⟩ := h; cases hk
  | iface t v => simp only [sub] at h; obtain ⟨_, rfl, _⟩ := h; cases hk
  | agg cs => simp only [sub] at h; obtain ⟨_, rfl, _⟩ := h; cases hk
  | tuple cs => simp only [sub] at h; obtain ⟨_, rfl, _⟩ := h; cases hk
  | _ => simp only [sub] at h; exact h.symm

theorem MRel.sub {cells cells2 : List Value} {es : List MapEntry} (hs : subL s cells2 cells) (h : MRel m cells es) : MRel (pickMap s m) cells2 es := by
  obtain ⟨l1, l2⟩ := subL_get hs
  refine ⟨by rw [l1]; exact h.1, fun j e he => ?_⟩
  obtain ⟨v, h1, h2, h3, h4⟩ := h.2 j e he
  have k1 := (List.getElem?_eq_some_iff.1 h1).1
  have k2 := (List.getElem?_eq_some_iff.1 h2).1
  refine ⟨cells2[2 * j + 1]'(by omega), ?_, List.getElem?_eq_getElem _, h3, VRel.of_sub _ _ _ (l2 _ _ _ (List.getElem?_eq_getElem _) h2) h4⟩
  have := sub_key (l2 (2 * j) (cells2[2 * j]'(by omega)) _ (List.getElem?_eq_getElem _) h1) h3
  rw [← this]; exact List.getElem?_eq_getElem _

theorem Emb.rel (E : Emb s h2 h) (R : Rel m h w) : Rel (pickMap s m) h2 w := by
  refine ⟨by simp [pickMap, E.len], ?_, ?_, ?_⟩
  · intro i b2 L hb hL
    obtain ⟨j, hj, hL'⟩ := mloc_pick_some hL
    rcases E.blk i b2 hb with ⟨j', b, hj', hbb, hsub, hown⟩ | ⟨hn, _⟩
    · rw [hj] at hj'; cases hj'
      refine ⟨fun hp => let ⟨es, c, hw, hr⟩ := (R.blk j b L hbb hL').tab hp; ⟨es, c, hw, hr.sub hsub⟩, fun hp => ?_⟩
      obtain ⟨cs, el, fz, hw, hc, ho⟩ := (R.blk j b L hbb hL').row hp
      obtain ⟨l1, l2⟩ := subL_get hsub
      refine ⟨cs, el, fz, hw, ?_, ?_⟩
      · intro q v hq
        have hlt : q < b.cells.length := by rw [← l1]; exact (List.getElem?_eq_some_iff.1 hq).1
        obtain ⟨v', h1, h2⟩ := hc q _ (List.getElem?_eq_getElem hlt)
        exact ⟨v', h1, VRel.of_sub _ _ _ (l2 q v _ hq (List.getElem?_eq_getElem hlt)) h2⟩
      · intro hbo; rw [l1]; exact ho (hown hbo)
    · rw [hj] at hn; cases hn
  · intro i b2 hb hL
    rcases E.blk i b2 hb with ⟨j', b, hj', hbb, hsub, _⟩ | ⟨_, hc⟩
    · rw [mloc_pickMap hj'] at hL
      have hd := R.dummy j' b hbb hL
      have := (subL_get hsub).1
      rw [hd] at this
      exact List.length_eq_zero_iff.1 (by simpa using this)
    · exact hc
  · intro i j b2 b2' L L' hij hb ho hb' hL hL'
    obtain ⟨p, hp, hLp⟩ := mloc_pick_some hL
    obtain ⟨q, hq, hLq⟩ := mloc_pick_some hL'
    rcases E.blk i b2 hb with ⟨p', b, hp', hbb, _, hown⟩ | ⟨hn, _⟩
    · rcases E.blk j b2' hb' with ⟨q', b', hq', hbb', _, _⟩ | ⟨hn, _⟩
      · rw [hp] at hp'; cases hp'
        rw [hq] at hq'; cases hq'
        have hpq : p ≠ q := fun hh => by subst hh; exact E.inj i j p b2 b2' hij hb ho hb' hp hq
        exact R.dis p q b b' L L' hpq hbb (hown ho) hbb' hLp hLq
      · rw [hq] at hn; cases hn
    · rw [hp] at hn; cases hn

def envSub (s : List (Option Nat)) (e : Env) : List (Nat × Value) → Prop
  | [] => True
  | (t, v) :: q => (∃ u, e t = some u ∧ sub s v u) ∧ envSub s e q

def envOf : List (Nat × Value) → Env
  | [] => fun _ => none
  | (t, v) :: q => put (envOf q) (some t) v

theorem envSub_of {l : List (Nat × Value)} (hl : envSub s e l) : ∀ t v, envOf l t = some v → ∃ u, e t = some u ∧ sub s v u := by
  induction l with
  | nil => intro t v hv; simp [envOf] at hv
  | cons p q ih =>
    obtain ⟨k, x⟩ := p
    intro t v hv
    simp only [envSub] at hl
    simp only [envOf, put] at hv
    split at hv
    · cases hv; subst_vars; exact hl.1
    · exact ih hl.2 t v hv

/-- The first n0 places of a choice stay as they are, the others are no anchors. -/
def anchored (n0 : Nat) (s : List (Option Nat)) : Prop := n0 ≤ s.length ∧ (∀ i, i < n0 → s[i]? = some (some i)) ∧ ∀ i j, n0 ≤ i → s[i]? = some (some j) → n0 ≤ j

theorem pick_take (ha : anchored n0 s) (hm : n0 ≤ m.length) : (pickMap s m).take n0 = m.take n0 := by
  apply List.ext_getElem?
  intro i
  simp only [List.getElem?_take]
  split
  · rename_i hi
    have h1 : i < m.length := by omega
    simp only [pickMap, List.getElem?_map, ha.2.1 i hi, Option.map_some, Option.bind_some, mloc]
    rw [List.getElem?_eq_getElem h1]
    rfl
  · rfl

theorem Ref.of_emb {l : List (Nat × Value)} (E : Emb s h2 h) (ha : anchored n0 s) (hf : flags n0 h2 = flags n0 h) (hl : envSub s e l) : Ref n0 (envOf l) h2 e h := by
  intro B0 m a w st he
  refine ⟨pickMap s m, ⟨⟨E.rel st.rel, st.base, ?_, by rw [← E.len]; exact ha.1⟩, pick_take ha st.n0m, hf, Fr.refl _ _ _⟩, ?_⟩
  · intro i b L hi hb hL
    obtain ⟨j, hj, hLj⟩ := mloc_pick_some hL
    rcases E.blk i b hb with ⟨j', b', hj', hbb, _, _⟩ | ⟨hn, _⟩
    · rw [hj] at hj'; cases hj'
      exact st.fresh j b' L (ha.2.2 i j hi hj) hbb hLj
    · rw [hj] at hn; cases hn
  · intro t v hv
    obtain ⟨u, hu, hs⟩ := envSub_of hl t v hv
    exact VRel.of_sub v u _ hs (he t u hu)

inductive AOut where
  | ret (v : Value)
  | panic (v : Value)

def OutRel (m : Map) : AOut → Ending → Prop
  | .ret v, .returned v' => VRel m v v'
  | .panic v, .panicked [p] => p.recovered = false ∧ p.goexit = false ∧ VRel m v p.v
  | _, _ => False

def enters (P : Program) (f : FuncId) : Prop := ∃ fn, P.funcs[f]? = some fn ∧ (fn.name == "runtime.NumGoroutine") = false ∧ fn.body.isNone = false

/-- THE CONTRACT OF A FUNCTION: over every heap that shows this one. -/
def Sum (P : Program) (f : FuncId) (args : List Value) (h : Heap) (R : AOut → Heap → Prop) : Prop :=
  enters P f ∧ ∀ (m : Map) (w : World) (args' : List Value), Rel m h w → VRels m args args' →
    Calls P f args'.toArray w fun en w' => ∃ m' out h', R out h' ∧ OutRel m' out en ∧ Tr h.length w.heap.size m h w m' h' w'

theorem Sum.mono {f : FuncId} {args : List Value} {R R' : AOut → Heap → Prop} (hs : Sum P f args h R) (hr : ∀ o h', R o h' → R' o h') : Sum P f args h R' :=
  ⟨hs.1, fun m w args' rel hv => (hs.2 m w args' rel hv).mono fun _ _ ⟨m', out, h', q, rest⟩ => ⟨m', out, h', hr _ _ q, rest⟩⟩

def allRo : Heap → Bool
  | [] => true
  | b :: q => !isOwn b && allRo q

theorem flags_ro : ∀ {hs : Heap} (_ : allRo hs = true) (k i : Nat), (flags k hs)[i]? ≠ some true := by
  intro hs
  induction hs with
  | nil => intro _ k i; simp [flags]
  | cons b q ih =>
    intro ha k i
    simp only [allRo, Bool.and_eq_true, Bool.not_eq_true'] at ha
    cases k with
    | zero => simp [flags]
    | succ k =>
      cases i with
      | zero => simp [flags, ha.1]
      | succ i => simpa [flags] using ih ha.2 k i

def backF (s : List (Option Nat)) (N : Nat) (i : Nat) : Nat := if i < s.length then (match s[i]? with | some (some j) => j | _ => 0) else N + (i - s.length)

def renB (f : Nat → Nat) : Option Blk → Option Blk
  | some b => some ⟨renL f b.cells, b.own⟩
  | none => none

def grownH (s : List (Option Nat)) (H hs' : Heap) : Heap := H ++ (hs'.drop s.length).map (renB (backF s H.length))

theorem hblk_map_ren {f : Nat → Nat} {l : Heap} {i : Nat} {b : Blk} (hb : hblk (l.map (renB f)) i = some b) : ∃ c, hblk l i = some c ∧ b = ⟨renL f c.cells, c.own⟩ := by
  unfold hblk at hb
  rw [List.getElem?_map] at hb
  cases hx : l[i]? with
  | none => simp [hx] at hb
  | some x =>
    cases x with
    | none => simp [hx, renB] at hb
    | some c => simp [hx, renB] at hb; exact ⟨c, by simp [hblk, hx], hb.symm⟩

/-- What a call over a part of the heap, all of it read alone, is to the whole heap. -/
theorem call_step (st : St n0 B0 m H w) (E : Emb s hs H) (hro : allRo hs = true) (tr : Tr hs.length w.heap.size (pickMap s m) hs w m' hs' w') :
    Tr n0 B0 m H w (m ++ m'.drop s.length) (grownH s H hs') w' ∧ (∀ i L, mloc m' i = some L → mloc (m ++ m'.drop s.length) (backF s H.length i) = some L) := by
  have hlen := st.rel.len
  have hsl := E.len
  have hA : ∀ k, ¬ AnchOwn hs.length (pickMap s m) hs k := by
    rintro k ⟨i, L, h1, _⟩
    exact flags_ro hro _ _ h1
  have hkeep : ∀ k, k < w.heap.size → w'.heap[k]? = w.heap[k]? := fun k hk => tr.fr.keep k hk (hA k)
  have hm'len := tr.st.rel.len
  have hanch := tr.st.anch
  have hle : Map.le m (m ++ m'.drop s.length) := mloc_append _ _
  have hmapF : ∀ i L, mloc m' i = some L → mloc (m ++ m'.drop s.length) (backF s H.length i) = some L := by
    intro i L hL
    unfold backF
    split
    · rename_i hi
      have hpre : mloc m' i = mloc (pickMap s m) i := by
        have h1 : m'.take hs.length = (pickMap s m).take hs.length := tr.pre
        have h2 : (m'.take hs.length)[i]? = ((pickMap s m).take hs.length)[i]? := by rw [h1]
        rw [List.getElem?_take, List.getElem?_take, if_pos (by omega), if_pos (by omega)] at h2
        simp [mloc, h2]
      rw [hpre] at hL
      obtain ⟨j, hj, hLj⟩ := mloc_pick_some hL
      rw [hj]
      exact hle _ _ hLj
    · rename_i hi
      have hi2 : i < m'.length := by
        rcases Nat.lt_or_ge i m'.length with h1 | h1
        · exact h1
        · rw [mloc_ge h1] at hL; cases hL
      have : (m ++ m'.drop s.length)[H.length + (i - s.length)]? = m'[i]? := by
        rw [List.getElem?_append_right (by omega), List.getElem?_drop]
        congr 1; omega
      simpa [mloc, this] using hL
  -- the blocks of the grown heap
  have hcase : ∀ {i : Nat} {b : Blk}, hblk (grownH s H hs') i = some b → (i < H.length ∧ hblk H i = some b) ∨ (H.length ≤ i ∧ ∃ c, hblk hs' (s.length + (i - H.length)) = some c ∧ b = ⟨renL (backF s H.length) c.cells, c.own⟩) := by
    intro i b hb
    rcases Nat.lt_or_ge i H.length with h1 | h1
    · left; exact ⟨h1, by rwa [grownH, hblk_append_left h1] at hb⟩
    · right
      refine ⟨h1, ?_⟩
      have : hblk ((hs'.drop s.length).map (renB (backF s H.length))) (i - H.length) = some b := by
        rw [← hb]; simp [hblk, grownH, List.getElem?_append_right h1]
      obtain ⟨c, hc, he⟩ := hblk_map_ren this
      exact ⟨c, by rw [← hc]; simp [hblk, List.getElem?_drop], he⟩
  have hlocNew : ∀ {i : Nat}, H.length ≤ i → mloc (m ++ m'.drop s.length) i = mloc m' (s.length + (i - H.length)) := by
    intro i hi
    simp only [mloc]
    rw [List.getElem?_append_right (by omega), List.getElem?_drop, hlen]
  refine ⟨⟨⟨⟨?_, ?_, ?_, ?_⟩, ?_, ?_, ?_⟩, ?_, ?_, ?_⟩, hmapF⟩
  · simp [grownH, hlen, hm'len]
  · intro i b L hb hL
    rcases hcase hb with ⟨hi, hb'⟩ | ⟨hi, c, hc, rfl⟩
    · rw [mloc_append_left (by omega)] at hL
      have rr := st.rel.blk i b L hb' hL
      exact rr.mono hle (hkeep _ rr.lt)
    · rw [hlocNew hi] at hL
      refine ⟨fun hp => let ⟨es, c0, hw, hr⟩ := (tr.st.rel.blk _ c L hc hL).tab hp; ⟨es, c0, hw, hr.ren hmapF⟩, fun hp => ?_⟩
      obtain ⟨cs, el, fz, hw, hcc, ho⟩ := (tr.st.rel.blk _ c L hc hL).row hp
      refine ⟨cs, el, fz, hw, ?_, by simpa [renL_length] using ho⟩
      intro j v hj
      simp only [renL_eq, List.getElem?_map] at hj
      obtain ⟨u, hu, rfl⟩ := Option.map_eq_some_iff.1 hj
      obtain ⟨v', h1, h2⟩ := hcc j u hu
      exact ⟨v', h1, h2.ren hmapF⟩
  · intro i b hb hL
    rcases hcase hb with ⟨hi, hb'⟩ | ⟨hi, c, hc, rfl⟩
    · rw [mloc_append_left (by omega)] at hL; exact st.rel.dummy i b hb' hL
    · rw [hlocNew hi] at hL
      have := tr.st.rel.dummy _ c hc hL
      simp [this, renL]
  · intro i j b b' L L' hij hb ho hb' hL hL'
    rcases hcase hb with ⟨hi, hbb⟩ | ⟨hi, c, hc, rfl⟩
    · rw [mloc_append_left (by omega)] at hL
      rcases hcase hb' with ⟨hj, hbb'⟩ | ⟨hj, c', hc', rfl⟩
      · rw [mloc_append_left (by omega)] at hL'
        exact st.rel.dis i j b b' L L' hij hbb ho hbb' hL hL'
      · rw [hlocNew hj] at hL'
        have h1 := (st.rel.blk i b L hbb hL).lt
        have h2 := tr.st.fresh _ c' L' (by omega) hc' hL'
        omega
    · rw [hlocNew hi] at hL
      rcases hcase hb' with ⟨hj, hbb'⟩ | ⟨hj, c', hc', rfl⟩
      · rw [mloc_append_left (by omega)] at hL'
        have h1 := (st.rel.blk j b' L' hbb' hL').lt
        have h2 := tr.st.fresh _ c L (by omega) hc hL
        omega
      · rw [hlocNew hj] at hL'
        exact tr.st.rel.dis _ _ c c' L L' (by omega) hc ho hc' hL hL'
  · exact Nat.le_trans st.base tr.fr.size
  · intro i b L hn hb hL
    rcases hcase hb with ⟨hi, hb'⟩ | ⟨hi, c, hc, rfl⟩
    · rw [mloc_append_left (by omega)] at hL; exact st.fresh i b L hn hb' hL
    · rw [hlocNew hi] at hL
      have := tr.st.fresh _ c L (by omega) hc hL
      have := st.base
      omega
  · have := st.anch; simp [grownH]; omega
  · exact take_append_of_le st.n0m
  · exact flags_append st.anch
  · exact ⟨tr.fr.os, tr.fr.tape, tr.fr.output, tr.fr.size, fun k hk _ => hkeep k (by have := st.base; omega), tr.fr.oth⟩


theorem flags_take {n0 n1 : Nat} {h : Heap} (h1 : n0 ≤ n1) : flags n0 h = (flags n1 h).take n0 := by
  simp [flags, List.map_take, List.take_take, Nat.min_eq_left h1]

theorem flags_get {n1 i : Nat} {h : Heap} (hi : (flags n1 h)[i]? = some true) : i < n1 ∧ ∃ b, hblk h i = some b ∧ b.own = true := by
  simp only [flags, List.getElem?_map, List.getElem?_take] at hi
  split at hi
  · rename_i hlt
    refine ⟨hlt, ?_⟩
    cases hx : h[i]? with
    | none => simp [hx] at hi
    | some x =>
      cases x with
      | none => simp [hx, isOwn] at hi
      | some b => simp [hx, isOwn] at hi; exact ⟨b, by simp [hblk, hx], hi⟩
  · simp at hi

/-- A transition that had more anchors and a nearer base. -/
theorem Tr.lower {n1 B1 : Nat} {m' : Map} {h' : Heap} (st : St n0 B0 m h w) (hn : n0 ≤ n1) (hB : B0 ≤ B1) (hl : ∀ i, n0 ≤ i → i < n1 → (hblk h' i).isSome = true → (hblk h i).isSome = true) (tr : Tr n1 B1 m h w m' h' w') : Tr n0 B0 m h w m' h' w' := by
  have hloc : ∀ i, i < n1 → mloc m' i = mloc m i := by
    intro i hi
    have : (m'.take n1)[i]? = (m.take n1)[i]? := by rw [tr.pre]
    simp only [List.getElem?_take, if_pos hi] at this
    simp [mloc, this]
  refine ⟨⟨tr.st.rel, Nat.le_trans hB tr.st.base, ?_, Nat.le_trans hn tr.st.anch⟩, ?_, ?_, tr.fr.mono hB ?_⟩
  · intro i b L hi hb hL
    rcases Nat.lt_or_ge i n1 with h1 | h1
    · have h2 := hl i hi h1 (by rw [hb]; rfl)
      rw [hloc i h1] at hL
      obtain ⟨c, hc⟩ := Option.isSome_iff_exists.1 h2
      exact st.fresh i c L hi hc hL
    · exact Nat.le_trans hB (tr.st.fresh i b L h1 hb hL)
  · have := congrArg (List.take n0) tr.pre
    simpa [List.take_take, Nat.min_eq_left hn] using this
  · rw [flags_take hn, flags_take hn, tr.flag]
  · rintro k hk ⟨i, L, h1, h2, h3⟩
    obtain ⟨hi, b, hb, ho⟩ := flags_get h1
    have hL : mloc m i = some L := by simpa [mloc, List.getElem?_take, hi] using h2
    rcases Nat.lt_or_ge i n0 with h4 | h4
    · refine ⟨i, L, ?_, ?_, h3⟩
      · rw [flags_take hn, List.getElem?_take, if_pos h4]; exact h1
      · simpa [mloc, List.getElem?_take, h4] using hL
    · have := st.fresh i b L h4 hb hL
      omega

/-- Blocks that were dead stay dead. -/
def deadOk (h h' : Heap) : Prop := ∀ i, i < h.length → (hblk h' i).isSome = true → (hblk h i).isSome = true

theorem Tr.inner {m' : Map} {h' : Heap} (st : St n0 B0 m h w) (hd : deadOk h h') (tr : Tr h.length w.heap.size m h w m' h' w') : Tr n0 B0 m h w m' h' w' ∧ Map.le m m' := by
  refine ⟨tr.lower st st.anch st.base fun i _ hi => hd i hi, ?_⟩
  intro i L hL
  have hi : i < m.length := by
    rcases Nat.lt_or_ge i m.length with h1 | h1
    · exact h1
    · rw [mloc_ge h1] at hL; cases hL
  have : (m'.take h.length)[i]? = (m.take h.length)[i]? := by rw [tr.pre]
  have hlen := st.rel.len
  simp only [List.getElem?_take, if_pos (show i < h.length by omega)] at this
  simpa [mloc, this] using hL

/-- More blocks are held fast. -/
theorem awp_anchor {r : Option Nat} {bs : Bs} {n1 : Nat} {c : Code} (h1 : n0 ≤ n1) (h2 : n1 ≤ h.length) (hl : ∀ i, n0 ≤ i → i < n1 → (hblk h i).isSome = true) (hw : awp r bs P n n1 c Q e h) : awp r bs P n n0 c Q e h := by
  intro B0 m a w st he s1 s2
  have st1 : St n1 B0 m h w := ⟨st.rel, st.base, fun i b L hi hb hL => st.fresh i b L (by omega) hb hL, h2⟩
  refine wpIn_mono (hw B0 m a w st1 he s1 s2) ?_
  rintro x a' w' ⟨ax, m', e', h', q, xr, tr, rest⟩
  exact ⟨ax, m', e', h', q, xr, tr.lower st h1 (Nat.le_refl _) (fun i hi hi2 _ => hl i hi hi2), rest⟩

/-- The same blocks, to be read alone. -/
def roB : Option Blk → Option Blk
  | some b => some ⟨b.cells, false⟩
  | none => none
def roH (h : Heap) : Heap := h.map roB

theorem roH_length : (roH h).length = h.length := by simp [roH]
theorem hblk_ro {i : Nat} {b : Blk} (hb : hblk (roH h) i = some b) : ∃ c, hblk h i = some c ∧ b = ⟨c.cells, false⟩ := by
  unfold hblk roH at *
  rw [List.getElem?_map] at hb
  cases hx : h[i]? with
  | none => simp [hx] at hb
  | some x =>
    cases x with
    | none => simp [hx, roB] at hb
    | some c => simp [hx, roB] at hb; exact ⟨c, by simp, hb.symm⟩

theorem Rel.ro (R : Rel m h w) : Rel m (roH h) w := by
  refine ⟨by rw [roH_length]; exact R.len, ?_, ?_, ?_⟩
  · intro i b L hb hL
    obtain ⟨c, hc, rfl⟩ := hblk_ro hb
    refine ⟨(R.blk i c L hc hL).tab, fun hp => ?_⟩
    obtain ⟨cs, el, fz, hw, h1, _⟩ := (R.blk i c L hc hL).row hp
    exact ⟨cs, el, fz, hw, h1, fun hh => by cases hh⟩
  · intro i b hb hL
    obtain ⟨c, hc, rfl⟩ := hblk_ro hb
    exact R.dummy i c hc hL
  · intro i j b b' L L' _ hb ho
    obtain ⟨c, hc, rfl⟩ := hblk_ro hb
    cases ho

theorem flags_roH (k : Nat) : ∀ i : Nat, (flags k (roH h))[i]? ≠ some true := by
  intro i hi
  obtain ⟨_, b, hb, ho⟩ := flags_get hi
  obtain ⟨c, _, rfl⟩ := hblk_ro hb
  cases ho

/-- A call over all of the heap, read alone. -/
theorem Tr.innerRo {m' : Map} {hs' : Heap} (st : St n0 B0 m H w) (tr : Tr H.length w.heap.size m (roH H) w m' hs' w') : Tr n0 B0 m H w m' (H ++ hs'.drop H.length) w' ∧ Map.le m m' := by
  have hlen := st.rel.len
  have hlen' := tr.st.rel.len
  have hanch := tr.st.anch
  have hkeep : ∀ k, k < w.heap.size → w'.heap[k]? = w.heap[k]? := fun k hk => tr.fr.keep k hk fun ⟨i, _, h1, _⟩ => flags_roH _ i h1
  have hloc : ∀ i, i < H.length → mloc m' i = mloc m i := by
    intro i hi
    have : (m'.take H.length)[i]? = (m.take H.length)[i]? := by rw [tr.pre]
    simp only [List.getElem?_take, if_pos hi] at this
    simp [mloc, this]
  have hle : Map.le m m' := by
    intro i L hL
    have hi : i < m.length := by
      rcases Nat.lt_or_ge i m.length with h1 | h1
      · exact h1
      · rw [mloc_ge h1] at hL; cases hL
    rw [hloc i (by omega)]; exact hL
  have hcase : ∀ {i : Nat} {b : Blk}, hblk (H ++ hs'.drop H.length) i = some b → (i < H.length ∧ hblk H i = some b) ∨ (H.length ≤ i ∧ hblk hs' i = some b) := by
    intro i b hb
    rcases Nat.lt_or_ge i H.length with h1 | h1
    · left; exact ⟨h1, by rwa [hblk_append_left h1] at hb⟩
    · right
      refine ⟨h1, ?_⟩
      rw [← hb]; simp only [hblk]; rw [List.getElem?_append_right h1, List.getElem?_drop, show H.length + (i - H.length) = i by omega]
  refine ⟨⟨⟨⟨by simp; omega, ?_, ?_, ?_⟩, Nat.le_trans st.base tr.fr.size, ?_, by have := st.anch; simp; omega⟩, ?_, flags_append st.anch, ⟨tr.fr.os, tr.fr.tape, tr.fr.output, tr.fr.size, fun k hk _ => hkeep k (by have := st.base; omega), tr.fr.oth⟩⟩, hle⟩
  · intro i b L hb hL
    rcases hcase hb with ⟨hi, hb'⟩ | ⟨hi, hb'⟩
    · rw [hloc i hi] at hL
      have rr := st.rel.blk i b L hb' hL
      exact rr.mono hle (hkeep _ rr.lt)
    · exact tr.st.rel.blk i b L hb' hL
  · intro i b hb hL
    rcases hcase hb with ⟨hi, hb'⟩ | ⟨hi, hb'⟩
    · rw [hloc i hi] at hL; exact st.rel.dummy i b hb' hL
    · exact tr.st.rel.dummy i b hb' hL
  · intro i j b b' L L' hij hb ho hb' hL hL'
    rcases hcase hb with ⟨hi, h1⟩ | ⟨hi, h1⟩
    · rw [hloc i hi] at hL
      rcases hcase hb' with ⟨hj, h2⟩ | ⟨hj, h2⟩
      · rw [hloc j hj] at hL'
        exact st.rel.dis i j b b' L L' hij h1 ho h2 hL hL'
      · have a1 := (st.rel.blk i b L h1 hL).lt
        have a2 := tr.st.fresh j b' L' hj h2 hL'
        omega
    · rcases hcase hb' with ⟨hj, h2⟩ | ⟨hj, h2⟩
      · rw [hloc j hj] at hL'
        have a1 := (st.rel.blk j b' L' h2 hL').lt
        have a2 := tr.st.fresh i b L hi h1 hL
        omega
      · exact tr.st.rel.dis i j b b' L L' hij h1 ho h2 hL hL'
  · intro i b L hn hb hL
    rcases hcase hb with ⟨hi, hb'⟩ | ⟨hi, hb'⟩
    · rw [hloc i hi] at hL; exact st.fresh i b L hn hb' hL
    · have := tr.st.fresh i b L hi hb' hL
      have := st.base
      omega
  · have h1 := congrArg (List.take n0) tr.pre
    have h2 := st.anch
    simpa [List.take_take, Nat.min_eq_left h2] using h1

/-- The same where nothing of the new blocks is kept. -/
theorem Tr.innerNone {m' : Map} {hs' : Heap} (st : St n0 B0 m H w) (tr : Tr H.length w.heap.size m (roH H) w m' hs' w') : Tr n0 B0 m H w m H w' := by
  have hkeep : ∀ k, k < w.heap.size → w'.heap[k]? = w.heap[k]? := fun k hk => tr.fr.keep k hk fun ⟨i, _, h1, _⟩ => flags_roH _ i h1
  refine ⟨⟨⟨st.rel.len, ?_, st.rel.dummy, st.rel.dis⟩, Nat.le_trans st.base tr.fr.size, st.fresh, st.anch⟩, rfl, rfl, ⟨tr.fr.os, tr.fr.tape, tr.fr.output, tr.fr.size, fun k hk _ => hkeep k (by have := st.base; omega), tr.fr.oth⟩⟩
  intro i b L hb hL
  have rr := st.rel.blk i b L hb hL
  exact rr.mono (fun _ _ x => x) (hkeep _ rr.lt)
end
end Go.Ab

namespace Go.Ab
open Go.MapKept

/-- The keys of a list of keys and values in turn. -/
def KeysAre (d : TypeDesc) (cells : List Value) : Prop := ∀ (j : Nat) (k : Value), cells[2 * j]? = some k → IsKey d k

/-- A new entry. -/
def MPut (P : Program) (t : TypeId) (i : Nat) (kv yv : Value) (h h' : Heap) : Prop :=
  ∃ kt et d b, P.underlying t = some (.map kt et) ∧ P.underlying kt = some d ∧ hblk h i = some b ∧ b.own = true ∧ KeysAre d b.cells ∧ IsKey d kv ∧
    (∀ j : Nat, b.cells[2 * j]? ≠ some kv) ∧ h' = h.set i (some ⟨b.cells ++ [kv, yv], b.own⟩)
/-- An entry that is there. -/
def MGet (P : Program) (t : TypeId) (i : Nat) (kv : Value) (h : Heap) (v : Value) : Prop :=
  ∃ kt et d b, P.underlying t = some (.map kt et) ∧ P.underlying kt = some d ∧ hblk h i = some b ∧ KeysAre d b.cells ∧ IsKey d kv ∧
    (∃ j : Nat, b.cells[2 * j]? = some kv) ∧ ∀ j : Nat, b.cells[2 * j]? = some kv → b.cells[2 * j + 1]? = some v
/-- How many entries. -/
def MLen (P : Program) (t : TypeId) (i : Nat) (h : Heap) (n : Int) : Prop :=
  ∃ kt et b, P.underlying t = some (.map kt et) ∧ hblk h i = some b ∧ n = ((b.cells.length / 2 : Nat) : Int)

/-- An operation on a map. -/
inductive MOp (P : Program) (e : Env) (h : Heap) : Op → Value → Heap → Prop
  | make (t : TypeId) : MOp P e h (.makeMap t none) (.map (some h.length)) (h ++ [some ⟨[], true⟩])
  | put {t : TypeId} {x k y : Operand} {i : Nat} {kv yv : Value} {h' : Heap} (hx : eo e x = some (.map (some i))) (hk : eo e k = some kv) (hy : eo e y = some yv) (hp : MPut P t i kv yv h h') :
      MOp P e h (.mapUpdate t x k y) undef h'
  | get {t : TypeId} {x k : Operand} {i : Nat} {kv v : Value} (hx : eo e x = some (.map (some i))) (hk : eo e k = some kv) (hg : MGet P t i kv h v) : MOp P e h (.lookup t x k false) v h
  | len {t : TypeId} {x : Operand} {i : Nat} {n : Int} (hx : eo e x = some (.map (some i))) (hl : MLen P t i h n) :
      MOp P e h (.call { callee := .builtin .len, args := #[x], argTypes := #[t] }) (.int .i64 n) h

section
variable {P : Program} {n0 B0 : Nat} {m : Map} {h h' : Heap} {w w' : World} {e : Env} {a : Act} {v : Value}

theorem VRel.map_inv {i : Nat} {v' : Value} (hv : VRel m (.map (some i)) v') : ∃ L, mloc m i = some L ∧ L.mp = true ∧ v' = .map (some L.b) := by
  cases hv with
  | mapRef i L hL hp => exact ⟨L, hL, hp, rfl⟩

theorem isKey_ok {d : TypeDesc} {k : Value} (h : IsKey d k) : keyOk k = true := by
  unfold IsKey at h
  split at h <;> first | rfl | cases h

theorem keyOk_plain {k : Value} (h : keyOk k = true) : plain k = true := by
  cases k <;> first | rfl | cases h

/-- A new block that nobody sees. -/
theorem Tr.newObj (s : St n0 B0 m h w) (o : Obj) : Tr n0 B0 m h w m h (w.alloc o) := by
  have hold : ∀ k, k < w.heap.size → (w.alloc o).heap[k]? = w.heap[k]? := fun k hk => ab_alloc_old _ _ _ hk
  refine ⟨⟨⟨s.rel.len, fun i b L hb hL => ?_, s.rel.dummy, s.rel.dis⟩, by have := s.base; simp; omega, s.fresh, s.anch⟩, rfl, rfl, ⟨rfl, rfl, rfl, by simp, fun k hk _ => hold k (by have := s.base; omega), fun k o hk _ => (hold k (Array.getElem?_eq_some_iff.1 hk).1).trans hk⟩⟩
  have r := s.rel.blk i b L hb hL
  exact r.mono (fun _ _ x => x) (hold _ r.lt)

/-- An owned block turns. -/
theorem Tr.swap (s : St n0 B0 m h w) {i : Nat} {b b' : Blk} {L : Loc} (hb : hblk h i = some b) (ho : b.own = true) (ho' : b'.own = b.own) (hL : mloc m i = some L) (hr : BRel m b' L w')
    (h3 : ∀ k, k ≠ L.b → w'.heap[k]? = w.heap[k]?) (hfix : ∀ o, w.heap[L.b]? = some o → fixed o = false) (h4 : w'.heap.size = w.heap.size) (h5 : w'.os = w.os) (h6 : w'.tape = w.tape) (h7 : w'.output = w.output) :
    Tr n0 B0 m h w m (h.set i (some b')) w' := by
  have hi := hblk_lt hb
  refine ⟨⟨⟨by simp [s.rel.len], ?_, ?_, ?_⟩, by rw [h4]; exact s.base, ?_, by simpa using s.anch⟩, rfl, flags_set hb ho', ⟨h5, h6, h7, by omega, ?_, fun k o hk hc => (h3 k fun e => by subst e; rw [hfix o hk] at hc; cases hc).trans hk⟩⟩
  · intro j c L' hc hL'
    by_cases hij : i = j
    · subst hij
      rw [hblk_set_same hi] at hc; cases hc
      rw [hL] at hL'; cases hL'
      exact hr
    · rw [hblk_set_other hij] at hc
      have r := s.rel.blk j c L' hc hL'
      exact r.mono (fun _ _ x => x) (h3 _ (Ne.symm (s.rel.dis i j b c L L' hij hb ho hc hL hL')))
  · intro j c hc hL'
    by_cases hij : i = j
    · subst hij; rw [hL] at hL'; cases hL'
    · rw [hblk_set_other hij] at hc; exact s.rel.dummy j c hc hL'
  · intro p q c c' Lp Lq hpq hc hco hc' hLp hLq
    by_cases hip : i = p
    · subst hip
      rw [hblk_set_other hpq] at hc'
      exact s.rel.dis i q b c' Lp Lq hpq hb ho hc' hLp hLq
    · rw [hblk_set_other hip] at hc
      by_cases hiq : i = q
      · subst hiq
        exact s.rel.dis p i c b Lp Lq hpq hc hco hb hLp hLq
      · rw [hblk_set_other hiq] at hc'
        exact s.rel.dis p q c c' Lp Lq hpq hc hco hc' hLp hLq
  · intro j c L' hn hc hL'
    by_cases hij : i = j
    · subst hij; exact s.fresh i b L' hn hb hL'
    · rw [hblk_set_other hij] at hc; exact s.fresh j c L' hn hc hL'
  · intro k hk hA
    refine h3 k fun e => ?_
    subst e
    rcases Nat.lt_or_ge i n0 with hlt | hge
    · exact hA (anchOwn_mk hlt hb ho hL)
    · have := s.fresh i b L hge hb hL; omega

theorem keys_of {d : TypeDesc} {cells : List Value} {es : List MapEntry} (hr : MRel m cells es) (hk : KeysAre d cells) : ∀ x ∈ es, IsKey d x.key := by
  intro x hx
  obtain ⟨j, hj⟩ := List.mem_iff_getElem?.1 hx
  obtain ⟨v, h1, _⟩ := hr.2 j x hj
  exact hk j _ h1

theorem MOp.sound (s : St n0 B0 m h w) (he : ERel m e a) (o : Oper) (hop : MOp P e h o.op v h') : OpOut n0 B0 m h w ((execOp a.eval o).run P w) v h' := by
  generalize hoo : o.op = op at hop
  cases hop with
  | make t =>
    have t1 := Tr.newObj s (.map #[] 0)
    have hnew : BRel m ⟨[], true⟩ ⟨w.heap.size, 0, 0, true⟩ (w.alloc (.map #[] 0)) := ⟨fun _ => ⟨#[], 0, heap_alloc_new _ _, rfl, by simp⟩, fun hp => by cases hp⟩
    have t2 := t1.st.attach hnew (fun i b L' hb hL => by have := (s.rel.blk i b L' hb hL).lt; simp only; omega) s.base
    refine ⟨_, .map (some w.heap.size), _, .inl ?_, ?_, mloc_append _ _, t1.trans t2⟩
    · simp [execOp, hoo, Instr.makeMap]
    · exact .mapRef _ _ (mloc_append_new s.rel.len.symm) rfl
  | put hx hk hy hp =>
    rename_i t x k y i kv yv
    obtain ⟨kt, et, d, b, hm, hd, hb, ho, hks, hkv, hn, rfl⟩ := hp
    obtain ⟨L, hL, hmp, ex⟩ := (he.op hx).map_inv
    have ek := (he.op hk).plain_eq (keyOk_plain (isKey_ok hkv))
    obtain ⟨es, clock, hw, hr⟩ := (s.rel.blk i b L hb hL).tab hmp
    have hes := keys_of hr hks
    rcases findNow_spec hkv es.toList 0 hes with ⟨h1, h2⟩ | ⟨j, en, h1, h2, h3⟩
    · have hrun : (execOp a.eval o).run P w = .ok .skip { w with heap := w.heap.setIfInBounds L.b (.map (es.push { key := kv, val := a.eval y, born := clock }) (clock + 1)) } := by
        simp [execOp, hoo, Instr.mapUpdate, ex, ek, r_underlying hm, MapKept.run_getObj_map hw, run_checkKey hd hkv, run_findKey hd h1, MapKept.run_setObj_map _ hw, Result.andThen]
      have hset := heap_set (o' := .map (es.push { key := kv, val := a.eval y, born := clock }) (clock + 1)) hw
      refine ⟨m, undef, _, .inr ⟨hrun, rfl⟩, undef_rel _, fun _ _ x => x, Tr.swap s hb ho rfl hL ⟨fun _ => ⟨_, _, hset.1, ?_, ?_⟩, fun hp => by rw [hmp] at hp; cases hp⟩ hset.2 (fun o ho => by rw [hw] at ho; cases ho; rfl) (by simp) rfl rfl rfl⟩
      · have := hr.1
        simp only [List.length_append, List.length_cons, List.length_nil, Array.toList_push, this]
        omega
      · intro j e' he'
        rw [Array.toList_push] at he'
        have hl := hr.1
        by_cases hj : j < es.toList.length
        · rw [List.getElem?_append_left hj] at he'
          obtain ⟨u, k1, k2, k3, k4⟩ := hr.2 j e' he'
          exact ⟨u, by rw [List.getElem?_append_left (by omega)]; exact k1, by rw [List.getElem?_append_left (by omega)]; exact k2, k3, k4⟩
        · rw [List.getElem?_append_right (by omega)] at he'
          have hj2 : j = es.toList.length := by
            have := (List.getElem?_eq_some_iff.1 he').1
            simp only [List.length_cons, List.length_nil] at this; omega
          subst hj2
          simp only [Nat.sub_self, List.getElem?_cons_zero, Option.some.injEq] at he'
          subst he'
          refine ⟨yv, ?_, ?_, isKey_ok hkv, he.op hy⟩
          · rw [List.getElem?_append_right (by omega), hl]; simp
          · rw [List.getElem?_append_right (by omega), hl]; simp
    · obtain ⟨u, k1, _⟩ := hr.2 j en h2
      rw [h3] at k1
      exact absurd k1 (hn j)
  | get hx hk hg =>
    rename_i t x k i kv
    obtain ⟨kt, et, d, b, hm, hd, hb, hks, hkv, ⟨j0, hj0⟩, hall⟩ := hg
    obtain ⟨L, hL, hmp, ex⟩ := (he.op hx).map_inv
    have ek := (he.op hk).plain_eq (keyOk_plain (isKey_ok hkv))
    obtain ⟨es, clock, hw, hr⟩ := (s.rel.blk i b L hb hL).tab hmp
    have hes := keys_of hr hks
    rcases findNow_spec hkv es.toList 0 hes with ⟨h1, h2⟩ | ⟨j, en, h1, h2, h3⟩
    · exfalso
      have hl := hr.1
      have hlt := (List.getElem?_eq_some_iff.1 hj0).1
      have hj : j0 < es.toList.length := by omega
      obtain ⟨u, k1, _⟩ := hr.2 j0 _ (List.getElem?_eq_getElem hj)
      rw [hj0] at k1
      exact h2 _ (List.getElem_mem hj) (Option.some.inj k1).symm
    · obtain ⟨u, k1, k2, _, k4⟩ := hr.2 j en h2
      rw [h3] at k1
      have := hall j k1
      rw [k2] at this
      cases this
      exact OpOut.same s (by simp [execOp, hoo, Instr.lookup, ex, ek, r_underlying hm, MapKept.run_getObj_map hw, run_checkKey hd hkv, run_findKey hd h1, Result.andThen]; done) k4
  | len hx hl =>
    rename_i t x i n
    obtain ⟨kt, et, b, hm, hb, rfl⟩ := hl
    obtain ⟨L, hL, hmp, ex⟩ := (he.op hx).map_inv
    obtain ⟨es, clock, hw, hr⟩ := (s.rel.blk i b L hb hL).tab hmp
    have hn : b.cells.length / 2 = es.size := by have := hr.1; simp only [Array.length_toList] at this; omega
    rw [hn]
    exact OpOut.same s (by simp [execOp, hoo, resolve, invoke, builtin, Builtin.len_, ex, r_underlying hm, MapKept.run_getObj_map hw, goInt, Result.andThen]; done) (.int _ _)
end
end Go.Ab

namespace Go.Ab

def renOut (f : Nat → Nat) : AOut → AOut
  | .ret v => .ret (ren f v)
  | .panic v => .panic (ren f v)

def callTarget (e : Env) (c : Call) : Option (FuncId × List Value) :=
  match c.callee with
  | .value fo => (eo e fo).bind fun f => match f with
    | .func (.func f) first cap => (eOps e c.args.toList).map fun as => (f, first.toList ++ as ++ cap.toList)
    | _ => none
  | _ => none

def aCallW (P : Program) (e : Env) (h : Heap) (c : Call) (K : AOut → Heap → Prop) : Prop :=
  ∃ f as, callTarget e c = some (f, as) ∧ ((∃ R : AOut → Heap → Prop, Sum P f as h R ∧ ∀ out h', R out h' → deadOk h h' ∧ K out h') ∨ (∃ R : AOut → Heap → Prop, Sum P f as (roH h) R ∧ ∀ out h', R out h' → (∃ v, out = .ret v ∧ plain v = true ∧ K out h) ∨ K out (h ++ h'.drop h.length)) ∨ ∃ (s : List (Option Nat)) (hs : Heap) (as2 : List Value) (R : AOut → Heap → Prop),
    Sum P f as2 hs R ∧ allRo hs = true ∧ Emb s hs h ∧ subL s as2 as ∧ ∀ out hs', R out hs' → K (renOut (backF s h.length) out) (grownH s h hs'))

def aWant (ops : Array Oper) (o : Oper) (e : Env) : Option Bool :=
  match o.guard with
  | none => some true
  | some (j, want) => ((ops[j]?).bind (·.dst)).bind fun t => (e t).bind fun v => match v with | .bool b => some (b == want) | .tuple _ => some false | _ => none

def opt {α : Type} (x : Option α) (K : α → Prop) : Prop := ∃ y, x = some y ∧ K y

def aOpsW (P : Program) (T : TT) (n0 : Nat) (ops : Array Oper) (K : AX → Env → Heap → Prop) : List Oper → Env → Heap → Prop
  | [], e, h => K .normal e h
  | o :: rest, e, h => opt (aWant ops o e) fun b => if b = true then
      (match o.op with
        | .call { callee := .value fo, args, argTypes } => aCallW P e h { callee := .value fo, args, argTypes } fun out h' => match out with
          | .ret v => aOpsW P T n0 ops K rest (put e o.dst v) h'
          | .panic v => K (.panic v) e h'
        | .panic x => opt (eo e x) fun v => match v with | .iface t u => K (.panic (.iface t u)) e h | _ => False
        | op => opt (aOp T n0 e h op) fun p => aOpsW P T n0 ops K rest (put e o.dst p.1) p.2)
      else aOpsW P T n0 ops K rest (put e o.dst undef) h

/-- The same, where operations on maps may stand too. -/
def aOpsM (P : Program) (T : TT) (n0 : Nat) (ops : Array Oper) (K : AX → Env → Heap → Prop) : List Oper → Env → Heap → Prop
  | [], e, h => K .normal e h
  | o :: rest, e, h => opt (aWant ops o e) fun b => if b = true then
      (match o.op with
        | .call { callee := .value fo, args, argTypes } => aCallW P e h { callee := .value fo, args, argTypes } fun out h' => match out with
          | .ret v => aOpsM P T n0 ops K rest (put e o.dst v) h'
          | .panic v => K (.panic v) e h'
        | .panic x => opt (eo e x) fun v => match v with | .iface t u => K (.panic (.iface t u)) e h | _ => False
        | op => (opt (aOp T n0 e h op) fun p => aOpsM P T n0 ops K rest (put e o.dst p.1) p.2) ∨ ∃ v h', MOp P e h op v h' ∧ aOpsM P T n0 ops K rest (put e o.dst v) h')
      else aOpsM P T n0 ops K rest (put e o.dst undef) h

theorem aCallW_mono {P : Program} {e : Env} {h : Heap} {c : Call} {K K' : AOut → Heap → Prop} (hK : ∀ o h, K o h → K' o h) (hc : aCallW P e h c K) : aCallW P e h c K' := by
  obtain ⟨f, as, ht, hc⟩ := hc
  refine ⟨f, as, ht, ?_⟩
  rcases hc with ⟨R, hs, hr⟩ | ⟨R, hs, hr⟩ | ⟨s, hs, as2, R, h1, h2, h3, h4, hr⟩
  · exact .inl ⟨R, hs, fun o h' hh => ⟨(hr o h' hh).1, hK _ _ (hr o h' hh).2⟩⟩
  · refine .inr (.inl ⟨R, hs, fun o h' hh => ?_⟩)
    rcases hr o h' hh with ⟨v, a, b, c⟩ | c
    · exact .inl ⟨v, a, b, hK _ _ c⟩
    · exact .inr (hK _ _ c)
  · exact .inr (.inr ⟨s, hs, as2, R, h1, h2, h3, h4, fun o h' hh => hK _ _ (hr o h' hh)⟩)

theorem aOpsW_M {P : Program} {T : TT} {n0 : Nat} {ops : Array Oper} {K : AX → Env → Heap → Prop} : ∀ (l : List Oper) (e : Env) (h : Heap), aOpsW P T n0 ops K l e h → aOpsM P T n0 ops K l e h := by
  intro l
  induction l with
  | nil => intro e h hk; exact hk
  | cons o rest ih =>
    intro e h hk
    simp only [aOpsW] at hk
    simp only [aOpsM]
    obtain ⟨b, hb, hk⟩ := hk
    refine ⟨b, hb, ?_⟩
    cases b with
    | false => simp only [Bool.false_eq_true, if_false] at hk ⊢; exact ih _ _ hk
    | true =>
      simp only [if_true] at hk ⊢
      split at hk
      · rename_i fo args argTypes ho
        refine aCallW_mono (fun out h' hh => ?_) hk
        cases out with
        | ret v => exact ih _ _ hh
        | panic v => exact hh
      · exact hk
      · obtain ⟨p, hp, hh⟩ := hk
        exact .inl ⟨p, hp, ih _ _ hh⟩

def dstOk (n : Nat) : List Oper → Bool
  | [] => true
  | o :: r => (match o.dst with | some t => decide (t < n) | none => true) && dstOk n r

section
variable {r : Option Nat} {bs : Bs} {P : Program} {T : TT} {n n0 B0 : Nat} {K Q : AX → Env → Heap → Prop} {e : Env} {h h1 : Heap} {m m1 : Map} {w w1 : World} {a : Act} {ops : Array Oper}

theorem calls_in {f : FuncId} {args : Array Value} {R : Ending → World → Prop} (hc : Calls P f args w R) (k : Nat) : CallsIn (Wf r) k P f args w R :=
  ⟨trivial, fun cs _ => let ⟨e, w', fr, hr, s, x⟩ := hc cs; ⟨e, w', fr, hr, (show ComesIn (Machine.fenced P Fence.wide) P _ _ _ from comesIn_wide.2 s), x⟩⟩

theorem want_sound (he : ERel m e a) {o : Oper} {b : Bool} (hw : aWant ops o e = some b) : Region.wanted o (yielded ops a.tmps) = b := by
  unfold aWant at hw
  unfold Region.wanted
  cases hg : o.guard with
  | none => rw [hg] at hw; simp at hw; simp [hw]
  | some p =>
    obtain ⟨j, want⟩ := p
    rw [hg] at hw
    simp only at hw ⊢
    obtain ⟨t, ht, hw⟩ := Option.bind_eq_some_iff.1 hw
    obtain ⟨v, hv, hw⟩ := Option.bind_eq_some_iff.1 hw
    have hr := he t v hv
    unfold yielded
    rw [ht]
    simp only [Option.bind_some]
    have hget : a.tmps.getD t undef = (a.tmps[t]?).getD undef := Array.getD_eq_getD_getElem? ..
    rw [hget] at hr
    split at hw
    · rename_i b'
      simp only [Option.some.injEq] at hw
      have hx := hr.plain_eq rfl
      cases hq : a.tmps[t]? with
      | none => rw [hq] at hx; simp [undef] at hx
      | some y => rw [hq] at hx; simp at hx; subst hx; simpa using hw
    · rename_i vs
      simp only [Option.some.injEq] at hw
      subst hw
      cases hq : a.tmps[t]? with
      | none => simp
      | some y =>
        rw [hq] at hr
        simp only [Option.getD_some] at hr
        cases hr
        simp
    · cases hw

theorem eOps_app {as : List Operand} {us : List Value} (he : ERel m e a) (h1 : eOps e as = some us) : VRels m us (as.map a.eval) := eOps_rel he as us h1

theorem VRels.append {xs xs' ys ys' : List Value} (h1 : VRels m xs xs') (h2 : VRels m ys ys') : VRels m (xs ++ ys) (xs' ++ ys') := by
  refine ⟨by rw [List.length_append, List.length_append, h1.1, h2.1], ?_⟩
  intro j v v' hv hv'
  by_cases hj : j < xs.length
  · rw [List.getElem?_append_left hj] at hv
    rw [List.getElem?_append_left (by rw [← h1.1]; exact hj)] at hv'
    exact h1.2 _ _ _ hv hv'
  · rw [List.getElem?_append_right (by omega)] at hv
    rw [List.getElem?_append_right (by rw [← h1.1]; omega), ← h1.1] at hv'
    exact h2.2 _ _ _ hv hv'

theorem target_sound (he : ERel m e a) {c : Call} {f : FuncId} {as : List Value} (ht : callTarget e c = some (f, as)) (hen : enters P f) {o : Oper} (ho : o.op = .call c) :
    ∃ as', (execOp a.eval o).run P w = .ok (.enter f as'.toArray) w ∧ VRels m as as' := by
  obtain ⟨callee, args, argTypes⟩ := c
  unfold callTarget at ht
  cases callee <;> simp only at ht <;> try (cases ht; done)
  rename_i fo
  obtain ⟨fv, hf, ht⟩ := Option.bind_eq_some_iff.1 ht
  split at ht
  · rename_i g first cap
    obtain ⟨us, hu, ht⟩ := Option.map_eq_some_iff.1 ht
    cases ht
    obtain ⟨first⟩ := first
    obtain ⟨cap⟩ := cap
    obtain ⟨xs', ys', hev, q1, q2⟩ := VRels.arr (he.op hf)
    have h3 := eOps_app he hu
    refine ⟨xs' ++ args.toList.map a.eval ++ ys', ?_, (q1.append h3).append q2⟩
    obtain ⟨fn, hfn, hn, hb⟩ := hen
    simp only [execOp, ho, resolve, hev, Deferred.ofValue, invoke, callFunc, Sem.run_bind, Sem.run_pure, Result.andThen_ok, run_program, hfn, hn, hb, Bool.false_eq_true, if_false]
    congr 2
    apply Array.ext'
    simp
  · cases ht

theorem aOpsM_sound (hT : TT.ok P T) : ∀ (l : List Oper) (e : Env) (h1 : Heap) (m1 : Map) (a : Act) (w1 : World), dstOk n l = true → Tr n0 B0 m h w m1 h1 w1 → ERel m1 e a → a.tmps.size = n → DOk bs B0 a.defers w1 →
    aOpsM P T n0 ops K l e h1 → wpListIn (Wf r) 0 P ops (Post bs n n0 B0 m h w K) l a w1 := by
  intro l
  induction l with
  | nil => intro e h1 m1 a w1 _ tr he s1 s2 hk; exact ⟨.normal, m1, e, h1, hk, trivial, tr, he, s1, s2⟩
  | cons o rest ih =>
    intro e h1 m1 a w1 hd tr he s1 s2 hk
    simp only [aOpsM] at hk
    obtain ⟨b, hb, hk⟩ := hk
    simp only [dstOk, Bool.and_eq_true] at hd
    have hdst : ∀ t, o.dst = some t → t < a.tmps.size := by
      intro t ht; rw [s1]; have := hd.1; rw [ht] at this; simpa using this
    have hput : ∀ (a : Act) (x : Option Tmp) (v : Value), (a.put x v).tmps.size = a.tmps.size ∧ (a.put x v).defers = a.defers := by
      intro a x v; cases x <;> simp [Act.put]
    have hw := want_sound (ops := ops) he hb
    unfold wpListIn
    cases b with
    | false =>
      rw [hw]
      simp only [Bool.false_eq_true, if_false] at hk ⊢
      exact ⟨fun _ _ => trivial, ih _ _ _ _ _ hd.2 tr (he.put hdst (undef_rel _)) (by rw [(hput _ _ _).1, s1]) (by rw [(hput _ _ _).2]; exact s2) hk⟩
    | true =>
      rw [hw]
      simp only [if_true] at hk ⊢
      refine ⟨fun _ _ => trivial, ?_⟩
      -- an operation with a value
      have val : ∀ p : Value × Heap, (∀ c, o.op ≠ .defer c) → (aOp T n0 e h1 o.op = some p ∨ MOp P e h1 o.op p.1 p.2) → aOpsM P T n0 ops K rest (put e o.dst p.1) p.2 →
          o.uponIn (Wf r) 0 P a (wpListIn (Wf r) 0 P ops (Post bs n n0 B0 m h w K) rest) (Post bs n n0 B0 m h w K) ((o.semAt (Wf r).round a.eval).run P w1) := by
        intro p hnd hop hrest
        obtain ⟨m', v', w', hr, hv, hle, htr⟩ : OpOut n0 B0 m1 h1 w1 ((execOp a.eval o).run P w1) p.1 p.2 := hop.elim (fun hop => aOp_sound hT tr.st he o (v := p.1) (h' := p.2) hop) fun hop => MOp.sound tr.st he o hop
        rw [Oper.semAt_eq _ _ _ hnd]
        have fin := ih (put e o.dst p.1) p.2 m' (a.put o.dst v') w' hd.2 (tr.trans htr) ((he.mono hle).put hdst hv) (by rw [(hput _ _ _).1, s1]) (by rw [(hput _ _ _).2]; exact s2.keep htr.fr) hrest
        rcases hr with hr | ⟨hr, rfl⟩
        · rw [hr]; exact fin
        · rw [hr]; exact fin
      split at hk
      · -- a call of a function
        rename_i fo args argTypes ho
        obtain ⟨f, as, ht, hk⟩ := hk
        rcases hk with ⟨R, hsum, hK⟩ | ⟨R, hsum, hK⟩ | hk
        · obtain ⟨as', hrun, hrel⟩ := target_sound (w := w1) he ht hsum.1 ho
          rw [Oper.semAt_eq _ _ _ (by rw [ho]; simp), hrun]
          refine ⟨fun hx => by simp [Wf] at hx, calls_in ((hsum.2 m1 w1 as' tr.st.rel hrel).mono ?_) _⟩
          rintro en w' ⟨m', out, hs', hR, hout, htr⟩
          obtain ⟨hdead, hk2⟩ := hK out hs' hR
          obtain ⟨t2, hle⟩ := Tr.inner tr.st hdead htr
          cases out with
          | ret v =>
            cases en <;> simp only [OutRel] at hout
            exact ih _ _ _ _ _ hd.2 (tr.trans t2) ((he.mono hle).put hdst hout) (by rw [(hput _ _ _).1, s1]) (by rw [(hput _ _ _).2]; exact s2.keep t2.fr) hk2
          | panic v =>
            cases en with
            | panicked ch =>
              rcases ch with _ | ⟨p, _ | ⟨p2, q2⟩⟩ <;> simp only [OutRel] at hout
              exact ⟨.panic v, _, e, _, hk2, ⟨hout.1, hout.2.1, hout.2.2⟩, tr.trans t2, he.mono hle, s1, s2.keep t2.fr⟩
            | returned v' => simp only [OutRel] at hout
            | outgrown => simp only [OutRel] at hout
        · obtain ⟨as', hrun, hrel⟩ := target_sound (w := w1) he ht hsum.1 ho
          rw [Oper.semAt_eq _ _ _ (by rw [ho]; simp), hrun]
          refine ⟨fun hx => by simp [Wf] at hx, calls_in ((hsum.2 m1 w1 as' tr.st.rel.ro hrel).mono ?_) _⟩
          rintro en w' ⟨m', out, hs', hR, hout, htr⟩
          rw [roH_length] at htr
          rcases hK out hs' hR with ⟨v, rfl, hpl, hk2⟩ | hk2
          · have t2 := Tr.innerNone tr.st htr
            cases en <;> simp only [OutRel] at hout
            have := hout.plain_eq hpl
            subst this
            exact ih _ _ _ _ _ hd.2 (tr.trans t2) (he.put hdst (VRel.of_plain _ _ hpl)) (by rw [(hput _ _ _).1, s1]) (by rw [(hput _ _ _).2]; exact s2.keep t2.fr) hk2
          · obtain ⟨t2, hle⟩ := Tr.innerRo tr.st htr
            cases out with
            | ret v =>
              cases en <;> simp only [OutRel] at hout
              exact ih _ _ _ _ _ hd.2 (tr.trans t2) ((he.mono hle).put hdst hout) (by rw [(hput _ _ _).1, s1]) (by rw [(hput _ _ _).2]; exact s2.keep t2.fr) hk2
            | panic v =>
              cases en with
              | panicked ch =>
                rcases ch with _ | ⟨p, _ | ⟨p2, q2⟩⟩ <;> simp only [OutRel] at hout
                exact ⟨.panic v, _, e, _, hk2, ⟨hout.1, hout.2.1, hout.2.2⟩, tr.trans t2, he.mono hle, s1, s2.keep t2.fr⟩
              | returned v' => simp only [OutRel] at hout
              | outgrown => simp only [OutRel] at hout
        · obtain ⟨s, hs, as2, R, hsum, hro, E, hsub, hK⟩ := hk
          obtain ⟨as', hrun, hrel⟩ := target_sound (w := w1) he ht hsum.1 ho
          rw [Oper.semAt_eq _ _ _ (by rw [ho]; simp), hrun]
          refine ⟨fun hx => by simp [Wf] at hx, calls_in ((hsum.2 (pickMap s m1) w1 as' (E.rel tr.st.rel) (VRel.of_subL as2 as as' hsub hrel)).mono ?_) _⟩
          rintro en w' ⟨m', out, hs', hR, hout, htr⟩
          obtain ⟨t2, hmap⟩ := call_step tr.st E hro htr
          have hk2 := hK out hs' hR
          cases out with
          | ret v =>
            cases en <;> simp only [OutRel] at hout
            rename_i v'
            simp only [renOut] at hk2
            exact ih _ _ _ _ _ hd.2 (tr.trans t2) ((he.mono (mloc_append _ _)).put hdst (hout.ren hmap)) (by rw [(hput _ _ _).1, s1]) (by rw [(hput _ _ _).2]; exact s2.keep t2.fr) hk2
          | panic v =>
            cases en with
            | panicked ch =>
              rcases ch with _ | ⟨p, _ | ⟨p2, q2⟩⟩ <;> simp only [OutRel] at hout
              exact ⟨.panic (ren (backF s h1.length) v), _, e, _, hk2, ⟨hout.1, hout.2.1, hout.2.2.ren hmap⟩, tr.trans t2, he.mono (mloc_append _ _), s1, s2.keep t2.fr⟩
            | returned v' => simp only [OutRel] at hout
            | outgrown => simp only [OutRel] at hout
      · -- a panic of the text's own
        rename_i x ho
        obtain ⟨v, hv, hk⟩ := hk
        cases v <;> simp only at hk
        rename_i t u
        have hev := he.op hv
        rw [Oper.semAt_eq _ _ _ (by rw [ho]; simp)]
        generalize hxe : a.eval x = X at hev
        cases hev with
        | iface _ _ u' hu =>
          have hrun : (execOp a.eval o).run P w1 = .halt (.panic (.iface t u')) w1 := by simp [execOp, ho, Instr.panic, hxe]
          rw [hrun]
          exact ⟨.panic (.iface t u), m1, e, h1, hk, ⟨rfl, rfl, .iface t u u' hu⟩, tr, he, s1, s2⟩
      · rename_i op h1' h2'
        rcases hk with ⟨p, hp, hrest⟩ | ⟨v, h2, hp, hrest⟩
        · refine val p ?_ (.inl hp) hrest
          intro c hc
          rw [hc] at hp
          simp [aOp] at hp
        · refine val (v, h2) ?_ (.inr hp) hrest
          intro c hc
          rw [hc] at hp
          cases hp

theorem aOps_sound (hT : TT.ok P T) (l : List Oper) (e : Env) (h1 : Heap) (m1 : Map) (a : Act) (w1 : World) (hd : dstOk n l = true) (tr : Tr n0 B0 m h w m1 h1 w1) (he : ERel m1 e a) (s1 : a.tmps.size = n) (s2 : DOk bs B0 a.defers w1)
    (hk : aOpsW P T n0 ops K l e h1) : wpListIn (Wf r) 0 P ops (Post bs n n0 B0 m h w K) l a w1 := aOpsM_sound hT l e h1 m1 a w1 hd tr he s1 s2 (aOpsW_M l e h1 hk)

theorem awp_region {l : List Oper} {id : Nat} (hT : TT.ok P T) (hd : dstOk n l = true) (hw : aOpsW P T n0 l.toArray Q l e h) : awp r bs P n n0 (.region id l.toArray false) Q e h :=
  fun _ _ _ _ s he h1 h2 => wpIn_region_lit (aOps_sound hT l e h _ _ _ hd (Tr.refl s) he h1 h2 hw)
theorem awp_regionM {l : List Oper} {id : Nat} (hT : TT.ok P T) (hd : dstOk n l = true) (hw : aOpsM P T n0 l.toArray Q l e h) : awp r bs P n n0 (.region id l.toArray false) Q e h :=
  fun _ _ _ _ s he h1 h2 => wpIn_region_lit (aOpsM_sound hT l e h _ _ _ hd (Tr.refl s) he h1 h2 hw)

-- functions
def aResults (T : TT) (e : Env) (h : Heap) : List ResultVar → Option (List Value)
  | [] => some []
  | .tmp t :: q => (e t).bind fun v => (aResults T e h q).map fun vs => v :: vs
  | .cell t ty :: q => (e t).bind fun p => (aLoad T ty p h).bind fun v => (aResults T e h q).map fun vs => v :: vs

def tupleOf : List Value → Value
  | [v] => v
  | vs => .tuple vs.toArray

/-- What is to hold where a function ends. -/
def endQ (T : TT) (res : List ResultVar) (n0 : Nat) (R : AOut → Heap → Prop) : AX → Env → Heap → Prop
  | .normal, e, h | .ret, e, h => opt (aResults T e h res) fun vs => R (.ret (tupleOf vs)) h ∨ ∃ (s : List (Option Nat)) (v2 : Value) (h2 : Heap), Emb s h2 h ∧ anchored n0 s ∧ flags n0 h2 = flags n0 h ∧ sub s v2 (tupleOf vs) ∧ R (.ret v2) h2
  | .panic v, _, h => R (.panic v) h ∨ ∃ (s : List (Option Nat)) (v2 : Value) (h2 : Heap), Emb s h2 h ∧ anchored n0 s ∧ flags n0 h2 = flags n0 h ∧ sub s v2 v ∧ R (.panic v2) h2
  | .exit _, _, _ => False

def argEnv (args : List Value) : Env := fun t => args[t]?

theorem load_run (hT : TT.ok P T) (hr : Rel m h w) {t : TypeId} {p X v : Value} (hX : VRel m p X) (hl : aLoad T t p h = some v) :
    ∃ ad' v', X = .pointer (some ad') ∧ (loadVar t ad').run P w = .ok v' w ∧ VRel m v v' := by
  unfold aLoad at hl
  obtain ⟨i, hi, hl⟩ := Option.bind_eq_some_iff.1 hl
  have hk := hT t i hi
  obtain ⟨q, rfl⟩ : ∃ q, p = .pointer q := by cases p <;> first | exact ⟨_, rfl⟩ | (simp at hl; done)
  cases q with
  | none => simp at hl
  | some ad =>
    simp only at hl
    obtain ⟨cs, hrd, hc⟩ := Option.bind_eq_some_iff.1 hl
    obtain ⟨ib, io, isp⟩ := ad
    obtain ⟨L, hL, rfl, hev, hmp⟩ := hX.ptr_inv
    obtain ⟨vs', hrun, hrel, hlen, hcell⟩ := readCells_run (P := P) hr hrd hL hmp
    unfold ofCells at hc
    by_cases hagg : i.d.isAgg = true
    · refine ⟨_, .agg vs'.toArray, hev, ?_, ?_⟩
      · simp only [loadVar, Sem.run_bind, Sem.run_pure, Result.andThen_ok, r_isAgg hk hagg, r_sizeOf hk, if_true, hrun]
      · have : v = .agg cs.toArray := by cases hd : i.d <;> rw [hd] at hc hagg <;> simp [TD.isAgg] at hagg <;> simpa using hc.symm
        subst this
        exact .agg _ _ hrel.1 hrel.2
    · have hagg' : i.d.isAgg = false := by simpa using hagg
      have hno : ∀ (_ : i.d = .other), False := fun hd => by rw [hd] at hc; simp at hc
      have hone : cs = [v] := by
        cases hd : i.d <;> rw [hd] at hc hagg' <;> simp [TD.isAgg] at hagg' <;> first | (simp at hc; done) | (rcases cs with _ | ⟨c, _ | ⟨d, r⟩⟩ <;> first | (simp at hc; done) | (simp at hc; rw [hc]))
      subst hone
      obtain ⟨v', r', rfl, hv1, hv2⟩ := hrel.cons_inv
      have := hv2.nil_inv
      subst this
      refine ⟨_, v', hev, ?_, hv1⟩
      have hcell0 := hcell 0 v' rfl
      simp only [loadVar, Sem.run_bind, Result.andThen_ok, r_isAgg_no hk hagg' hno, Bool.false_eq_true, if_false, run_load]
      rw [Nat.add_zero] at hcell0
      simp [hcell0]

def resM (a : Act) : ResultVar → Sem Value
  | .tmp t => pure (a.tmps.getD t undef)
  | .cell x t => do loadVar t (← asAddr (a.tmps.getD x undef))

theorem results_sound (hT : TT.ok P T) (he : ERel m e a) (hr : Rel m h w) : ∀ (l : List ResultVar) (vs : List Value), aResults T e h l = some vs →
    ∃ vs', (l.mapM (m := Sem) (resM a)).run P w = .ok vs' w ∧ VRels m vs vs' := by
  intro l
  induction l with
  | nil => intro vs hv; simp [aResults] at hv; subst hv; exact ⟨[], by simp, VRels.nil _⟩
  | cons x q ih =>
    intro vs hv
    cases x with
    | tmp t =>
      simp only [aResults] at hv
      obtain ⟨v, h1, hv⟩ := Option.bind_eq_some_iff.1 hv
      obtain ⟨us, h2, rfl⟩ := Option.map_eq_some_iff.1 hv
      obtain ⟨vs', h3, h4⟩ := ih us h2
      exact ⟨a.tmps.getD t undef :: vs', by simp only [List.mapM_cons, resM, Sem.run_bind, Sem.run_pure, Result.andThen_ok, h3], VRels.cons (he t v h1) h4⟩
    | cell t ty =>
      simp only [aResults] at hv
      obtain ⟨p, h1, hv⟩ := Option.bind_eq_some_iff.1 hv
      obtain ⟨v, h1b, hv⟩ := Option.bind_eq_some_iff.1 hv
      obtain ⟨us, h2, rfl⟩ := Option.map_eq_some_iff.1 hv
      obtain ⟨vs', h3, h4⟩ := ih us h2
      obtain ⟨ad', v', hx, hrun, hv'⟩ := load_run (P := P) hT hr (he t p h1) h1b
      exact ⟨v' :: vs', by simp only [List.mapM_cons, resM, Sem.run_bind, Sem.run_pure, Result.andThen_ok, hx, asAddr, hrun, h3], VRels.cons hv' h4⟩

theorem results_run (hT : TT.ok P T) (he : ERel m e a) (hr : Rel m h w) (fn : Func) {vs : List Value} (hv : aResults T e h fn.results.toList = some vs) :
    ∃ v', (results fn a.tmps).run P w = .ok v' w ∧ VRel m (tupleOf vs) v' := by
  obtain ⟨vs', h1, h2⟩ := results_sound hT he hr _ _ hv
  refine ⟨if h : vs'.toArray.size = 1 then vs'.toArray[0] else .tuple vs'.toArray, ?_, ?_⟩
  · have hm : (fn.results.mapM (m := Sem) (resM a)).run P w = .ok vs'.toArray w := by
      rw [Array.mapM_eq_mapM_toList]
      simp only [Sem.run_map, h1, Result.andThen_ok]
    have heq : results fn a.tmps = (do let vs ← fn.results.mapM (m := Sem) (resM a); pure (if h : vs.size = 1 then vs[0] else .tuple vs)) := by
      unfold results
      congr 1
    rw [heq]
    simp only [Sem.run_bind, hm, Result.andThen_ok, Sem.run_pure]
  · have hl := h2.1
    rcases vs with _ | ⟨x, _ | ⟨y, q⟩⟩
    · rw [h2.nil_inv]; exact .tuple [] [] rfl (by simp)
    · obtain ⟨v', r', rfl, k1, k2⟩ := h2.cons_inv
      rw [k2.nil_inv]
      simpa [tupleOf] using k1
    · have hne : ¬ vs'.toArray.size = 1 := by simp at hl ⊢; omega
      rw [dif_neg hne]
      exact .tuple _ _ h2.1 h2.2

/-- A mark is taken. -/
theorem Tr.taken {m' : Map} {h' : Heap} {w' : World} (tr : Tr n0 w.heap.size m h w m' h' w') {D : Nat} {x : Option (List Deferred)} (hD : w'.heap[D]? = some (.deferred x)) (hB : w.heap.size ≤ D) (o : Obj) :
    Tr n0 w.heap.size m h w m' h' (w'.putObj D o) := by
  have hlt : D < w'.heap.size := (Array.getElem?_eq_some_iff.1 hD).1
  have hkeep : ∀ k, k ≠ D → (w'.putObj D o).heap[k]? = w'.heap[k]? := fun k hk => World.putObj_heap_other hk
  have hsz : (w'.putObj D o).heap.size = w'.heap.size := by simp [World.putObj]
  refine ⟨⟨⟨tr.st.rel.len, ?_, tr.st.rel.dummy, tr.st.rel.dis⟩, by rw [hsz]; exact tr.st.base, tr.st.fresh, tr.st.anch⟩, tr.pre, tr.flag, tr.fr.os, tr.fr.tape, tr.fr.output, by rw [hsz]; exact tr.fr.size, ?_, ?_⟩
  · intro i b L hb hL
    have rr := tr.st.rel.blk i b L hb hL
    refine rr.mono (fun _ _ x => x) (hkeep _ fun e => ?_)
    cases hp : L.mp with
    | false => obtain ⟨cs, el, fz, hw, _⟩ := rr.row hp; rw [e, hD] at hw; cases hw
    | true => obtain ⟨es, c, hw, _⟩ := rr.tab hp; rw [e, hD] at hw; cases hw
  · intro k hk hA; exact (hkeep k (by omega)).trans (tr.fr.keep k hk hA)
  · intro k ob hk ho
    have := (Array.getElem?_eq_some_iff.1 hk).1
    exact (hkeep k (by omega)).trans (tr.fr.oth k ob hk ho)

theorem leaves_marks {F : Fence} {q : Nat} {fn : Func} {tmps : Array Value} {R : Ending → World → Prop} {u : FrameMode} (hu : u ≠ .run) {m' : Map} {h' : Heap} : ∀ (marks : List Nat) (w' : World), marks.Nodup →
    (∀ D ∈ marks, w.heap.size ≤ D ∧ w'.heap[D]? = some (.deferred (some []))) → Tr n0 w.heap.size m h w m' h' w' → (∀ w'', Tr n0 w.heap.size m h w m' h' w'' → LeavesIn F q P fn tmps R [] u w'') →
      LeavesInM F q P fn tmps R (marks.map dmark) u w' := by
  intro marks
  induction marks with
  | nil => intro w' _ _ tr hl; exact hl w' tr
  | cons D q ih =>
    intro w' hn hD tr hl
    obtain ⟨h1, h2⟩ := hD D (List.mem_cons_self ..)
    refine ⟨hu, .inl ⟨D, _, rfl, run_takeDeferred h2, ih _ (List.nodup_cons.1 hn).2 ?_ (tr.taken h2 h1 _) hl⟩⟩
    intro E hE
    obtain ⟨h3, h4⟩ := hD E (List.mem_cons_of_mem _ hE)
    refine ⟨h3, (World.putObj_heap_other fun e => ?_).trans h4⟩
    subst e
    exact (List.nodup_cons.1 hn).1 hE

/-- A CONTRACT out of a judgement on the body. -/
theorem Sum.of_awp (hT : TT.ok P T) {f : FuncId} {fn : Func} {c : Code} {args : List Value} {R : AOut → Heap → Prop} (hf : P.funcs[f]? = some fn) (hb : fn.body = some c) (hnm : (fn.name == "runtime.NumGoroutine") = false)
    (hlen : args.length ≤ fn.ntmps) (hw : awp none ([], true) P fn.ntmps h.length c (endQ T fn.results.toList h.length R) (argEnv args) h) : Sum P f args h R := by
  refine ⟨⟨fn, hf, hnm, by rw [hb]; rfl⟩, ?_⟩
  intro m w args' rel hv
  have st : St h.length w.heap.size m h w := ⟨rel, Nat.le_refl _, fun i b L hi hb _ => (by rw [hblk_ge hi] at hb; cases hb), Nat.le_refl _⟩
  refine callsIn_wide.1 (callsIn_of_wp_marks (F := Fence.wide) (n := 0) hf hb trivial ?_)
  have hsz : ({ tmps := args'.toArray ++ Array.replicate (fn.ntmps - args'.toArray.size) undef, defers := [] } : Act).tmps.size = fn.ntmps := by
    have := hv.1; simp; omega
  have he : ERel m (argEnv args) { tmps := args'.toArray ++ Array.replicate (fn.ntmps - args'.toArray.size) undef, defers := [] } := by
    intro t v ht
    obtain ⟨v', h1, h2⟩ := hv.get (show args[t]? = some v from ht)
    have hlt := (List.getElem?_eq_some_iff.1 h1).1
    have hx : (args'.toArray ++ Array.replicate (fn.ntmps - args'.toArray.size) undef).getD t undef = v' := by
      rw [Array.getD_eq_getD_getElem?, Array.getElem?_append_left (by simpa using hlt)]
      simp [h1]
    rw [hx]; exact h2
  refine wpIn_mono (show c.wpIn (Wf none) 0 P _ _ _ from hw w.heap.size m _ w st he hsz (DOk.base ([], true) _ _)) ?_
  rintro x a' w' ⟨ax, m', e', h', q, xr, tr, he', s1, s2⟩
  have emb : ∀ (w' : World), Tr h.length w.heap.size m h w m' h' w' → ∀ (s : List (Option Nat)) (h2 : Heap), Emb s h2 h' → anchored h.length s → flags h.length h2 = flags h.length h' → Tr h.length w.heap.size m' h' w' (pickMap s m') h2 w' := by
    intro w' tr s h2 E ha hf
    refine ⟨⟨E.rel tr.st.rel, tr.st.base, ?_, by rw [← E.len]; exact ha.1⟩, pick_take ha tr.st.n0m, hf, Fr.refl _ _ _⟩
    intro i b L hi hb hL
    obtain ⟨j, hj, hLj⟩ := mloc_pick_some hL
    rcases E.blk i b hb with ⟨j', b', hj', hbb, _, _⟩ | ⟨hn, _⟩
    · rw [hj] at hj'; cases hj'
      exact tr.st.fresh j b' L (ha.2.2 i j hi hj) hbb hLj
    · rw [hj] at hn; cases hn
  obtain ⟨marks, hmk, _, hnd, hall⟩ := s2
  rw [List.append_nil] at hmk
  have ret : (∃ vs, aResults T e' h' fn.results.toList = some vs ∧ (R (.ret (tupleOf vs)) h' ∨ ∃ (s : List (Option Nat)) (v2 : Value) (h2 : Heap), Emb s h2 h' ∧ anchored h.length s ∧ flags h.length h2 = flags h.length h' ∧ sub s v2 (tupleOf vs) ∧ R (.ret v2) h2)) →
      LeavesInM Fence.wide 0 P fn a'.tmps (fun en w' => ∃ m' out h', R out h' ∧ OutRel m' out en ∧ Tr h.length w.heap.size m h w m' h' w') a'.defers .returning w' := by
    rintro ⟨vs, h1, hor⟩
    rw [hmk]
    refine leaves_marks (by simp) marks w' hnd hall tr fun w'' tr' => ?_
    obtain ⟨v', h3, h4⟩ := results_run (w := w'') hT he' tr'.st.rel fn h1
    rcases hor with hR | ⟨s, v2, h2, E, ha, hfl, hs, hR⟩
    · exact ⟨v', h3, m', .ret (tupleOf vs), h', hR, h4, tr'⟩
    exact ⟨v', h3, pickMap s m', .ret v2, h2, hR, VRel.of_sub _ _ _ hs h4, tr'.trans (emb w'' tr' s h2 E ha hfl)⟩
  cases ax <;> cases x <;> simp only [XRel] at xr <;> simp only [bodyPostM, endQ] at q ⊢
  · exact ret q
  · exact ret q
  · rename_i v ch
    rcases ch with _ | ⟨p, _ | ⟨p2, q2⟩⟩ <;> simp only at xr
    rw [hmk]
    refine leaves_marks (by simp) marks w' hnd hall tr fun w'' tr' => ?_
    rcases q with hR | ⟨s, v2, h2, E, ha, hfl, hs, hR⟩
    · exact ⟨m', .panic v, h', hR, xr, tr'⟩
    exact ⟨pickMap s m', .panic v2, h2, hR, ⟨xr.1, xr.2.1, VRel.of_sub _ _ _ hs xr.2.2⟩, tr'.trans (emb w'' tr' s h2 E ha hfl)⟩
end
end Go.Ab

namespace Go.Ab

theorem opt_some {α : Type} (x : α) (K : α → Prop) : opt (some x) K ↔ K x := ⟨fun ⟨y, h, k⟩ => by cases h; exact k, fun h => ⟨x, rfl, h⟩⟩
theorem opt_none {α : Type} (K : α → Prop) : opt none K ↔ False := ⟨fun ⟨_, h, _⟩ => (by cases h), False.elim⟩
theorem opt_bind {α β : Type} (x : Option α) (f : α → Option β) (K : β → Prop) : opt (x.bind f) K ↔ opt x fun y => opt (f y) K := by
  cases x
  · simp [opt_none]
  · simp [opt_some]
theorem opt_map {α β : Type} (x : Option α) (f : α → β) (K : β → Prop) : opt (x.map f) K ↔ opt x fun y => K (f y) := by
  cases x
  · simp [opt_none]
  · simp [opt_some]
theorem opt_ite {α : Type} (c : Prop) [Decidable c] (x : Option α) (K : α → Prop) : opt (if c then x else none) K ↔ c ∧ opt x K := by
  by_cases h : c <;> simp [h, opt_none]

theorem put_some (e : Env) (d : Nat) (v : Value) (t : Nat) : put e (some d) v t = if t = d then some v else e t := rfl
theorem put_none (e : Env) (v : Value) : put e none v = e := rfl

theorem eo_tmp (e : Env) (t : Nat) : eo e (.tmp t) = e t := rfl
theorem eo_int (e : Env) (k : IntKind) (n : Int) : eo e (.const (.int k n)) = some (.int k n) := rfl
theorem eo_bool (e : Env) (b : Bool) : eo e (.const (.bool b)) = some (.bool b) := rfl
theorem eo_str (e : Env) (s : ByteArray) : eo e (.const (.string s)) = some (.string s) := rfl
theorem eo_func (e : Env) (f : FuncId) : eo e (.func f) = some (.func (.func f) #[] #[]) := rfl
theorem eo_nilslice (e : Env) : eo e (.const (.slice none 0 0)) = some (.slice none 0 0) := rfl
theorem eo_nilIface (e : Env) : eo e (.const .nilIface) = some .nilIface := rfl
theorem eo_nilPtr (e : Env) : eo e (.const (.pointer none)) = some (.pointer none) := rfl
theorem eo_nilFunc (e : Env) : eo e (.const .nilFunc) = some .nilFunc := rfl

theorem wrap_of {k : Int} (h1 : -9223372036854775808 ≤ k) (h2 : k ≤ 9223372036854775807) : IntKind.i64.wrap k = k := by
  rw [IntKind.wrap_i64]; omega

theorem thenQ_normal (K : Env → Heap → Prop) (Q : AX → Env → Heap → Prop) (e : Env) (h : Heap) : thenQ K Q .normal e h = K e h := rfl
theorem thenQ_exit (K : Env → Heap → Prop) (Q : AX → Env → Heap → Prop) (i : Nat) (e : Env) (h : Heap) : thenQ K Q (.exit i) e h = Q (.exit i) e h := rfl
theorem thenQ_ret (K : Env → Heap → Prop) (Q : AX → Env → Heap → Prop) (e : Env) (h : Heap) : thenQ K Q .ret e h = Q .ret e h := rfl
theorem blockQ_normal (id : Nat) (Q : AX → Env → Heap → Prop) (e : Env) (h : Heap) : blockQ id Q .normal e h = Q .normal e h := rfl
theorem blockQ_ret (id : Nat) (Q : AX → Env → Heap → Prop) (e : Env) (h : Heap) : blockQ id Q .ret e h = Q .ret e h := rfl
theorem blockQ_exit (id j : Nat) (Q : AX → Env → Heap → Prop) (e : Env) (h : Heap) : blockQ id Q (.exit j) e h = if j = id then Q .normal e h else Q (.exit j) e h := rfl

/-- The end of a function that hands back a plain value and wants no block more. -/
theorem endQ_plain {T : TT} {res : List ResultVar} {R : AOut → Heap → Prop} {e : Env} {h : Heap} {vs : List Value} {v : Value} (hv : aResults T e h res = some vs) (ht : tupleOf vs = v) (hp : plain v = true) (hR : R (.ret v) []) : endQ T res 0 R .ret e h :=
  ⟨vs, hv, .inr ⟨[], v, [], ⟨rfl, fun i b hb => by simp [hblk] at hb, fun i j k b b' _ hb => by simp [hblk] at hb⟩, ⟨Nat.le_refl _, fun i hi => by omega, fun i j _ hs => by simp at hs⟩, rfl, by rw [ht]; exact sub_plain _ v hp, hR⟩⟩

theorem vc_agg (cs : Array Value) : (Value.agg cs).cells = cs := rfl
theorem vc_int (k : IntKind) (n : Int) : (Value.int k n).cells = #[.int k n] := rfl
theorem vc_bool (b : Bool) : (Value.bool b).cells = #[.bool b] := rfl
theorem vc_str (s : ByteArray) : (Value.string s).cells = #[.string s] := rfl
theorem vc_ptr (a : Option Addr) : (Value.pointer a).cells = #[.pointer a] := rfl
theorem vc_slice (a : Option Addr) (n c : Nat) : (Value.slice a n c).cells = #[.slice a n c] := rfl
theorem vc_iface (t : TypeId) (v : Value) : (Value.iface t v).cells = #[.iface t v] := rfl
theorem vc_nilIface : Value.nilIface.cells = #[.nilIface] := rfl
theorem vc_func (f : Fn) (a b : Array Value) : (Value.func f a b).cells = #[.func f a b] := rfl
theorem vc_nilFunc : Value.nilFunc.cells = #[.nilFunc] := rfl

section
variable {r : Option Nat} {bs : Bs} {P : Program} {T : TT} {n n0 : Nat} {Q : AX → Env → Heap → Prop} {e : Env} {h : Heap}

theorem awp_seq_k {c d : Code} (hw : ∀ K : Env → Heap → Prop, (∀ e h, awp r bs P n n0 d Q e h → K e h) → awp r bs P n n0 c (thenQ K Q) e h) : awp r bs P n n0 (.seq c d) Q e h :=
  awp_seq (hw _ fun _ _ x => x)

/-- A region, and what follows it. -/
theorem awp_step {l : List Oper} {id : Nat} {d : Code} (hT : TT.ok P T) (hd : dstOk n l = true)
    (hw : ∀ K : AX → Env → Heap → Prop, (∀ e h, awp r bs P n n0 d Q e h → K .normal e h) → (∀ v e h, Q (.panic v) e h → K (.panic v) e h) → aOpsW P T n0 l.toArray K l e h) : awp r bs P n n0 (.seq (.region id l.toArray false) d) Q e h := by
  refine awp_seq (awp_region hT hd (hw _ (fun _ _ x => x) ?_))
  intro v e h hq; exact hq

theorem awp_last {l : List Oper} {id : Nat} (hT : TT.ok P T) (hd : dstOk n l = true)
    (hw : ∀ K : AX → Env → Heap → Prop, (∀ e h, Q .normal e h → K .normal e h) → (∀ v e h, Q (.panic v) e h → K (.panic v) e h) → aOpsW P T n0 l.toArray K l e h) : awp r bs P n n0 (.region id l.toArray false) Q e h :=
  awp_region hT hd (hw _ (fun _ _ x => x) fun _ _ _ x => x)

theorem awp_block_k {id : Nat} {c : Code} (hw : ∀ Q' : AX → Env → Heap → Prop, (∀ x e h, blockQ id Q x e h → Q' x e h) → awp r bs P n n0 c Q' e h) : awp r bs P n n0 (.block id c) Q e h :=
  awp_block (hw _ fun _ _ _ x => x)
end
end Go.Ab

namespace Go.Ab

inductive Kd where
  | pure
  | load
  | ext
  | chg
  | no
  deriving DecidableEq

def kd : Op → Kd
  | .move _ | .assign _ | .pick .. | .nilCheck _ | .binOp .. | .unOp .. | .fieldAddr .. | .indexAddr .. | .makeInterface .. | .extract .. | .field .. | .index .. | .build .. | .slice .. | .typeAssert .. | .convert .. => .pure
  | .makeFunc (.func _) .. => .pure
  | .load .. => .load
  | .alloc _ | .box .. | .buildSlice .. | .makeSlice .. => .ext
  | .store .. => .chg
  | .call { callee := .builtin .len, .. } | .call { callee := .builtin .max, .. } | .call { callee := .builtin .min, .. } => .pure
  | .call { callee := .builtin .append, .. } => .chg
  | .call { callee := .value _, .. } => .ext
  | _ => .no

/-- A call of a function that reads no heap and makes no block, by a list of such functions. -/
def isP (pf : List FuncId) : Op → Bool
  | .call { callee := .value (.func f), .. } => pf.contains f
  | _ => false
/-- The kinds, where such calls are known. -/
def kdP (pf : List FuncId) (op : Op) : Kd := match isP pf op with
  | true => .pure
  | false => kd op
theorem isP_nil (op : Op) : isP [] op = false := by
  unfold isP; split <;> simp
theorem kdP_nil (op : Op) : kdP [] op = kd op := by unfold kdP; rw [isP_nil]
theorem isP_call {pf : List FuncId} {op : Op} (h : isP pf op = true) : ∃ f args ts, op = .call { callee := .value (.func f), args, argTypes := ts } := by
  unfold isP at h
  split at h
  · exact ⟨_, _, _, rfl⟩
  · cases h
theorem kdP_cases {pf : List FuncId} {op : Op} {k : Kd} (h : kdP pf op = k) : (isP pf op = true ∧ k = .pure) ∨ (isP pf op = false ∧ kd op = k) := by
  unfold kdP at h
  split at h
  · rename_i hp; exact .inl ⟨hp, h.symm⟩
  · rename_i hp; exact .inr ⟨hp, h⟩
theorem kd_known {pf : List FuncId} {op : Op} (h : kdP pf op ≠ .no) : kd op ≠ .no := by
  intro hk
  apply h
  unfold kdP
  split
  · rename_i hp; obtain ⟨f, a, t, rfl⟩ := isP_call hp; simp [kd] at hk
  · exact hk

section
variable {T : TT} {n0 : Nat} {e e' : Env} {h h' h2 : Heap} {v : Value}

theorem eOps_congr : ∀ (xs : List Operand), (∀ x ∈ xs, eo e x = eo e' x) → eOps e xs = eOps e' xs := by
  intro xs
  induction xs with
  | nil => intro _; rfl
  | cons x r ih => intro hx; simp only [eOps]; rw [hx x (List.mem_cons_self ..), ih fun y hy => hx y (List.mem_cons_of_mem _ hy)]

theorem eParts_congr : ∀ (xs : List (Nat × Operand)), (∀ x ∈ xs.map (·.2), eo e x = eo e' x) → eParts e xs = eParts e' xs := by
  intro xs
  induction xs with
  | nil => intro _; rfl
  | cons x r ih => intro hx; obtain ⟨i, x⟩ := x; simp only [eParts]; rw [hx x (by simp), ih fun y hy => hx y (List.mem_cons_of_mem _ hy)]

theorem oOpt_congr {x : Option Operand} (hx : ∀ y ∈ x.toArray, eo e y = eo e' y) : oOpt e x = oOpt e' x := by
  cases x with
  | none => rfl
  | some y => simp only [oOpt]; rw [hx y (by simp)]

theorem aOp_congr (op : Op) (hx : ∀ x ∈ op.operands, eo e x = eo e' x) : aOp T n0 e h op = aOp T n0 e' h op := by
  cases op
  case call c =>
    obtain ⟨callee, args, ts⟩ := c
    have ha : ∀ x ∈ args.toList, eo e x = eo e' x := fun x hxx => hx x (by simp [Op.operands, Call.operands]; right; exact Array.mem_toList_iff.1 hxx)
    cases callee <;> try rfl
    rename_i b
    cases b <;> try rfl
    all_goals
      simp only [aOp]
      obtain ⟨args⟩ := args
      simp only at ha ⊢
      rcases args with _ | ⟨x, _ | ⟨y, _ | ⟨z, q⟩⟩⟩ <;> (try simp only) <;> (try rw [ha x (by simp)]) <;> (try rw [ha y (by simp)])
    all_goals
      obtain ⟨ts⟩ := ts
      rcases ts with _ | ⟨t, _ | ⟨u, _ | ⟨u2, us⟩⟩⟩ <;> (try simp only) <;> (try rw [ha x (by simp)]) <;> (try rw [ha y (by simp)])
  case build t ps =>
    simp only [aOp]
    rw [eParts_congr ps.toList (fun x hxx => hx x (by simpa [Op.operands] using hxx))]
  case buildSlice t n ps =>
    simp only [aOp]
    rw [eParts_congr ps.toList (fun x hxx => hx x (by simpa [Op.operands] using hxx))]
  case makeFunc fn xs ys =>
    cases fn <;> try rfl
    simp only [aOp]
    rw [eOps_congr xs.toList (fun x hxx => hx x (by simp only [Op.operands]; exact Array.mem_append.2 (.inl (Array.mem_toList_iff.1 hxx)))), eOps_congr ys.toList (fun x hxx => hx x (by simp only [Op.operands]; exact Array.mem_append.2 (.inr (Array.mem_toList_iff.1 hxx))))]
  case slice t x lo hi mx =>
    simp only [aOp]
    rw [hx x (by simp [Op.operands]), oOpt_congr (x := lo) (fun y hy => hx y (by simp [Op.operands]; simp at hy; simp [hy])), oOpt_congr (x := hi) (fun y hy => hx y (by simp [Op.operands]; simp at hy; simp [hy])), oOpt_congr (x := mx) (fun y hy => hx y (by simp [Op.operands]; simp at hy; simp [hy]))]
  all_goals first
    | rfl
    | (simp only [aOp]; rename_i x; rw [hx x (by simp [Op.operands])]; done)
    | (simp only [aOp]; rename_i t x; rw [hx x (by simp [Op.operands])]; done)
    | (simp only [aOp]; rename_i x t; rw [hx x (by simp [Op.operands])]; done)
    | (simp only [aOp]; rename_i t u x; rw [hx x (by simp [Op.operands])]; done)
    | (simp only [aOp]; rename_i t x u; rw [hx x (by simp [Op.operands])]; done)
    | (simp only [aOp]; rename_i t x y; rw [hx x (by simp [Op.operands]), hx y (by simp [Op.operands])]; done)
    | (simp only [aOp]; rename_i x y z; rw [hx x (by simp [Op.operands]), hx y (by simp [Op.operands]), hx z (by simp [Op.operands])]; done)
    | (simp only [aOp]; rename_i op t x y u; rw [hx x (by simp [Op.operands]), hx y (by simp [Op.operands])]; done)
    | (simp only [aOp]; rename_i x t u ok; rw [hx x (by simp [Op.operands])]; done)

theorem aOp_pure (op : Op) (hk : kd op = .pure) (ho : aOp T n0 e h op = some (v, h')) : h' = h ∧ ∀ h2, aOp T n0 e h2 op = some (v, h2) := by
  cases op
  all_goals try (simp [kd] at hk; done)
  case makeFunc fn xs ys =>
    cases fn <;> simp [kd] at hk
    simp only [aOp] at ho ⊢
    obtain ⟨p, hp, ho⟩ := Option.bind_eq_some_iff.1 ho
    obtain ⟨q, hq, ho⟩ := Option.map_eq_some_iff.1 ho
    cases ho
    exact ⟨rfl, fun h2 => by simp [hp, hq]⟩
  case call c =>
    obtain ⟨callee, args, ts⟩ := c
    cases callee with
    | builtin b =>
      obtain ⟨args⟩ := args
      obtain ⟨ts⟩ := ts
      cases b <;> simp [kd] at hk
      · rcases args with _ | ⟨x, _ | ⟨y, z⟩⟩ <;> rcases ts with _ | ⟨t, _ | ⟨t2, ts⟩⟩ <;> simp only [aOp] at ho ⊢ <;> try (cases ho; done)
        obtain ⟨p, hp, ho⟩ := Option.bind_eq_some_iff.1 ho
        obtain ⟨q, hq, ho⟩ := Option.bind_eq_some_iff.1 ho
        split at ho
        · rename_i hd _; cases ho; exact ⟨rfl, fun h2 => by simp only [hp, hq, hd, Option.bind_some]⟩
        · rename_i hd _; cases ho; exact ⟨rfl, fun h2 => by simp only [hp, hq, hd, Option.bind_some]⟩
        · cases ho
      all_goals
        rcases args with _ | ⟨x, _ | ⟨y, _ | ⟨z, zs⟩⟩⟩ <;> simp only [aOp] at ho ⊢ <;> try (cases ho; done)
        obtain ⟨p, hp, ho⟩ := Option.bind_eq_some_iff.1 ho
        obtain ⟨q, hq, ho⟩ := Option.bind_eq_some_iff.1 ho
        split at ho
        · split at ho
          · rename_i hd; cases ho; exact ⟨rfl, fun h2 => by simp [hp, hq, hd]⟩
          · cases ho
        · cases ho
    | _ => simp [kd] at hk
  case pick c a b =>
    simp only [aOp] at ho ⊢
    obtain ⟨p, hp, ho⟩ := Option.bind_eq_some_iff.1 ho
    split at ho
    · split at ho
      · rename_i hd
        obtain ⟨q, hq, ho⟩ := Option.map_eq_some_iff.1 ho
        cases ho; exact ⟨rfl, fun h2 => by simp [hp, hq, hd]⟩
      · rename_i hd
        obtain ⟨q, hq, ho⟩ := Option.map_eq_some_iff.1 ho
        cases ho; exact ⟨rfl, fun h2 => by simp [hp, hq, hd]⟩
    · cases ho
  case nilCheck x =>
    simp only [aOp] at ho ⊢
    obtain ⟨p, hp, ho⟩ := Option.bind_eq_some_iff.1 ho
    split at ho
    · cases ho; exact ⟨rfl, fun h2 => by simp [hp]⟩
    · cases ho; exact ⟨rfl, fun h2 => by simp [hp]⟩
    · cases ho
  case extract x k =>
    simp only [aOp] at ho ⊢
    obtain ⟨p, hp, ho⟩ := Option.bind_eq_some_iff.1 ho
    split at ho
    · obtain ⟨q, hq, ho⟩ := Option.map_eq_some_iff.1 ho
      cases ho; refine ⟨rfl, fun h2 => by rw [hp]; simp only [Option.bind_some]; rw [hq]; rfl⟩
    · cases ho
  case makeInterface t x =>
    simp only [aOp] at ho ⊢
    obtain ⟨p, hp, ho⟩ := Option.bind_eq_some_iff.1 ho
    obtain ⟨q, hq, ho⟩ := Option.bind_eq_some_iff.1 ho
    split at ho
    · cases ho
    · cases ho
    · cases ho; exact ⟨rfl, fun h2 => by simp only [hp, hq, Option.bind_some]⟩
  all_goals
    simp only [aOp] at ho ⊢
    repeat (rw [Option.bind_eq_some_iff] at ho; obtain ⟨_, _, ho⟩ := ho)
    rw [Option.map_eq_some_iff] at ho
    obtain ⟨_, _, ho⟩ := ho
    cases ho
    refine ⟨rfl, fun h2 => ?_⟩
    simp_all only [Option.bind_some, Option.map_some]

theorem aOp_load {t : TypeId} {x : Operand} (ho : aOp T n0 e h (.load t x) = some (v, h')) : h' = h ∧ ∃ p, eo e x = some p ∧ aLoad T t p h = some v := by
  simp only [aOp] at ho
  obtain ⟨p, hp, ho⟩ := Option.bind_eq_some_iff.1 ho
  obtain ⟨u, hu, ho⟩ := Option.map_eq_some_iff.1 ho
  cases ho
  exact ⟨rfl, p, hp, hu⟩

theorem aOp_ext (op : Op) (hk : kd op = .ext) (ho : aOp T n0 e h op = some (v, h')) : ∃ x, h' = h ++ x := by
  cases op
  all_goals try (simp [kd] at hk; done)
  case call c =>
    obtain ⟨callee, args, ts⟩ := c
    cases callee with
    | builtin b => cases b <;> simp [kd] at hk
    | _ => simp [aOp] at ho
  case alloc t =>
    simp only [aOp] at ho
    obtain ⟨p, hp, ho⟩ := Option.map_eq_some_iff.1 ho
    simp only [allocB, Prod.mk.injEq] at ho
    exact ⟨_, ho.2.symm⟩
  case box t x =>
    simp only [aOp] at ho
    obtain ⟨p, hp, ho⟩ := Option.map_eq_some_iff.1 ho
    simp only [allocB, Prod.mk.injEq] at ho
    exact ⟨_, ho.2.symm⟩
  case buildSlice t n ps =>
    simp only [aOp, aBuildSlice] at ho
    obtain ⟨p, hp, ho⟩ := Option.bind_eq_some_iff.1 ho
    obtain ⟨i, hi, ho⟩ := Option.bind_eq_some_iff.1 ho
    split at ho
    · obtain ⟨q, hq, ho⟩ := Option.bind_eq_some_iff.1 ho
      split at ho
      · obtain ⟨u, hu, ho⟩ := Option.map_eq_some_iff.1 ho
        simp only [Prod.mk.injEq] at ho
        exact ⟨_, ho.2.symm⟩
      · cases ho
    · cases ho
  case makeSlice t l c =>
    simp only [aOp, aMakeSlice] at ho
    obtain ⟨l', hl, ho⟩ := Option.bind_eq_some_iff.1 ho
    obtain ⟨c', hc, ho⟩ := Option.bind_eq_some_iff.1 ho
    obtain ⟨i, hi, ho⟩ := Option.bind_eq_some_iff.1 ho
    split at ho
    · obtain ⟨q, hq, ho⟩ := Option.bind_eq_some_iff.1 ho
      split at ho
      · simp only [Option.some.injEq, Prod.mk.injEq] at ho
        exact ⟨_, ho.2.symm⟩
      · cases ho
    · cases ho
  case makeFunc fn xs ys => cases fn <;> simp [kd] at hk
end
end Go.Ab

namespace Go.Ab

def step (P : Program) (T : TT) (n0 : Nat) (ops : Array Oper) (o : Oper) (e : Env) (h : Heap) (v : Value) (h' : Heap) : Prop :=
  ∃ b, aWant ops o e = some b ∧ if b = true then
    (match o.op with
      | .call { callee := .value fo, args, argTypes } => aCallW P e h { callee := .value fo, args, argTypes } (fun out h'' => out = .ret v ∧ h'' = h') ∧ ∃ x, h' = h ++ x
      | op => aOp T n0 e h op = some (v, h'))
    else v = undef ∧ h' = h

def aOpsD (P : Program) (T : TT) (n0 : Nat) (ops : Array Oper) (K : Env → Heap → Prop) : List Oper → Env → Heap → Prop
  | [], e, h => K e h
  | o :: rest, e, h => opt (aWant ops o e) fun b => if b = true then
      (match o.op with
        | .call { callee := .value fo, args, argTypes } => ∃ v h', aCallW P e h { callee := .value fo, args, argTypes } (fun out h'' => out = .ret v ∧ h'' = h') ∧ (∃ x, h' = h ++ x) ∧ aOpsD P T n0 ops K rest (put e o.dst v) h'
        | op => opt (aOp T n0 e h op) fun p => aOpsD P T n0 ops K rest (put e o.dst p.1) p.2)
      else aOpsD P T n0 ops K rest (put e o.dst undef) h

/-- The same, with what is known of calls that read no heap. -/
def aOpsDP (pf : List FuncId) (P : Program) (T : TT) (n0 : Nat) (ops : Array Oper) (K : Env → Heap → Prop) : List Oper → Env → Heap → Prop
  | [], e, h => K e h
  | o :: rest, e, h => opt (aWant ops o e) fun b => if b = true then
      (match o.op with
        | .call { callee := .value fo, args, argTypes } => ∃ v h', aCallW P e h { callee := .value fo, args, argTypes } (fun out h'' => out = .ret v ∧ h'' = h') ∧ (∃ x, h' = h ++ x) ∧
            (isP pf o.op = true → h' = h ∧ ∀ h2, aCallW P e h2 { callee := .value fo, args, argTypes } (fun out h'' => out = .ret v ∧ h'' = h2)) ∧ aOpsDP pf P T n0 ops K rest (put e o.dst v) h'
        | op => opt (aOp T n0 e h op) fun p => aOpsDP pf P T n0 ops K rest (put e o.dst p.1) p.2)
      else aOpsDP pf P T n0 ops K rest (put e o.dst undef) h
theorem aOpsD.toP {P : Program} {T : TT} {n0 : Nat} {ops : Array Oper} {K : Env → Heap → Prop} : ∀ {l : List Oper} {e : Env} {h : Heap}, aOpsD P T n0 ops K l e h → aOpsDP [] P T n0 ops K l e h := by
  intro l
  induction l with
  | nil => intro e h hk; exact hk
  | cons o rest ih =>
    intro e h hk
    simp only [aOpsD] at hk
    simp only [aOpsDP]
    obtain ⟨b, hb, hk⟩ := hk
    refine ⟨b, hb, ?_⟩
    cases b with
    | false => simp only [Bool.false_eq_true, if_false] at hk ⊢; exact ih hk
    | true =>
      simp only [if_true] at hk ⊢
      split at hk
      · rename_i fo args argTypes ho
        obtain ⟨v, h', hc, hx, hk⟩ := hk
        exact ⟨v, h', hc, hx, fun hp => (by rw [isP_nil] at hp; cases hp), ih hk⟩
      · obtain ⟨p, hp, hk⟩ := hk
        exact ⟨p, hp, ih hk⟩

section
variable {pf : List FuncId} {r : Option Nat} {bs : Bs} {P : Program} {T : TT} {n n0 B0 : Nat} {K : Env → Heap → Prop} {Q : AX → Env → Heap → Prop} {e e' : Env} {h h1 h' : Heap} {m m1 : Map} {w w1 : World} {a : Act} {ops : Array Oper}

theorem aOpsD_cons {o : Oper} {rest : List Oper} (hk : aOpsDP pf P T n0 ops K (o :: rest) e h) : ∃ v h', step P T n0 ops o e h v h' ∧ (isP pf o.op = true → h' = h ∧ ∀ h2, step P T n0 ops o e h2 v h2) ∧ aOpsDP pf P T n0 ops K rest (put e o.dst v) h' := by
  simp only [aOpsDP] at hk
  obtain ⟨b, hb, hk⟩ := hk
  cases b with
  | false => exact ⟨undef, h, ⟨false, hb, by simp⟩, fun _ => ⟨rfl, fun h2 => ⟨false, hb, by simp⟩⟩, by simpa using hk⟩
  | true =>
    simp only [if_true] at hk
    split at hk
    · rename_i fo args argTypes ho
      obtain ⟨v, h', hc, hx, hp, hk⟩ := hk
      exact ⟨v, h', ⟨true, hb, by simp only [if_true, ho]; exact ⟨hc, hx⟩⟩, fun hpp => ⟨(hp hpp).1, fun h2 => ⟨true, hb, by simp only [if_true, ho]; exact ⟨(hp hpp).2 h2, [], by simp⟩⟩⟩, hk⟩
    · rename_i hno
      obtain ⟨p, hp, hk⟩ := hk
      refine ⟨p.1, p.2, ⟨true, hb, ?_⟩, fun hpp => ?_, hk⟩
      · simp only [if_true]
        exact hp
      · obtain ⟨f, a, t, hoo⟩ := isP_call hpp
        exact absurd hoo (hno _ _ _)

theorem aOpsD_trace : ∀ (l : List Oper) (e : Env) (h : Heap), aOpsDP pf P T n0 ops K l e h →
    ∃ (V : Nat → Value) (H : Nat → Heap) (E : Nat → Env), E 0 = e ∧ H 0 = h ∧ (∀ i o, l[i]? = some o → step P T n0 ops o (E i) (H i) (V i) (H (i + 1)) ∧ E (i + 1) = put (E i) o.dst (V i) ∧ (isP pf o.op = true → H (i + 1) = H i ∧ ∀ h2, step P T n0 ops o (E i) h2 (V i) h2)) ∧ K (E l.length) (H l.length) := by
  intro l
  induction l with
  | nil => intro e h hk; exact ⟨fun _ => undef, fun _ => h, fun _ => e, rfl, rfl, fun i o hi => by simp at hi, hk⟩
  | cons o rest ih =>
    intro e h hk
    obtain ⟨v, h', hs, hpl, hk⟩ := aOpsD_cons hk
    obtain ⟨V, H, E, h1, h2, h3, h4⟩ := ih _ _ hk
    refine ⟨fun i => match i with | 0 => v | i + 1 => V i, fun i => match i with | 0 => h | i + 1 => H i, fun i => match i with | 0 => e | i + 1 => E i, rfl, rfl, ?_, by simpa using h4⟩
    intro i x hx
    cases i with
    | zero =>
      simp only [List.getElem?_cons_zero, Option.some.injEq] at hx
      subst hx
      refine ⟨?_, ?_, ?_⟩
      · show step P T n0 ops o e h v (H 0); rw [h2]; exact hs
      · show E 0 = _; rw [h1]
      · show isP pf o.op = true → H 0 = h ∧ _; rw [h2]; exact hpl
    | succ i => exact h3 i x (by simpa using hx)

/-- One operation, whatever follows. -/
theorem step_sound (hT : TT.ok P T) {o : Oper} {v : Value} {i : Nat} (ho : ops[i]? = some o) (hs : step P T n0 ops o e h1 v h') (st : St n0 B0 m1 h1 w1) (he : ERel m1 e a)
    {next : Act → World → Prop} {X : Exit → Act → World → Prop}
    (hn : ∀ m' v' w', VRel m' v v' → Map.le m1 m' → Tr n0 B0 m1 h1 w1 m' h' w' → next (a.put o.dst v') w') : wpOpIn (Wf r) 0 P ops X i next a w1 := by
  obtain ⟨b, hb, hs⟩ := hs
  have hw := want_sound (ops := ops) he hb
  unfold wpOpIn
  simp only [ho]
  rw [hw]
  cases b with
  | false =>
    simp only [Bool.false_eq_true, if_false] at hs ⊢
    obtain ⟨rfl, rfl⟩ := hs
    exact ⟨fun _ _ => trivial, hn m1 undef w1 (undef_rel _) (fun _ _ x => x) (Tr.refl st)⟩
  | true =>
    simp only [if_true] at hs ⊢
    refine ⟨fun _ _ => trivial, ?_⟩
    split at hs
    · rename_i fo args argTypes hop
      obtain ⟨⟨f, as, ht, hk⟩, _⟩ := hs
      rcases hk with ⟨R, hsum, hK⟩ | ⟨R, hsum, hK⟩ | hk
      · obtain ⟨as', hrun, hrel⟩ := target_sound (w := w1) he ht hsum.1 hop
        rw [Oper.semAt_eq _ _ _ (by rw [hop]; simp), hrun]
        refine ⟨fun hx => by simp [Wf] at hx, calls_in ((hsum.2 m1 w1 as' st.rel hrel).mono ?_) _⟩
        rintro en w' ⟨m', out, hs2, hR, hout, htr⟩
        obtain ⟨hdead, h5, h6⟩ := hK out hs2 hR
        subst h6
        obtain ⟨t2, hle⟩ := Tr.inner st hdead htr
        subst h5
        cases en <;> simp only [OutRel] at hout
        exact hn _ _ w' hout hle t2
      · obtain ⟨as', hrun, hrel⟩ := target_sound (w := w1) he ht hsum.1 hop
        rw [Oper.semAt_eq _ _ _ (by rw [hop]; simp), hrun]
        refine ⟨fun hx => by simp [Wf] at hx, calls_in ((hsum.2 m1 w1 as' st.rel.ro hrel).mono ?_) _⟩
        rintro en w' ⟨m', out, hs2, hR, hout, htr⟩
        rw [roH_length] at htr
        rcases hK out hs2 hR with ⟨u, rfl, hpl, h5, h6⟩ | ⟨h5, h6⟩
        · simp only [AOut.ret.injEq] at h5
          subst h5 h6
          cases en <;> simp only [OutRel] at hout
          have := hout.plain_eq hpl
          subst this
          exact hn m1 _ w' (VRel.of_plain _ _ hpl) (fun _ _ x => x) (Tr.innerNone st htr)
        · subst h5 h6
          obtain ⟨t2, hle⟩ := Tr.innerRo st htr
          cases en <;> simp only [OutRel] at hout
          exact hn _ _ w' hout hle t2
      · obtain ⟨s, hs', as2, R, hsum, hro, E, hsub, hK⟩ := hk
        obtain ⟨as', hrun, hrel⟩ := target_sound (w := w1) he ht hsum.1 hop
        rw [Oper.semAt_eq _ _ _ (by rw [hop]; simp), hrun]
        refine ⟨fun hx => by simp [Wf] at hx, calls_in ((hsum.2 (pickMap s m1) w1 as' (E.rel st.rel) (VRel.of_subL as2 as as' hsub hrel)).mono ?_) _⟩
        rintro en w' ⟨m', out, hs2, hR, hout, htr⟩
        obtain ⟨t2, hmap⟩ := call_step st E hro htr
        obtain ⟨h5, h6⟩ := hK out hs2 hR
        subst h6
        cases out with
        | ret u =>
          cases en <;> simp only [OutRel] at hout
          rename_i v'
          simp only [renOut, AOut.ret.injEq] at h5
          subst h5
          exact hn _ v' w' (hout.ren hmap) (mloc_append _ _) t2
        | panic u => simp [renOut] at h5
    · have hnd : ∀ c, o.op ≠ .defer c := by
        intro c hc; rw [hc] at hs; simp [aOp] at hs
      obtain ⟨m', v', w', hr, hv, hle, htr⟩ := aOp_sound hT st he o (v := v) (h' := h') hs
      rw [Oper.semAt_eq _ _ _ hnd]
      have fin := hn m' v' w' hv hle htr
      rcases hr with hr | ⟨hr, rfl⟩
      · rw [hr]; exact fin
      · rw [hr]; exact fin

def reads (ops : Array Oper) (o : Oper) : List Nat :=
  o.op.operands.toList.filterMap (fun x => match x with | .tmp t => some t | _ => none) ++ match o.guard with | some (j, _) => ((ops[j]?).bind (·.dst)).toList | none => []

theorem eo_of_reads {o : Oper} (hr : ∀ t ∈ reads ops o, e t = e' t) : ∀ x ∈ o.op.operands, eo e x = eo e' x := by
  intro x hx
  cases x with
  | tmp t => exact hr t (List.mem_append.2 (.inl (List.mem_filterMap.2 ⟨.tmp t, Array.mem_toList_iff.2 hx, rfl⟩)))
  | _ => rfl

theorem aWant_congr {o : Oper} (hr : ∀ t ∈ reads ops o, e t = e' t) : aWant ops o e = aWant ops o e' := by
  unfold aWant
  cases hg : o.guard with
  | none => rfl
  | some p =>
    obtain ⟨j, want⟩ := p
    simp only
    cases hd : (ops[j]?).bind (·.dst) with
    | none => rfl
    | some t => simp only [Option.bind_some]; rw [hr t (List.mem_append.2 (.inr (by simp [hg, hd])))]

theorem callTarget_congr {fo : Operand} {args : Array Operand} {ts : Array TypeId} (hx : ∀ x ∈ (Op.call { callee := .value fo, args, argTypes := ts }).operands, eo e x = eo e' x) :
    callTarget e { callee := .value fo, args, argTypes := ts } = callTarget e' { callee := .value fo, args, argTypes := ts } := by
  unfold callTarget
  simp only
  rw [hx fo (by simp [Op.operands, Call.operands]), eOps_congr args.toList fun x hxx => hx x (by simp [Op.operands, Call.operands]; right; exact Array.mem_toList_iff.1 hxx)]

/-- The same operation over another environment that agrees at what it reads. -/
theorem step_congr {o : Oper} {v : Value} (hr : ∀ t ∈ reads ops o, e t = e' t) (hs : step P T n0 ops o e h v h') : step P T n0 ops o e' h v h' := by
  obtain ⟨b, hb, hs⟩ := hs
  refine ⟨b, by rw [← aWant_congr hr]; exact hb, ?_⟩
  cases b with
  | false => exact hs
  | true =>
    have hx := eo_of_reads hr
    simp only [if_true] at hs ⊢
    split at hs
    · rename_i fo args argTypes hop
      obtain ⟨⟨f, as, ht, rest⟩, hxx⟩ := hs
      rw [hop] at hx
      exact ⟨⟨f, as, by rw [← callTarget_congr hx]; exact ht, rest⟩, hxx⟩
    · rw [← aOp_congr _ hx]; exact hs

theorem step_ext {o : Oper} {v : Value} (hk : kd o.op = .ext) (hs : step P T n0 ops o e h v h') : ∃ x, h' = h ++ x := by
  obtain ⟨b, hb, hs⟩ := hs
  cases b with
  | false => simp at hs; exact ⟨[], by simp [hs.2]⟩
  | true =>
    simp only [if_true] at hs
    split at hs
    · rename_i fo args argTypes hop
      exact hs.2
    · exact aOp_ext _ hk hs
end
end Go.Ab

namespace Go.Ab

structure Row where
  ix : Nat
  dst : Option Nat
  rd : List Nat
  k : Kd
  msk : Nat
  low : Bool

def maskE (acc : List Row) : List Edge → Nat
  | [] => 0
  | e :: q => if Region.binds .any e = true then maskE acc q ||| 2 ^ e.on ||| ((acc[e.on]?).map (·.msk)).getD 0 else maskE acc q

def rowOf (pf : List FuncId) (ops : Array Oper) (acc : List Row) (o : Oper) : Row :=
  { ix := acc.length, dst := o.dst, rd := reads ops o, k := kdP pf o.op, msk := maskE acc o.after.toList, low := o.after.toList.all fun e => decide (e.on < acc.length) }

def rowsOf (pf : List FuncId) (ops : Array Oper) : List Oper → List Row → List Row
  | [], acc => acc
  | o :: q, acc => rowsOf pf ops q (acc ++ [rowOf pf ops acc o])

def hop (k : Kd) : Bool := k == .ext || k == .chg

/-- Two different operations of a region, x before y in the text. -/
def pairOk (x y : Row) : Bool :=
  (match x.dst with | some t => y.dst != some t | none => true) &&
  (match x.dst with | some t => !y.rd.contains t || y.msk.testBit x.ix | none => true) &&
  (match y.dst with | some t => !x.rd.contains t || y.msk.testBit x.ix | none => true) &&
  (!(hop x.k && hop y.k) || y.msk.testBit x.ix) &&
  (!(x.k == .load && y.k == .chg) || y.msk.testBit x.ix) &&
  (!(x.k == .chg && y.k == .load) || y.msk.testBit x.ix)

def rowOk (n : Nat) (x : Row) : Bool := x.low && x.k != .no && (match x.dst with | some t => decide (t < n) | none => true)

def allPairs : List Row → Bool
  | [] => true
  | x :: q => q.all (pairOk x) && allPairs q

def drawOkP (pf : List FuncId) (n : Nat) (l : List Oper) : Bool := (rowsOf pf l.toArray l []).all (rowOk n) && allPairs (rowsOf pf l.toArray l [])
abbrev drawOk (n : Nat) (l : List Oper) : Bool := drawOkP [] n l

def closed (l : List Oper) (S : Nat → Prop) : Prop := ∀ (i : Nat) (o : Oper), l[i]? = some o → S i → ∀ e ∈ o.after, Region.binds .any e = true → S e.on

theorem maskE_bit {acc : List Row} {S : Nat → Prop} (hacc : ∀ (i : Nat) (x : Row), acc[i]? = some x → S i → ∀ j, x.msk.testBit j = true → S j) :
    ∀ (es : List Edge), (∀ e ∈ es, Region.binds .any e = true → S e.on) → ∀ j, (maskE acc es).testBit j = true → S j := by
  intro es
  induction es with
  | nil => intro _ j hj; simp [maskE] at hj
  | cons e q ih =>
    intro he j hj
    unfold maskE at hj
    split at hj
    · rename_i hb
      rw [Nat.testBit_or, Nat.testBit_or, Bool.or_eq_true, Bool.or_eq_true] at hj
      have hS := he e (List.mem_cons_self ..) hb
      rcases hj with (hj | hj) | hj
      · exact ih (fun x hx => he x (List.mem_cons_of_mem _ hx)) j hj
      · rw [Nat.testBit_two_pow] at hj
        have : e.on = j := by simpa using hj
        subst this; exact hS
      · cases hx : acc[e.on]? with
        | none => simp [hx] at hj
        | some x => rw [hx] at hj; exact hacc _ x hx hS j (by simpa using hj)
    · exact ih (fun x hx => he x (List.mem_cons_of_mem _ hx)) j hj

theorem rowsOf_spec {pf : List FuncId} {ops : Array Oper} : ∀ (l2 : List Oper) (l : List Oper) (acc : List Row), acc.length = l.length →
    (∀ (i : Nat) (x : Row), acc[i]? = some x → ∃ o, (l ++ l2)[i]? = some o ∧ x.ix = i ∧ x.dst = o.dst ∧ x.rd = reads ops o ∧ x.k = kdP pf o.op ∧ (x.low = true → ∀ e ∈ o.after, e.on < i) ∧ ∀ S, closed (l ++ l2) S → S i → ∀ j, x.msk.testBit j = true → S j) →
    (rowsOf pf ops l2 acc).length = l.length + l2.length ∧ ∀ (i : Nat) (x : Row), (rowsOf pf ops l2 acc)[i]? = some x → ∃ o, (l ++ l2)[i]? = some o ∧ x.ix = i ∧ x.dst = o.dst ∧ x.rd = reads ops o ∧ x.k = kdP pf o.op ∧ (x.low = true → ∀ e ∈ o.after, e.on < i) ∧ ∀ S, closed (l ++ l2) S → S i → ∀ j, x.msk.testBit j = true → S j := by
  intro l2
  induction l2 with
  | nil => intro l acc hl hs; exact ⟨by simp [rowsOf, hl], by simpa [rowsOf] using hs⟩
  | cons o q ih =>
    intro l acc hl hs
    have heq : l ++ o :: q = (l ++ [o]) ++ q := by simp
    obtain ⟨h1, h2⟩ := ih (l ++ [o]) (acc ++ [rowOf pf ops acc o]) (by simp [hl]) (by
      intro i x hx
      rcases Nat.lt_or_ge i acc.length with hi | hi
      · rw [List.getElem?_append_left hi] at hx
        rw [← heq]; exact hs i x hx
      · have hlt := (List.getElem?_eq_some_iff.1 hx).1
        simp at hlt
        have hie : i = acc.length := by omega
        subst hie
        rw [List.getElem?_append_right (Nat.le_refl _)] at hx
        simp at hx
        subst hx
        rw [← heq]
        have ho : (l ++ o :: q)[acc.length]? = some o := by rw [hl]; simp
        refine ⟨o, ho, rfl, rfl, rfl, rfl, ?_, ?_⟩
        · intro hlow e he
          simp only [rowOf, List.all_eq_true, decide_eq_true_eq] at hlow
          exact hlow e (Array.mem_toList_iff.2 he)
        · intro S hc hS j hj
          exact maskE_bit (acc := acc) (S := S) (fun i x hx hSi j hj => by obtain ⟨_, _, _, _, _, _, _, h7⟩ := hs i x hx; exact h7 S hc hSi j hj)
            o.after.toList (fun e he hb => hc _ o ho hS e (Array.mem_toList_iff.1 he) hb) j hj)
    refine ⟨by rw [rowsOf, h1]; simp; omega, ?_⟩
    intro i x hx
    rw [heq]
    exact h2 i x hx

theorem allPairs_get : ∀ (l : List Row), allPairs l = true → ∀ (i j : Nat) (x y : Row), i < j → l[i]? = some x → l[j]? = some y → pairOk x y = true := by
  intro l
  induction l with
  | nil => intro _ i j x y _ hx; simp at hx
  | cons a q ih =>
    intro ha i j x y hij hx hy
    simp only [allPairs, Bool.and_eq_true, List.all_eq_true] at ha
    cases j with
    | zero => omega
    | succ j =>
      simp only [List.getElem?_cons_succ] at hy
      cases i with
      | zero => simp at hx; subst hx; exact ha.1 y (List.mem_of_getElem? hy)
      | succ i => exact ih ha.2 i j x y (by omega) (by simpa using hx) hy

/-- What the check tells. -/
structure Drawn (pf : List FuncId) (n : Nat) (l : List Oper) : Prop where
  low : ∀ (i : Nat) (o : Oper), l[i]? = some o → ∀ e ∈ o.after, e.on < i
  known : ∀ (i : Nat) (o : Oper), l[i]? = some o → kdP pf o.op ≠ .no
  dst : ∀ (i : Nat) (o : Oper) (t : Nat), l[i]? = some o → o.dst = some t → t < n
  uniq : ∀ (i j : Nat) (o p : Oper) (t : Nat), l[i]? = some o → l[j]? = some p → o.dst = some t → p.dst = some t → i = j
  /- a later one stands behind an earlier one in every order -/
  wr : ∀ (i j : Nat) (o p : Oper) (t : Nat) (S : Nat → Prop), i < j → l[i]? = some o → l[j]? = some p → o.dst = some t → t ∈ reads l.toArray p → closed l S → S j → S i
  rw : ∀ (i j : Nat) (o p : Oper) (t : Nat) (S : Nat → Prop), i < j → l[i]? = some o → l[j]? = some p → p.dst = some t → t ∈ reads l.toArray o → closed l S → S j → S i
  hh : ∀ (i j : Nat) (o p : Oper) (S : Nat → Prop), i < j → l[i]? = some o → l[j]? = some p → hop (kdP pf o.op) = true → hop (kdP pf p.op) = true → closed l S → S j → S i
  lm : ∀ (i j : Nat) (o p : Oper) (S : Nat → Prop), i < j → l[i]? = some o → l[j]? = some p → kdP pf o.op = .load → kdP pf p.op = .chg → closed l S → S j → S i
  ml : ∀ (i j : Nat) (o p : Oper) (S : Nat → Prop), i < j → l[i]? = some o → l[j]? = some p → kdP pf o.op = .chg → kdP pf p.op = .load → closed l S → S j → S i

theorem Drawn.of {pf : List FuncId} {n : Nat} {l : List Oper} (h : drawOkP pf n l = true) : Drawn pf n l := by
  simp only [drawOkP, Bool.and_eq_true, List.all_eq_true] at h
  obtain ⟨hr, hp⟩ := h
  obtain ⟨hlen, hs⟩ := rowsOf_spec (pf := pf) (ops := l.toArray) l [] [] rfl (fun i x hx => by simp at hx)
  simp only [List.nil_append, List.length_nil, Nat.zero_add] at hlen hs
  have get : ∀ (i : Nat) (o : Oper), l[i]? = some o → ∃ x, (rowsOf pf l.toArray l [])[i]? = some x ∧ x.ix = i ∧ x.dst = o.dst ∧ x.rd = reads l.toArray o ∧ x.k = kdP pf o.op ∧ (x.low = true → ∀ e ∈ o.after, e.on < i) ∧ (∀ S, closed l S → S i → ∀ j, x.msk.testBit j = true → S j) ∧ rowOk n x = true := by
    intro i o ho
    have hlt := (List.getElem?_eq_some_iff.1 ho).1
    have hx : (rowsOf pf l.toArray l [])[i]? = some (rowsOf pf l.toArray l [])[i] := List.getElem?_eq_getElem (by omega)
    obtain ⟨o', ho', h1, h2, h3, h4, h5, h6⟩ := hs i _ hx
    rw [ho] at ho'; cases ho'
    exact ⟨_, hx, h1, h2, h3, h4, h5, h6, hr _ (List.mem_of_getElem? hx)⟩
  have pair : ∀ (i j : Nat) (o p : Oper), i < j → l[i]? = some o → l[j]? = some p → ∃ x y : Row, x.ix = i ∧ x.dst = o.dst ∧ x.rd = reads l.toArray o ∧ x.k = kdP pf o.op ∧ y.dst = p.dst ∧ y.rd = reads l.toArray p ∧ y.k = kdP pf p.op ∧ (∀ S, closed l S → S j → ∀ k, y.msk.testBit k = true → S k) ∧ pairOk x y = true := by
    intro i j o p hij ho hp'
    obtain ⟨x, hx, a1, a2, a3, a4, a5, a6, a7⟩ := get i o ho
    obtain ⟨y, hy, b1, b2, b3, b4, b5, b6, b7⟩ := get j p hp'
    exact ⟨x, y, a1, a2, a3, a4, b2, b3, b4, b6, allPairs_get _ hp i j x y hij hx hy⟩
  have duniq : ∀ (i j : Nat) (o p : Oper) (t : Nat), i < j → l[i]? = some o → l[j]? = some p → o.dst = some t → p.dst = some t → False := by
    intro i j o p t hij ho hp' h1 h2
    obtain ⟨x, y, a1, a2, a3, a4, b2, b3, b4, b6, hk⟩ := pair i j o p hij ho hp'
    simp only [pairOk, Bool.and_eq_true] at hk
    have := hk.1.1.1.1.1
    rw [a2, b2, h1, h2] at this
    simp at this
  refine ⟨?_, ?_, ?_, ?_, ?_, ?_, ?_, ?_, ?_⟩
  · intro i o ho
    obtain ⟨x, hx, a1, a2, a3, a4, a5, a6, a7⟩ := get i o ho
    simp only [rowOk, Bool.and_eq_true] at a7
    exact a5 a7.1.1
  · intro i o ho
    obtain ⟨x, hx, a1, a2, a3, a4, a5, a6, a7⟩ := get i o ho
    simp only [rowOk, Bool.and_eq_true, bne_iff_ne] at a7
    rw [← a4]; exact a7.1.2
  · intro i o t ho ht
    obtain ⟨x, hx, a1, a2, a3, a4, a5, a6, a7⟩ := get i o ho
    simp only [rowOk, Bool.and_eq_true] at a7
    have := a7.2
    rw [a2, ht] at this
    simpa using this
  · intro i j o p t ho hp' h1 h2
    rcases Nat.lt_trichotomy i j with h | h | h
    · exact (duniq i j o p t h ho hp' h1 h2).elim
    · exact h
    · exact (duniq j i p o t h hp' ho h2 h1).elim
  · intro i j o p t S hij ho hp' h1 h2 hc hS
    obtain ⟨x, y, a1, a2, a3, a4, b2, b3, b4, b6, hk⟩ := pair i j o p hij ho hp'
    simp only [pairOk, Bool.and_eq_true] at hk
    have := hk.1.1.1.1.2
    rw [a2, h1, a1] at this
    simp only [b3, Bool.or_eq_true, Bool.not_eq_true', List.contains_eq_mem, h2, decide_true] at this
    exact b6 S hc hS i (by simpa using this)
  · intro i j o p t S hij ho hp' h1 h2 hc hS
    obtain ⟨x, y, a1, a2, a3, a4, b2, b3, b4, b6, hk⟩ := pair i j o p hij ho hp'
    simp only [pairOk, Bool.and_eq_true] at hk
    have := hk.1.1.1.2
    rw [b2, h1, a1] at this
    simp only [a3, Bool.or_eq_true, Bool.not_eq_true', List.contains_eq_mem, h2, decide_true] at this
    exact b6 S hc hS i (by simpa using this)
  · intro i j o p S hij ho hp' h1 h2 hc hS
    obtain ⟨x, y, a1, a2, a3, a4, b2, b3, b4, b6, hk⟩ := pair i j o p hij ho hp'
    simp only [pairOk, Bool.and_eq_true] at hk
    have := hk.1.1.2
    rw [a4, b4, h1, h2, a1] at this
    exact b6 S hc hS i (by simpa using this)
  · intro i j o p S hij ho hp' h1 h2 hc hS
    obtain ⟨x, y, a1, a2, a3, a4, b2, b3, b4, b6, hk⟩ := pair i j o p hij ho hp'
    simp only [pairOk, Bool.and_eq_true] at hk
    have := hk.1.2
    rw [a4, b4, h1, h2, a1] at this
    exact b6 S hc hS i (by simpa using this)
  · intro i j o p S hij ho hp' h1 h2 hc hS
    obtain ⟨x, y, a1, a2, a3, a4, b2, b3, b4, b6, hk⟩ := pair i j o p hij ho hp'
    simp only [pairOk, Bool.and_eq_true] at hk
    have := hk.2
    rw [a4, b4, h1, h2, a1] at this
    exact b6 S hc hS i (by simpa using this)
end Go.Ab

namespace Go.Ab

section
variable {pf : List FuncId} {r : Option Nat} {bs : Bs} {P : Program} {T : TT} {n n0 B0 : Nat} {Q : AX → Env → Heap → Prop} {e e0 e1 : Env} {h h0 h1 h' : Heap} {m m1 : Map} {w w1 : World} {a : Act} {l : List Oper} {V : Nat → Value} {H : Nat → Heap} {E : Nat → Env}

/-- A run of the region in the order of the text. -/
structure Trace (pf : List FuncId) (P : Program) (T : TT) (n0 : Nat) (l : List Oper) (e0 : Env) (V : Nat → Value) (H : Nat → Heap) (E : Nat → Env) : Prop where
  e0 : E 0 = e0
  st : ∀ (i : Nat) (o : Oper), l[i]? = some o → step P T n0 l.toArray o (E i) (H i) (V i) (H (i + 1)) ∧ E (i + 1) = put (E i) o.dst (V i)
  pl : ∀ (i : Nat) (o : Oper), l[i]? = some o → isP pf o.op = true → H (i + 1) = H i ∧ ∀ h2, step P T n0 l.toArray o (E i) h2 (V i) h2

theorem put_ne {d : Option Nat} {v : Value} {t : Nat} (hd : d ≠ some t) : put e d v t = e t := by
  cases d with
  | none => rfl
  | some d => simp only [put]; rw [if_neg (fun h => hd (by rw [h]))]

theorem put_same {v : Value} {t : Nat} : put e (some t) v t = some v := by simp [put]

theorem Trace.other (tr : Trace pf P T n0 l e0 V H E) : ∀ (i : Nat), i ≤ l.length → ∀ t, (∀ (j : Nat) (o : Oper), j < i → l[j]? = some o → o.dst ≠ some t) → E i t = e0 t := by
  intro i
  induction i with
  | zero => intro _ t _; rw [tr.e0]
  | succ i ih =>
    intro hi t ht
    have ho : l[i]? = some l[i] := List.getElem?_eq_getElem (by omega)
    rw [(tr.st i _ ho).2, put_ne (ht i _ (by omega) ho)]
    exact ih (by omega) t fun j o hj => ht j o (by omega)

theorem Trace.at (D : Drawn pf n l) (tr : Trace pf P T n0 l e0 V H E) : ∀ (i : Nat), i ≤ l.length → ∀ (j : Nat) (o : Oper) (t : Nat), j < i → l[j]? = some o → o.dst = some t → E i t = some (V j) := by
  intro i
  induction i with
  | zero => intro _ j o t hj; omega
  | succ i ih =>
    intro hi j o t hj hjo ht
    have ho : l[i]? = some l[i] := List.getElem?_eq_getElem (by omega)
    rw [(tr.st i _ ho).2]
    by_cases hij : j = i
    · subst hij
      rw [ho] at hjo; cases hjo
      rw [ht, put_same]
    · rw [put_ne (fun h => hij (D.uniq j i o _ t hjo ho ht h))]
      exact ih (by omega) j o t (by omega) hjo ht

/-- Steps that make no block and change none leave the heap. -/
theorem step_flat {ops : Array Oper} {o : Oper} {v : Value} (hk : kd o.op = .pure ∨ kd o.op = .load) (hs : step P T n0 ops o e h v h') : h' = h := by
  obtain ⟨b, hb, hs⟩ := hs
  cases b with
  | false => simp at hs; exact hs.2
  | true =>
    simp only [if_true] at hs
    split at hs
    · rename_i hop; rw [hop] at hk; simp [kd] at hk
    · rcases hk with hk | hk
      · exact (aOp_pure _ hk hs).1
      · cases ho : o.op <;> rw [ho] at hk hs <;> try (simp [kd] at hk; done)
        · exact (aOp_load hs).1
        · rename_i fn xs ys; cases fn <;> simp [kd] at hk
        · rename_i c
          obtain ⟨callee, args, ts⟩ := c
          cases callee <;> try (simp [kd] at hk; done)
          rename_i b; cases b <;> simp [kd] at hk

theorem load_of_kd {op : Op} (hk : kd op = .load) : ∃ t x, op = .load t x := by
  cases op <;> try (simp [kd] at hk; done)
  · exact ⟨_, _, rfl⟩
  · rename_i fn xs ys; cases fn <;> simp [kd] at hk
  · rename_i c
    obtain ⟨callee, args, ts⟩ := c
    cases callee <;> try (simp [kd] at hk; done)
    rename_i b; cases b <;> simp [kd] at hk

theorem step_pure_heap {ops : Array Oper} {o : Oper} {v : Value} (hk : kd o.op = .pure) (hs : step P T n0 ops o e h v h') : ∀ h2, step P T n0 ops o e h2 v h2 := by
  obtain ⟨b, hb, hs⟩ := hs
  intro h2
  refine ⟨b, hb, ?_⟩
  cases b with
  | false => simp at hs ⊢; exact hs.1
  | true =>
    simp only [if_true] at hs ⊢
    split at hs
    · rename_i hop; rw [hop] at hk; simp [kd] at hk
    · exact (aOp_pure _ hk hs).2 h2

theorem aLoad_grow {t : TypeId} {p v : Value} {x : Heap} (hl : aLoad T t p h = some v) : aLoad T t p (h ++ x) = some v := by
  unfold aLoad at hl ⊢
  obtain ⟨i, hi, hl⟩ := Option.bind_eq_some_iff.1 hl
  rw [hi]
  simp only [Option.bind_some]
  split at hl
  · rename_i ad _
    obtain ⟨cs, hr, hc⟩ := Option.bind_eq_some_iff.1 hl
    have : readCells (h ++ x) ad i.size = some cs := by
      unfold readCells at hr ⊢
      cases hb : hblk h ad.block with
      | none => simp [hb] at hr
      | some b => rw [hblk_append_left (hblk_lt hb), hb]; rw [hb] at hr; exact hr
    rw [this]
    exact hc
  · cases hl

theorem aLoad_shrink {t : TypeId} {p v : Value} {x : Heap} (hp : ∀ ad, p = .pointer (some ad) → ad.block < h.length) (hl : aLoad T t p (h ++ x) = some v) : aLoad T t p h = some v := by
  unfold aLoad at hl ⊢
  obtain ⟨i, hi, hl⟩ := Option.bind_eq_some_iff.1 hl
  rw [hi]
  simp only [Option.bind_some]
  split at hl
  · rename_i ad _
    obtain ⟨cs, hr, hc⟩ := Option.bind_eq_some_iff.1 hl
    have : readCells h ad i.size = some cs := by
      unfold readCells at hr ⊢
      rw [hblk_append_left (hp ad rfl)] at hr
      exact hr
    rw [this]
    exact hc
  · cases hl

theorem step_load_heap {ops : Array Oper} {o : Oper} {v : Value} (hk : kd o.op = .load) (hs : step P T n0 ops o e h v h') {h2 : Heap}
    (hh : ∀ t p u, (∃ x, o.op = .load t x ∧ eo e x = some p) → aLoad T t p h = some u → aLoad T t p h2 = some u) : step P T n0 ops o e h2 v h2 := by
  obtain ⟨t, x, hop⟩ := load_of_kd hk
  obtain ⟨b, hb, hs⟩ := hs
  refine ⟨b, hb, ?_⟩
  cases b with
  | false => simp at hs ⊢; exact hs.1
  | true =>
    simp only [if_true, hop] at hs ⊢
    obtain ⟨rfl, p, hp, hl⟩ := aOp_load hs
    simp only [aOp, hp, Option.bind_some, hh t p v ⟨x, hop, hp⟩ hl, Option.map_some]

theorem Trace.flat (tr : Trace pf P T n0 l e0 V H E) {i : Nat} {o : Oper} (ho : l[i]? = some o) (hk : kdP pf o.op = .pure ∨ kdP pf o.op = .load) : H (i + 1) = H i := by
  cases hp : isP pf o.op with
  | true => exact (tr.pl i o ho hp).1
  | false =>
    have : kdP pf o.op = kd o.op := by unfold kdP; rw [hp]
    rw [this] at hk
    exact step_flat hk (tr.st i o ho).1

/-- The heap between two places of the run where no operation changes an old block. -/
theorem Trace.grow (D : Drawn pf n l) (tr : Trace pf P T n0 l e0 V H E) {i : Nat} : ∀ (d : Nat), i + d ≤ l.length → (∀ (j : Nat) (o : Oper), i ≤ j → j < i + d → l[j]? = some o → kdP pf o.op ≠ .chg) → ∃ x, H (i + d) = H i ++ x := by
  intro d
  induction d with
  | zero => intro _ _; exact ⟨[], by simp⟩
  | succ d ih =>
    intro hd hm
    obtain ⟨x, hx⟩ := ih (by omega) fun j o h1 h2 => hm j o h1 (by omega)
    have ho : l[i + d]? = some l[i + d] := List.getElem?_eq_getElem (by omega)
    have hs := (tr.st _ _ ho).1
    have hk := hm _ _ (by omega) (by omega) ho
    have hno := D.known _ _ ho
    have : ∃ y, H (i + d + 1) = H (i + d) ++ y := by
      cases hkk : kdP pf l[i + d].op with
      | pure => exact ⟨[], by rw [tr.flat ho (.inl hkk)]; simp⟩
      | load => exact ⟨[], by rw [tr.flat ho (.inr hkk)]; simp⟩
      | ext => rcases kdP_cases hkk with ⟨_, h2⟩ | ⟨_, h2⟩; cases h2; exact step_ext h2 hs
      | chg => exact absurd hkk hk
      | no => exact absurd hkk hno
    obtain ⟨y, hy⟩ := this
    exact ⟨x ++ y, by rw [show i + (d + 1) = i + d + 1 by omega, hy, hx]; simp⟩

theorem Trace.still (D : Drawn pf n l) (tr : Trace pf P T n0 l e0 V H E) {i : Nat} : ∀ (d : Nat), i + d ≤ l.length → (∀ (j : Nat) (o : Oper), i ≤ j → j < i + d → l[j]? = some o → hop (kdP pf o.op) = false) → H (i + d) = H i := by
  intro d
  induction d with
  | zero => intro _ _; rfl
  | succ d ih =>
    intro hd hm
    have ho : l[i + d]? = some l[i + d] := List.getElem?_eq_getElem (by omega)
    have hs := (tr.st _ _ ho).1
    have hk := hm _ _ (by omega) (by omega) ho
    have hno := D.known _ _ ho
    have hfl : kdP pf l[i + d].op = .pure ∨ kdP pf l[i + d].op = .load := by
      cases hkk : kdP pf l[i + d].op <;> rw [hkk] at hk hno <;> simp [hop] at hk hno ⊢
    rw [show i + (d + 1) = i + d + 1 by omega, tr.flat ho hfl]
    exact ih (by omega) fun j o h1 h2 => hm j o h1 (by omega)

/-- Where a drawn run stands. -/
structure At (pf : List FuncId) (l : List Oper) (e0 : Env) (V : Nat → Value) (H : Nat → Heap) (S : Nat → Prop) (e1 : Env) (h1 : Heap) : Prop where
  done : ∀ (j : Nat) (o : Oper) (t : Nat), l[j]? = some o → o.dst = some t → S j → e1 t = some (V j)
  old : ∀ (t : Nat), (∀ (j : Nat) (o : Oper), l[j]? = some o → o.dst = some t → ¬ S j) → e1 t = e0 t
  heap : ∃ p, p ≤ l.length ∧ h1 = H p ∧ (∀ (j : Nat) (o : Oper), j < p → l[j]? = some o → hop (kdP pf o.op) = true → S j) ∧ (∀ (j : Nat) (o : Oper), p ≤ j → l[j]? = some o → hop (kdP pf o.op) = true → ¬ S j)

def plus (S : Nat → Prop) (i : Nat) : Nat → Prop := fun j => S j ∨ j = i

/-- One more operation. -/
theorem At.step (D : Drawn pf n l) (tr : Trace pf P T n0 l e0 V H E) {S : Nat → Prop} (hS : closed l S) (at1 : At pf l e0 V H S e1 h1) (he : ERel m1 e1 a) (hml : m1.length = h1.length)
    {i : Nat} {o : Oper} (ho : l[i]? = some o) (hni : ¬ S i) (hr : ∀ e ∈ o.after, Region.binds .any e = true → S e.on) :
    ∃ h', Ab.step P T n0 l.toArray o e1 h1 (V i) h' ∧ At pf l e0 V H (plus S i) (put e1 o.dst (V i)) h' ∧ closed l (plus S i) := by
  have hlt := (List.getElem?_eq_some_iff.1 ho).1
  have hS' : closed l (plus S i) := by
    intro j p hj hp e he hb
    rcases hp with hp | rfl
    · exact .inl (hS j p hj hp e he hb)
    · rw [ho] at hj; cases hj
      exact .inl (hr e he hb)
  -- the reads
  have hreads : ∀ t ∈ reads l.toArray o, E i t = e1 t := by
    intro t ht
    by_cases hex : ∃ (j : Nat) (p : Oper), l[j]? = some p ∧ p.dst = some t
    · obtain ⟨j, p, hj, hp⟩ := hex
      rcases Nat.lt_trichotomy j i with hji | rfl | hji
      · have hSj : S j := by
          rcases D.wr j i p o t (plus S i) hji hj ho hp ht hS' (.inr rfl) with h | h
          · exact h
          · omega
        rw [at1.done j p t hj hp hSj, tr.at D i (by omega) j p t hji hj hp]
      · rw [tr.other j (by omega) t, at1.old t]
        · intro k q hk hq; rw [D.uniq k j q p t hk hj hq hp]; exact hni
        · intro k q hk1 hk hq; have := D.uniq k j q p t hk hj hq hp; omega
      · rw [tr.other i (by omega) t, at1.old t]
        · intro k q hk hq
          rw [D.uniq k j q p t hk hj hq hp]
          intro hSj
          exact hni (D.rw i j o p t S hji ho hj hp ht hS hSj)
        · intro k q hk1 hk hq; have := D.uniq k j q p t hk hj hq hp; omega
    · rw [tr.other i (by omega) t, at1.old t]
      · intro k q hk hq; exact absurd ⟨k, q, hk, hq⟩ hex
      · intro k q hk1 hk hq; exact absurd ⟨k, q, hk, hq⟩ hex
  have hst := step_congr hreads (tr.st i o ho).1
  obtain ⟨p, hp1, hp2, hp3, hp4⟩ := at1.heap
  have hdone : ∀ h', (∃ p, p ≤ l.length ∧ h' = H p ∧ (∀ (j : Nat) (o : Oper), j < p → l[j]? = some o → hop (kdP pf o.op) = true → plus S i j) ∧ (∀ (j : Nat) (o : Oper), p ≤ j → l[j]? = some o → hop (kdP pf o.op) = true → ¬ plus S i j)) →
      At pf l e0 V H (plus S i) (put e1 o.dst (V i)) h' := by
    intro h' hh
    refine ⟨?_, ?_, hh⟩
    · intro j q t hj hq hSj
      by_cases hji : j = i
      · subst hji
        rw [ho] at hj; cases hj
        rw [hq, put_same]
      · rw [put_ne (fun h => hji (D.uniq j i q o t hj ho hq h))]
        rcases hSj with h | h
        · exact at1.done j q t hj hq h
        · exact absurd h hji
    · intro t ht
      rw [put_ne (fun h => ht i o ho h (.inr rfl))]
      exact at1.old t fun j q hj hq hSj => ht j q hj hq (.inl hSj)
  by_cases hk : hop (kdP pf o.op) = true
  · -- a maker or a changer: the heap is the one of the text
    have hpi : p ≤ i := by
      rcases Nat.lt_or_ge i p with h | h
      · exact absurd (hp3 i o h ho hk) hni
      · exact h
    have hH : H i = H p := by
      have := tr.still D (i := p) (i - p) (by omega) (by
        intro j q h1 h2 hj
        cases hkq : hop (kdP pf q.op) with
        | false => rfl
        | true =>
          have := D.hh j i q o (plus S i) (by omega) hj ho hkq hk hS' (.inr rfl)
          rcases this with h | h
          · exact absurd h (hp4 j q h1 hj hkq)
          · omega)
      rw [show p + (i - p) = i by omega] at this
      exact this
    rw [hp2, ← hH]
    refine ⟨H (i + 1), hst, hdone _ ⟨i + 1, by omega, rfl, ?_, ?_⟩, hS'⟩
    · intro j q h1 hj hkq
      rcases Nat.lt_or_ge j i with h | h
      · exact D.hh j i q o (plus S i) h hj ho hkq hk hS' (.inr rfl)
      · exact .inr (by omega)
    · intro j q h1 hj hkq hSj
      rcases hSj with h | h
      · exact hni (D.hh i j o q S (by omega) ho hj hk hkq hS h)
      · omega
  · have hheap : ∃ p, p ≤ l.length ∧ h1 = H p ∧ (∀ (j : Nat) (o : Oper), j < p → l[j]? = some o → hop (kdP pf o.op) = true → plus S i j) ∧ (∀ (j : Nat) (o : Oper), p ≤ j → l[j]? = some o → hop (kdP pf o.op) = true → ¬ plus S i j) := by
      refine ⟨p, hp1, hp2, fun j q a b c => .inl (hp3 j q a b c), ?_⟩
      intro j q h1 hj hkq hSj
      rcases hSj with h | h
      · exact hp4 j q h1 hj hkq h
      · subst h; rw [ho] at hj; cases hj; exact hk hkq
    have hno := D.known i o ho
    refine ⟨h1, ?_, hdone _ hheap, hS'⟩
    cases hkk : kdP pf o.op with
    | pure =>
      rcases kdP_cases hkk with ⟨h2, _⟩ | ⟨_, h2⟩
      · exact step_congr hreads ((tr.pl i o ho h2).2 h1)
      · exact step_pure_heap h2 hst h1
    | ext => rw [hkk] at hk; simp [hop] at hk
    | chg => rw [hkk] at hk; simp [hop] at hk
    | no => exact absurd hkk hno
    | load =>
      have hkk' : kd o.op = .load := by rcases kdP_cases hkk with ⟨_, h2⟩ | ⟨_, h2⟩; cases h2; exact h2
      refine step_load_heap hkk' hst ?_
      rintro t q u ⟨x, hop', hx⟩ hl
      rcases Nat.le_total p i with hpi | hpi
      · obtain ⟨y, hy⟩ := tr.grow D (i := p) (i - p) (by omega) (by
          intro j z h1 h2 hj hm
          have := D.ml j i z o (plus S i) (by omega) hj ho hm hkk hS' (.inr rfl)
          rcases this with h | h
          · exact hp4 j z h1 hj (by rw [hm]; rfl) h
          · omega)
        rw [show p + (i - p) = i by omega] at hy
        rw [hy, ← hp2] at hl
        refine aLoad_shrink ?_ hl
        rintro ad rfl
        have hv := he.op hx
        rw [← hml]
        obtain ⟨ib, io, isp⟩ := ad
        obtain ⟨L, hL, _, hev⟩ := hv.ptr_inv
        rcases Nat.lt_or_ge ib m1.length with h | h
        · exact h
        · rw [mloc_ge h] at hL; cases hL
      · obtain ⟨y, hy⟩ := tr.grow D (i := i) (p - i) (by omega) (by
          intro j z h1 h2 hj hm
          have hji : i < j := by
            rcases Nat.lt_or_ge i j with h | h
            · exact h
            · have : j = i := by omega
              subst this; rw [ho] at hj; cases hj; rw [hkk] at hm; cases hm
          exact hni (D.lm i j o z S hji ho hj hkk hm hS (hp3 j z (by omega) hj (by rw [hm]; rfl))))
        rw [show i + (p - i) = p by omega] at hy
        rw [hp2, hy]
        exact aLoad_grow hl
end
end Go.Ab

namespace Go.Ab

section
variable {pf : List FuncId} {r : Option Nat} {bs : Bs} {P : Program} {T : TT} {n n0 B0 : Nat} {Q : AX → Env → Heap → Prop} {e e0 e1 : Env} {h h0 h1 h' : Heap} {m m1 : Map} {w w1 : World} {a : Act} {l : List Oper} {V : Nat → Value} {H : Nat → Heap} {E : Nat → Env}

def listedS (listed : Array Bool) (i : Nat) : Prop := listed[i]? = some true

theorem count_set : ∀ (l : List Bool) (i : Nat), l[i]? = some false → (l.set i true).count false + 1 = l.count false := by
  intro l
  induction l with
  | nil => intro i hi; simp at hi
  | cons b q ih =>
    intro i hi
    cases i with
    | zero => simp at hi; subst hi; simp
    | succ i =>
      have := ih i (by simpa using hi)
      simp only [List.set_cons_succ, List.count_cons]
      omega

theorem drawn_any (hT : TT.ok P T) (D : Drawn pf n l) (tr : Trace pf P T n0 l e0 V H E) (hQ : Q .normal (E l.length) (H l.length)) : ∀ (fuel : Nat) (listed : Array Bool) (e1 : Env) (h1 : Heap) (m1 : Map) (a : Act) (w1 : World),
    listed.size = l.length → listed.toList.count false = fuel → closed l (listedS listed) → At pf l e0 V H (listedS listed) e1 h1 → Tr n0 B0 m h w m1 h1 w1 → ERel m1 e1 a → a.tmps.size = n → DOk bs B0 a.defers w1 →
    wpAnyIn (Wf r) 0 P .any l.toArray (Post bs n n0 B0 m h w Q) fuel listed a w1 := by
  intro fuel
  induction fuel with
  | zero =>
    intro listed e1 h1 m1 a w1 hsz hcnt hcl hat htr he s1 s2
    have hall : ∀ i, i < l.length → listedS listed i := by
      intro i hi
      have h1 : listed[i]? = some listed[i] := Array.getElem?_eq_getElem (by omega)
      cases hb : listed[i] with
      | true => rw [listedS, h1, hb]
      | false =>
        have hmem : false ∈ listed.toList := by
          have h2 : listed.toList[i]? = some false := by rw [Array.getElem?_toList, h1, hb]
          exact List.mem_of_getElem? h2
        exact absurd hcnt (Nat.pos_iff_ne_zero.1 (List.count_pos_iff.2 hmem))
    have hready : Region.ready .any l.toArray listed = [] := by
      rw [List.eq_nil_iff_forall_not_mem]
      intro j hj
      obtain ⟨h2, o, ho, _⟩ := mem_ready.1 hj
      have hlt : j < l.length := by simpa using (Array.getElem?_eq_some_iff.1 ho).1
      have := hall j hlt
      rw [listedS] at this
      rw [Array.getD_eq_getD_getElem?, this] at h2
      simp at h2
    refine ⟨hready, ?_⟩
    have he1 : e1 = E l.length := by
      funext t
      by_cases hex : ∃ (j : Nat) (p : Oper), l[j]? = some p ∧ p.dst = some t
      · obtain ⟨j, p, hj, hp⟩ := hex
        have hlt := (List.getElem?_eq_some_iff.1 hj).1
        rw [hat.done j p t hj hp (hall j hlt), tr.at D _ (Nat.le_refl _) j p t hlt hj hp]
      · rw [hat.old t fun j p hj hp => absurd ⟨j, p, hj, hp⟩ hex, tr.other _ (Nat.le_refl _) t fun j p _ hj hp => absurd ⟨j, p, hj, hp⟩ hex]
    have hh1 : h1 = H l.length := by
      obtain ⟨p, hp1, hp2, hp3, hp4⟩ := hat.heap
      have := tr.still D (i := p) (l.length - p) (by omega) (by
        intro j q a1 a2 hj
        cases hk : hop (kdP pf q.op) with
        | false => rfl
        | true => exact absurd (hall j (by omega)) (hp4 j q a1 hj hk))
      rw [show p + (l.length - p) = l.length by omega] at this
      rw [hp2, this]
    exact ⟨.normal, m1, e1, h1, by rw [he1, hh1]; exact hQ, trivial, htr, he, s1, s2⟩
  | succ fuel ih =>
    intro listed e1 h1 m1 a w1 hsz hcnt hcl hat htr he s1 s2
    refine ⟨?_, ?_⟩
    · intro hready
      exfalso
      -- the first one that is not listed is ready
      have hmem : false ∈ listed.toList := List.count_pos_iff.1 (by omega)
      have hex : ∃ i, listed.toList[i]? = some false := List.getElem?_of_mem hmem
      have : ∀ (k i : Nat), i < k → listed.toList[i]? = some false → False := by
        intro k
        induction k with
        | zero => intro i hi; omega
        | succ k ihk =>
          intro i hi hf
          have hlt : i < l.length := by
            have := (List.getElem?_eq_some_iff.1 hf).1
            simp at this; omega
          have hf' : listed[i]? = some false := by rw [← Array.getElem?_toList]; exact hf
          have ho : l[i]? = some l[i] := List.getElem?_eq_getElem hlt
          have : i ∈ Region.ready .any l.toArray listed := by
            refine mem_ready.2 ⟨by rw [Array.getD_eq_getD_getElem?, hf']; rfl, l[i], by simp [ho], ?_⟩
            intro e hee hb
            have hlow := D.low i _ ho e hee
            rw [Array.getD_eq_getD_getElem?]
            have h3 : listed[e.on]? = some listed[e.on] := Array.getElem?_eq_getElem (by omega)
            rw [h3]
            cases hb2 : listed[e.on] with
            | true => rfl
            | false => exact (ihk e.on (by omega) (by rw [Array.getElem?_toList, h3, hb2])).elim
          rw [hready] at this
          cases this
      obtain ⟨i, hi⟩ := hex
      exact this (i + 1) i (by omega) hi
    · intro i hi
      obtain ⟨h2, o, ho, hafter⟩ := mem_ready.1 hi
      have ho' : l[i]? = some o := by simpa using ho
      have hlt := (List.getElem?_eq_some_iff.1 ho').1
      have hfi : listed[i]? = some false := by
        have h3 : listed[i]? = some listed[i] := Array.getElem?_eq_getElem (by omega)
        rw [Array.getD_eq_getD_getElem?, h3] at h2
        rw [h3]; simpa using h2
      have hni : ¬ listedS listed i := by rw [listedS, hfi]; simp
      have hedges : ∀ e ∈ o.after, Region.binds .any e = true → listedS listed e.on := by
        intro e hee hb
        have := hafter e hee hb
        rw [Array.getD_eq_getD_getElem?] at this
        cases hx : listed[e.on]? with
        | none => simp [hx] at this
        | some b => rw [hx] at this; rw [listedS, hx]; simpa using this
      obtain ⟨h', hst, hat', hcl'⟩ := hat.step D tr hcl he htr.st.rel.len ho' hni hedges
      have hS : listedS (listed.setIfInBounds i true) = plus (listedS listed) i := by
        funext j
        simp only [listedS, plus, Array.getElem?_setIfInBounds, eq_iff_iff]
        by_cases hij : i = j
        · subst hij; simp; omega
        · simp [hij, Ne.symm hij]
      refine step_sound hT ho hst htr.st he ?_
      intro m' v' w' hv hle htr'
      refine ih _ (put e1 o.dst (V i)) h' m' _ w' (by simpa using hsz) ?_ (by rw [hS]; exact hcl') (by rw [hS]; exact hat') (htr.trans htr') ((he.mono hle).put (fun t ht => by rw [s1]; exact D.dst i o t ho' ht) hv) ?_ ?_
      · have := count_set listed.toList i (by rw [Array.getElem?_toList]; exact hfi)
        rw [Array.toList_setIfInBounds]
        omega
      · cases o.dst <;> simp [Act.put, s1]
      · have : (a.put o.dst v').defers = a.defers := by cases o.dst <;> rfl
        rw [this]; exact s2.keep htr'.fr

theorem St.drawn (st : St n0 B0 m h w) (k : Nat) : St n0 B0 m h { w with drawn := k } :=
  ⟨⟨st.rel.len, fun i b L h1 h2 => ⟨(st.rel.blk i b L h1 h2).tab, (st.rel.blk i b L h1 h2).row⟩, st.rel.dummy, st.rel.dis⟩, st.base, st.fresh, st.anch⟩

/-- THE RULE for a region that draws its order: the order of the text, and the check. -/
theorem awp_drawP {id : Nat} (hT : TT.ok P T) (hm : P.follows .mixedOrders = true) (hd : drawOkP pf n l = true) (hw : aOpsDP pf P T n0 l.toArray (Q .normal) l e h) : awp r bs P n n0 (.region id l.toArray true) Q e h := by
  intro B0 m a w st he s1 s2
  obtain ⟨V, H, E, h1, h2, h3, h4⟩ := aOpsD_trace l e h hw
  have tr : Trace pf P T n0 l e V H E := ⟨h1, fun i o ho => ⟨(h3 i o ho).1, (h3 i o ho).2.1⟩, fun i o ho => (h3 i o ho).2.2⟩
  have D := Drawn.of hd
  refine wpIn_region_any hm ?_
  have hno : ∀ j, ¬ listedS (Array.replicate l.toArray.size false) j := by
    intro j hj
    simp only [listedS, Array.getElem?_replicate] at hj
    split at hj <;> simp at hj
  refine drawn_any hT D tr h4 _ _ e h m a _ (by simp) (by simp) (fun i o _ hi => absurd hi (hno i)) ⟨fun j o t _ _ hj => absurd hj (hno j), fun t _ => rfl, 0, by omega, h2.symm, fun j o hj => by omega, fun j o _ _ _ hj => hno j hj⟩ ?_ he s1 s2
  exact ⟨st.drawn _, rfl, rfl, ⟨rfl, rfl, rfl, Nat.le_refl _, fun _ _ _ => rfl, fun _ _ h _ => h⟩⟩
theorem awp_draw {id : Nat} (hT : TT.ok P T) (hm : P.follows .mixedOrders = true) (hd : drawOk n l = true) (hw : aOpsD P T n0 l.toArray (Q .normal) l e h) : awp r bs P n n0 (.region id l.toArray true) Q e h := awp_drawP hT hm hd hw.toP
end
end Go.Ab

namespace Go.Ab
open Go.RowKit

/-- THE CONTRACT OF AN ITERATOR: over whatever keeps the blocks that it reads, it hands on the values of a list, one after the other. -/
def SeqOf (P : Program) (f : FuncId) (cap : List Value) (hs : Heap) (L : List (List Value)) : Prop :=
  enters P f ∧ allRo hs = true ∧ ∀ (m : Map) (W0 : World) (cap' : List Value) (l : Nat) (J : Nat → World → Prop) (Jx : World → Prop),
    VRels m cap cap' → (∀ i W, J i W → Rel m hs W) → (∀ W, Jx W → Rel m hs W) →
    (∀ i W W', J i W → Below W.heap.size W W' → J i W') → (∀ W W', Jx W → Below W.heap.size W W' → Jx W') →
    (∀ i args W, J i W → L[i]? = some args → YieldAt (Wf none) 0 P l args.toArray W fun e W' => (e = .returned (.bool true) ∧ J (i + 1) W') ∨ (e = .returned (.bool false) ∧ Jx W')) →
    J 0 W0 → CallsIn (Wf none) 0 P f (#[.func (.yield l) #[] #[]] ++ cap'.toArray) W0 fun e W' => (∃ v, e = .returned v) ∧ (J L.length W' ∨ Jx W')

def noOwn (n0 : Nat) (h : Heap) : Prop := ∀ i : Nat, (flags n0 h)[i]? ≠ some true

/-- The world of an iterator between two calls of yield. -/
structure ISt (n0 : Nat) (m0 : Map) (JJ : Option Nat → World → Prop) (o : Option Nat) (m : Map) (h : Heap) (w : World) : Prop where
  ex : ∃ Wy : World, JJ o Wy ∧ Below Wy.heap.size Wy w ∧ St n0 Wy.heap.size m h w
  pre : m.take n0 = m0.take n0
  ro : noOwn n0 h

abbrev IQ := AX → Option Nat → Env → Heap → Prop

def iPost (n n0 : Nat) (m0 : Map) (JJ : Option Nat → World → Prop) (Q : IQ) (x : Exit) (a' : Act) (w' : World) : Prop :=
  ∃ ax o' m' e' h', Q ax o' e' h' ∧ XRel m' ax x ∧ ISt n0 m0 JJ o' m' h' w' ∧ ERel m' e' a' ∧ a'.tmps.size = n ∧ a'.defers = []

/-- What an iterator's code is walked in: the number of its values handed on so far, or none: it has been told to stop. -/
def iwp (P : Program) (n n0 : Nat) (m0 : Map) (JJ : Option Nat → World → Prop) (c : Code) (Q : IQ) (o : Option Nat) (e : Env) (h : Heap) : Prop :=
  ∀ (m : Map) (a : Act) (w : World), ISt n0 m0 JJ o m h w → ERel m e a → a.tmps.size = n → a.defers = [] → c.wpIn (Wf none) 0 P (iPost n n0 m0 JJ Q) a w

section
variable {P : Program} {T : TT} {n n0 B0 : Nat} {m0 m : Map} {JJ : Option Nat → World → Prop} {Q Q' : IQ} {o : Option Nat} {e e2 : Env} {h h2 : Heap} {w : World} {a : Act}

theorem below_of_fr {n0 : Nat} {m : Map} {h : Heap} {w w' : World} {Wy : World} (hb : Below Wy.heap.size Wy w) (hr : noOwn n0 h) (f : Fr Wy.heap.size (AnchOwn n0 m h) w w') : Below Wy.heap.size Wy w' :=
  hb.trans ⟨f.os, f.tape, f.output, f.size, fun k hk => f.keep k hk (fun ⟨i, _, h1, _⟩ => hr i h1)⟩

theorem iwp_lift {c : Code} (hw : awp none ([], false) P n n0 c (fun ax e' h' => Q ax o e' h') e h) : iwp P n n0 m0 JJ c Q o e h := by
  intro m a w st he s1 s2
  obtain ⟨Wy, hJ, hB, hst⟩ := st.ex
  refine wpIn_mono (hw Wy.heap.size m a w hst he s1 (by rw [s2]; exact DOk.base ([], false) _ _)) ?_
  rintro x a' w' ⟨ax, m', e', h', q, xr, tr, he', s3, marks, h4, h5, _⟩
  refine ⟨ax, o, m', e', h', q, xr, ⟨⟨Wy, hJ, below_of_fr hB st.ro tr.fr, tr.st⟩, tr.pre.trans st.pre, ?_⟩, he', s3, ?_⟩
  · intro i; rw [tr.flag]; exact st.ro i
  · rw [h4, h5 rfl]; rfl

theorem iwp_mono {c : Code} (hw : iwp P n n0 m0 JJ c Q o e h) (hq : ∀ x o e h, Q x o e h → Q' x o e h) : iwp P n n0 m0 JJ c Q' o e h :=
  fun m a w st he s1 s2 => wpIn_mono (hw m a w st he s1 s2) fun _ _ _ ⟨ax, o', m', e', h', q, rest⟩ => ⟨ax, o', m', e', h', hq _ _ _ _ q, rest⟩

def ithenQ (K : Option Nat → Env → Heap → Prop) (Q : IQ) : IQ
  | .normal, o, e, h => K o e h
  | x, o, e, h => Q x o e h

theorem iwp_seq {c d : Code} (hw : iwp P n n0 m0 JJ c (ithenQ (iwp P n n0 m0 JJ d Q) Q) o e h) : iwp P n n0 m0 JJ (.seq c d) Q o e h := by
  intro m a w st he s1 s2
  refine wpIn_seq (wpIn_mono (hw m a w st he s1 s2) ?_)
  rintro x a' w' ⟨ax, o', m', e', h', q, xr, st', he', s3, s4⟩
  cases ax <;> cases x <;> simp only [XRel] at xr <;> simp only [Exit.then, ithenQ] at q ⊢
  · exact q m' a' w' st' he' s3 s4
  · subst xr; exact ⟨_, o', m', e', h', q, rfl, st', he', s3, s4⟩
  · exact ⟨_, o', m', e', h', q, trivial, st', he', s3, s4⟩
  · exact ⟨_, o', m', e', h', q, xr, st', he', s3, s4⟩

theorem iwp_cond {c : Operand} {x y : Code} {t : Bool} (hc : eo e c = some (.bool t)) (hw : iwp P n n0 m0 JJ (if t then x else y) Q o e h) : iwp P n n0 m0 JJ (.cond c x y) Q o e h :=
  fun m a w st he s1 s2 => wpIn_cond ((he.op hc).plain_eq rfl) (hw m a w st he s1 s2)

def iblockQ (id : Nat) (Q : IQ) : IQ
  | .exit j, o, e, h => if j = id then Q .normal o e h else Q (.exit j) o e h
  | x, o, e, h => Q x o e h

theorem iwp_block {id : Nat} {c : Code} (hw : iwp P n n0 m0 JJ c (iblockQ id Q) o e h) : iwp P n n0 m0 JJ (.block id c) Q o e h := by
  intro m a w st he s1 s2
  refine wpIn_block (wpIn_mono (hw m a w st he s1 s2) ?_)
  rintro x a' w' ⟨ax, o', m', e', h', q, xr, st', he', s3, s4⟩
  cases ax <;> cases x <;> simp only [XRel] at xr <;> simp only [Exit.inBlock, iblockQ] at q ⊢
  · exact ⟨_, o', m', e', h', q, trivial, st', he', s3, s4⟩
  · subst xr
    split at q
    · rw [if_pos (by assumption)]; exact ⟨_, o', m', e', h', q, trivial, st', he', s3, s4⟩
    · rw [if_neg (by assumption)]; exact ⟨_, o', m', e', h', q, rfl, st', he', s3, s4⟩
  · exact ⟨_, o', m', e', h', q, trivial, st', he', s3, s4⟩
  · exact ⟨_, o', m', e', h', q, xr, st', he', s3, s4⟩

theorem ISt.ref (hr : Ref n0 e2 h2 e h) (st : ISt n0 m0 JJ o m h w) (he : ERel m e a) : ∃ m2, ISt n0 m0 JJ o m2 h2 w ∧ ERel m2 e2 a := by
  obtain ⟨Wy, hJ, hB, hst⟩ := st.ex
  obtain ⟨m2, tr, he2⟩ := hr _ m a w hst he
  exact ⟨m2, ⟨⟨Wy, hJ, hB, tr.st⟩, tr.pre.trans st.pre, fun i => by rw [tr.flag]; exact st.ro i⟩, he2⟩

theorem iwp_ref {c : Code} (hr : Ref n0 e2 h2 e h) (hw : iwp P n n0 m0 JJ c Q o e2 h2) : iwp P n n0 m0 JJ c Q o e h := fun _ a w st he s1 s2 =>
  let ⟨m2, st2, he2⟩ := st.ref hr he; hw m2 a w st2 he2 s1 s2

/-- A loop, its states told by a ghost. -/
theorem iwp_loop {α : Type} {c : Code} (S : α → Env) (H : α → Heap) (O : α → Option Nat) (I : α → Prop) (dec : α → Nat) (x0 : α) (hI : I x0) (hO : O x0 = o) (h0 : Ref n0 (S x0) (H x0) e h)
    (round : ∀ x, I x → iwp P n n0 m0 JJ c (ithenQ (fun o' e' h' => ∃ y, I y ∧ O y = o' ∧ dec y < dec x ∧ Ref n0 (S y) (H y) e' h') Q) (O x) (S x) (H x)) : iwp P n n0 m0 JJ (.loop c) Q o e h := by
  intro m a w st he s1 s2
  obtain ⟨m1, st1, he1⟩ := st.ref h0 he
  refine wpIn_loop_ghost (fun x a' w' => ∃ m', I x ∧ ISt n0 m0 JJ (O x) m' (H x) w' ∧ ERel m' (S x) a' ∧ a'.tmps.size = n ∧ a'.defers = []) dec x0 ⟨m1, hI, by rw [hO]; exact st1, he1, s1, s2⟩ ?_
  rintro x a1 w1 ⟨m1, hI1, t1, he1, s1, s2⟩
  refine wpIn_mono (round x hI1 m1 a1 w1 t1 he1 s1 s2) ?_
  rintro ex a' w' ⟨ax, o', m', e', h', q, xr, st', he', s3, s4⟩
  cases ax <;> cases ex <;> simp only [XRel] at xr <;> simp only [Exit.then, ithenQ] at q ⊢
  · obtain ⟨y, hy, ho, hlt, hr⟩ := q
    obtain ⟨m2, t2, he2⟩ := st'.ref hr he'
    exact ⟨y, ⟨m2, hy, by rw [ho]; exact t2, he2, s3, s4⟩, hlt⟩
  · subst xr; exact ⟨_, o', m', e', h', q, rfl, st', he', s3, s4⟩
  · exact ⟨_, o', m', e', h', q, trivial, st', he', s3, s4⟩
  · exact ⟨_, o', m', e', h', q, xr, st', he', s3, s4⟩

/-- The first n0 blocks as they are. -/
def idS (k : Nat) : List (Option Nat) := (List.range k).map some

theorem idS_get {k i : Nat} (hi : i < k) : (idS k)[i]? = some (some i) := by simp [idS, hi]
theorem idS_ge {k i : Nat} (hi : k ≤ i) : (idS k)[i]? = none := by simp [idS, hi]

theorem pick_id {k : Nat} (hk : k ≤ m.length) : pickMap (idS k) m = m.take k := by
  apply List.ext_getElem?
  intro i
  rcases Nat.lt_or_ge i k with hi | hi
  · simp only [pickMap, List.getElem?_map, idS_get hi, Option.map_some, Option.bind_some, mloc, List.getElem?_take, if_pos hi]
    rw [List.getElem?_eq_getElem (by omega)]; rfl
  · rw [List.getElem?_take, if_neg (by omega)]
    simp [pickMap, idS_ge hi]

theorem mloc_take {k i : Nat} {L : Loc} (hL : mloc (m.take k) i = some L) : mloc m i = some L := by
  simp only [mloc, List.getElem?_take] at hL ⊢
  split at hL
  · exact hL
  · simp at hL

/-- A value that speaks of the first n0 blocks alone means the same wherever those lie alike. -/
theorem VRel.first {m m' : Map} {n0 : Nat} {v v' : Value} (hs : sub (idS n0) v v) (h1 : n0 ≤ m.length) (hp : m'.take n0 = m.take n0) (hv : VRel m v v') : VRel m' v v' := by
  have := VRel.of_sub v v v' hs hv
  rw [pick_id h1, ← hp] at this
  exact this.mono fun _ _ hL => mloc_take hL

/-- Operations of a region of an iterator. -/
def iOpsW (P : Program) (T : TT) (n0 : Nat) (hs : Heap) (l : Nat) (L : List (List Value)) (ops : Array Oper) (K : Option Nat → Env → Heap → Prop) : List Oper → Option Nat → Env → Heap → Prop
  | [], o, e, h => K o e h
  | x :: rest, o, e, h => x.guard = none ∧
      ((∃ fo args argTypes vs i, x.op = .call { callee := .value fo, args, argTypes } ∧ eo e fo = some (.func (.yield l) #[] #[]) ∧ eOps e args.toList = some vs ∧ o = some i ∧ L[i]? = some vs ∧ (∀ v ∈ vs, plain v = true) ∧
          ∃ e2 : Env, (∀ t v, e2 t = some v → e t = some v ∧ sub (idS n0) v v) ∧ ∀ b : Bool, iOpsW P T n0 hs l L ops K rest (if b then some (i + 1) else none) (put e2 x.dst (.bool b)) hs) ∨
       opt (aOp T n0 e h x.op) fun p => iOpsW P T n0 hs l L ops K rest o (put e x.dst p.1) p.2)

/-- What the round's world is to an iterator. -/
structure IEnv (P : Program) (n0 : Nat) (m0 : Map) (hs : Heap) (l : Nat) (L : List (List Value)) (JJ : Option Nat → World → Prop) : Prop where
  n0 : n0 = hs.length
  ro : allRo hs = true
  rel : ∀ o W, JJ o W → Rel m0 hs W
  step : ∀ i args W, JJ (some i) W → L[i]? = some args → YieldAt (Wf none) 0 P l args.toArray W fun e W' => (e = .returned (.bool true) ∧ JJ (some (i + 1)) W') ∨ (e = .returned (.bool false) ∧ JJ none W')
  abide : ∀ o W W', JJ o W → Below W.heap.size W W' → JJ o W'

theorem plains {m : Map} : ∀ {vs vs' : List Value}, (∀ v ∈ vs, plain v = true) → VRels m vs vs' → vs' = vs := by
  intro vs
  induction vs with
  | nil => intro vs' _ h; exact h.nil_inv
  | cons v r ih =>
    intro vs' hp h
    obtain ⟨v', r', rfl, h1, h2⟩ := h.cons_inv
    rw [h1.plain_eq (hp v (List.mem_cons_self ..)), ih (fun x hx => hp x (List.mem_cons_of_mem _ hx)) h2]

theorem iOps_sound {hs : Heap} {l : Nat} {L : List (List Value)} {ops : Array Oper} {K : Option Nat → Env → Heap → Prop} (hT : TT.ok P T) (IE : IEnv P n0 m0 hs l L JJ) : ∀ (ls : List Oper) (o : Option Nat) (e : Env) (h : Heap) (m : Map) (a : Act) (w : World),
    dstOk n ls = true → ISt n0 m0 JJ o m h w → ERel m e a → a.tmps.size = n → a.defers = [] → iOpsW P T n0 hs l L ops K ls o e h →
    wpListIn (Wf none) 0 P ops (iPost n n0 m0 JJ (ithenQ K fun _ _ _ _ => False)) ls a w := by
  intro ls
  induction ls with
  | nil => intro o e h m a w _ st he s1 s2 hk; exact ⟨.normal, o, m, e, h, hk, trivial, st, he, s1, s2⟩
  | cons x rest ih =>
    intro o e h m a w hd st he s1 s2 hk
    simp only [iOpsW] at hk
    obtain ⟨hg, hk⟩ := hk
    simp only [dstOk, Bool.and_eq_true] at hd
    have hdst : ∀ t, x.dst = some t → t < a.tmps.size := by
      intro t ht; rw [s1]; have := hd.1; rw [ht] at this; simpa using this
    have hput : ∀ (a : Act) (x : Option Tmp) (v : Value), (a.put x v).tmps.size = a.tmps.size ∧ (a.put x v).defers = a.defers := by
      intro a x v; cases x <;> simp [Act.put]
    have hw : Region.wanted x (yielded ops a.tmps) = true := by simp [Region.wanted, hg]
    obtain ⟨Wy, hJ, hB, hst⟩ := st.ex
    unfold wpListIn
    rw [if_pos hw]
    refine ⟨fun _ _ => trivial, ?_⟩
    rcases hk with ⟨fo, args, argTypes, vs, i, hop, hfo, hvs, ho, hL, hpl, e2, he2, hk⟩ | ⟨p, hop, hrest⟩
    · subst ho
      have hev : a.eval fo = .func (.yield l) #[] #[] := by
        have := he.op hfo
        generalize a.eval fo = X at this
        cases this
        rfl
      have hargs : (args.toList.map a.eval) = vs := plains hpl (eOps_app he hvs)
      have hJw : JJ (some i) w := IE.abide _ _ _ hJ hB
      obtain ⟨fn, tmps, assign, body, hy, hR⟩ := IE.step i vs w hJw hL
      have hrun : (execOp a.eval x).run P w = .ok (.round l fn tmps assign body) w := by
        have hargs' : args.map a.eval = vs.toArray := by
          apply Array.ext'
          simpa using hargs
        simp only [execOp, hop, resolve, hev, Deferred.ofValue, invoke, Sem.run_bind, Sem.run_pure, Result.andThen_ok]
        rw [hargs']
        simpa using hy
      rw [Oper.semAt_eq _ _ _ (by rw [hop]; simp), hrun]
      refine ⟨fun hx => by simp [Wf] at hx, hR.mono ?_⟩
      have fin : ∀ (b : Bool) (W' : World), JJ (if b then some (i + 1) else none) W' → wpListIn (Wf none) 0 P ops (iPost n n0 m0 JJ (ithenQ K fun _ _ _ _ => False)) rest (a.put x.dst (.bool b)) W' := by
        intro b W' hJ'
        have hrel := IE.rel _ _ hJ'
        have hml : m0.length = n0 := by rw [hrel.len, IE.n0]
        refine ih _ (put e2 x.dst (.bool b)) hs m0 _ W' hd.2 ⟨⟨W', hJ', Below.refl _ _, ⟨hrel, Nat.le_refl _, ?_, by rw [IE.n0]; exact Nat.le_refl _⟩⟩, rfl, ?_⟩ ?_ (by rw [(hput _ _ _).1, s1]) (by rw [(hput _ _ _).2, s2]) (hk b)
        · intro j c Lc hj hb _
          rw [hblk_ge (by rw [← IE.n0]; exact hj)] at hb; cases hb
        · intro j; exact flags_ro IE.ro _ _
        · have hrel2 : ERel m0 e2 a := by
            intro t v hv
            obtain ⟨h1, h2⟩ := he2 t v hv
            refine VRel.first h2 ?_ ?_ (he t v h1)
            · have := hst.n0m; exact this
            · rw [st.pre]
          exact hrel2.put hdst (.bool b)
      rintro en W' (⟨rfl, hJ'⟩ | ⟨rfl, hJ'⟩)
      · exact fin true W' hJ'
      · exact fin false W' hJ'
    · have hnd : ∀ c, x.op ≠ .defer c := by
        intro c hc; rw [hc] at hop; simp [aOp] at hop
      obtain ⟨m', v', w', hr, hv, hle, htr⟩ := aOp_sound hT hst he x (v := p.1) (h' := p.2) hop
      rw [Oper.semAt_eq _ _ _ hnd]
      have fin := ih o (put e x.dst p.1) p.2 m' (a.put x.dst v') w' hd.2 ⟨⟨Wy, hJ, below_of_fr hB st.ro htr.fr, htr.st⟩, htr.pre.trans st.pre, fun i => by rw [htr.flag]; exact st.ro i⟩ ((he.mono hle).put hdst hv) (by rw [(hput _ _ _).1, s1]) (by rw [(hput _ _ _).2, s2]) hrest
      rcases hr with hr | ⟨hr, rfl⟩
      · rw [hr]; exact fin
      · rw [hr]; exact fin

theorem iwp_region {hs : Heap} {l : Nat} {L : List (List Value)} {ls : List Oper} {id : Nat} (hT : TT.ok P T) (IE : IEnv P n0 m0 hs l L JJ) (hd : dstOk n ls = true) (hw : iOpsW P T n0 hs l L ls.toArray (Q .normal) ls o e h) :
    iwp P n n0 m0 JJ (.region id ls.toArray false) Q o e h := by
  intro m a w st he s1 s2
  refine wpIn_mono (wpIn_region_lit (iOps_sound hT IE ls o e h m a w hd st he s1 s2 hw)) ?_
  rintro x a' w' ⟨ax, o', m', e', h', q, rest⟩
  cases ax with
  | normal => exact ⟨.normal, o', m', e', h', q, rest⟩
  | _ => exact q.elim

/-- An iterator's code may end wherever it has handed on all, or has been told to stop. -/
def iEnd (L : List (List Value)) : IQ
  | .normal, o, _, _ | .ret, o, _, _ => o = none ∨ o = some L.length
  | _, _, _, _ => False

theorem SeqOf.of_iwp {f : FuncId} {fn : Func} {c : Code} {cap : List Value} {hs : Heap} {L : List (List Value)} (hf : P.funcs[f]? = some fn) (hb : fn.body = some c) (hnm : (fn.name == "runtime.NumGoroutine") = false) (hro : allRo hs = true)
    (hres : fn.results = #[]) (hlen : cap.length + 1 ≤ fn.ntmps)
    (hw : ∀ l m0 JJ, IEnv P hs.length m0 hs l L JJ → iwp P fn.ntmps hs.length m0 JJ c (iEnd L) (some 0) (argEnv (.func (.yield l) #[] #[] :: cap)) hs) : SeqOf P f cap hs L := by
  refine ⟨⟨fn, hf, hnm, by rw [hb]; rfl⟩, hro, ?_⟩
  intro m W0 cap' l J Jx hcap hJ hJx hA hAx hstep h0
  have IE : IEnv P hs.length m hs l L (fun o W => match o with | some i => J i W | none => Jx W) := by
    refine ⟨rfl, hro, ?_, ?_, ?_⟩
    · intro o W h; cases o; exact hJx W h; exact hJ _ W h
    · intro i args W h hL; exact hstep i args W h hL
    · intro o W W' h hb; cases o; exact hAx W W' h hb; exact hA _ W W' h hb
  refine callsIn_of_wp (F := Wf none) (n := 0) hf hb trivial ?_
  have hcl : (#[Value.func (.yield l) #[] #[]] ++ cap'.toArray) = (Value.func (.yield l) #[] #[] :: cap').toArray := by simp
  rw [hcl]
  have hv : VRels m (Value.func (.yield l) #[] #[] :: cap) (Value.func (.yield l) #[] #[] :: cap') := VRels.cons (VRel.yld l) hcap
  have hsz : ({ tmps := (Value.func (.yield l) #[] #[] :: cap').toArray ++ Array.replicate (fn.ntmps - (Value.func (.yield l) #[] #[] :: cap').toArray.size) undef, defers := [] } : Act).tmps.size = fn.ntmps := by
    have := hcap.1; simp; omega
  have he : ERel m (argEnv (.func (.yield l) #[] #[] :: cap)) { tmps := (Value.func (.yield l) #[] #[] :: cap').toArray ++ Array.replicate (fn.ntmps - (Value.func (.yield l) #[] #[] :: cap').toArray.size) undef, defers := [] } := by
    intro t v ht
    obtain ⟨v', h1, h2⟩ := hv.get (show (Value.func (.yield l) #[] #[] :: cap)[t]? = some v from ht)
    have hlt := (List.getElem?_eq_some_iff.1 h1).1
    have hx : ((Value.func (.yield l) #[] #[] :: cap').toArray ++ Array.replicate (fn.ntmps - (Value.func (.yield l) #[] #[] :: cap').toArray.size) undef).getD t undef = v' := by
      rw [Array.getD_eq_getD_getElem?, Array.getElem?_append_left (by simpa using hlt)]
      simp [h1]
    rw [hx]; exact h2
  have hrel := hJ 0 W0 h0
  refine wpIn_mono (hw l m _ IE m _ W0 ⟨⟨W0, h0, Below.refl _ _, ⟨hrel, Nat.le_refl _, fun i b L hi hb _ => (by rw [hblk_ge hi] at hb; cases hb), Nat.le_refl _⟩⟩, rfl, fun i => flags_ro hro _ _⟩ he hsz rfl) ?_
  rintro x a' w' ⟨ax, o', m', e', h', q, xr, st', he', s3, s4⟩
  obtain ⟨Wy, hJy, hB, _⟩ := st'.ex
  have hres' : (results fn a'.tmps).run P w' = .ok (.tuple #[]) w' := by
    simp [results, hres]
  have key : (o' = none ∨ o' = some L.length) → a'.defers = [] ∧ ∃ v, (results fn a'.tmps).run P w' = .ok v w' ∧ (∃ u, Ending.returned v = .returned u) ∧ (J L.length w' ∨ Jx w') := by
    intro hq
    refine ⟨s4, _, hres', ⟨_, rfl⟩, ?_⟩
    have := IE.abide o' Wy w' hJy hB
    rcases hq with rfl | rfl
    · exact .inr this
    · exact .inl this
  cases ax <;> cases x <;> simp only [XRel] at xr <;> simp only [bodyPost, iEnd] at q ⊢
  · exact key q
  · exact key q
end
end Go.Ab

namespace Go.Ab
open Go.RowKit

section
variable {P : Program} {T : TT} {bs : Bs} {n n0 B0 : Nat} {m m' : Map} {Q : AX → Env → Heap → Prop} {e : Env} {h h' : Heap} {w W W' : World} {a : Act}

/-- Blocks that nobody sees turn: those that are no cells, made since. -/
theorem Tr.turn (tr : Tr n0 B0 m h w m' h' W) (hB : B0 ≤ w.heap.size) {k : Nat} {o : Obj} (hk : W.heap[k]? = some o) (ho : fixed o = true) (hw : w.heap.size ≤ k) (o' : Obj) : Tr n0 B0 m h w m' h' (W.putObj k o') := by
  have hkeep : ∀ j, j ≠ k → (W.putObj k o').heap[j]? = W.heap[j]? := fun j hj => World.putObj_heap_other hj
  refine ⟨⟨⟨tr.st.rel.len, ?_, tr.st.rel.dummy, tr.st.rel.dis⟩, by rw [World.putObj_size]; exact tr.st.base, tr.st.fresh, tr.st.anch⟩, tr.pre, tr.flag, tr.fr.os, tr.fr.tape, tr.fr.output, by rw [World.putObj_size]; exact tr.fr.size, ?_, ?_⟩
  · intro i b L hb hL
    have rr := tr.st.rel.blk i b L hb hL
    refine rr.mono (fun _ _ x => x) (hkeep _ fun e => ?_)
    cases hp : L.mp with
    | false => obtain ⟨cs, el, fz, hw', _⟩ := rr.row hp; rw [e, hk] at hw'; cases hw'; cases ho
    | true => obtain ⟨es, c, hw', _⟩ := rr.tab hp; rw [e, hk] at hw'; cases hw'; cases ho
  · intro j hj hA; exact (hkeep j (by omega)).trans (tr.fr.keep j hj hA)
  · intro j ob hj hob
    have := (Array.getElem?_eq_some_iff.1 hj).1
    exact (hkeep j (by omega)).trans (tr.fr.oth j ob hj hob)

/-- New blocks that nobody sees. -/
theorem Tr.grow (tr : Tr n0 B0 m h w m' h' W) (hb : Below W.heap.size W W') : Tr n0 B0 m h w m' h' W' := by
  have hsz := tr.fr.size
  have hbase := tr.st.base
  refine ⟨⟨⟨tr.st.rel.len, ?_, tr.st.rel.dummy, tr.st.rel.dis⟩, Nat.le_trans hbase hb.size, tr.st.fresh, tr.st.anch⟩, tr.pre, tr.flag, hb.os.trans tr.fr.os, hb.tape.trans tr.fr.tape, hb.output.trans tr.fr.output, Nat.le_trans hsz hb.size, ?_, ?_⟩
  · intro i b L hB hL
    have rr := tr.st.rel.blk i b L hB hL
    exact rr.mono (fun _ _ x => x) (hb.block _ rr.lt)
  · intro j hj hA; exact (hb.block j (by omega)).trans (tr.fr.keep j hj hA)
  · intro j ob hj hob
    have := (Array.getElem?_eq_some_iff.1 hj).1
    exact (hb.block j (by omega)).trans (tr.fr.oth j ob hj hob)

def putPs : List Nat → List Value → Env → Env
  | p :: ps, v :: vs, e => putPs ps vs (put e (some p) v)
  | _, _, e => e

theorem putPs_rel {d : List Deferred} : ∀ (ps : List Nat) (vs : List Value) (e : Env) (t : Array Value), (∀ p ∈ ps, p < t.size) → (∀ v ∈ vs, plain v = true) → ERel m e { tmps := t, defers := d } →
    ERel m (putPs ps vs e) { tmps := (ps.zip vs).foldl (fun t (p : Nat × Value) => t.setIfInBounds p.1 p.2) t, defers := [] } := by
  intro ps
  induction ps with
  | nil => intro vs e t _ _ he; exact (by simp only [putPs, List.zip_nil_left, List.foldl_nil]; exact fun t v hv => he t v hv)
  | cons p ps ih =>
    intro vs e t hp hv he
    cases vs with
    | nil => exact (by simp only [putPs, List.zip_nil_right, List.foldl_nil]; exact fun t v hv => he t v hv)
    | cons v vs =>
      have hpv : VRel m v v := by
        have := VRel.of_plain (m := m) v (hv v (List.mem_cons_self ..))
        exact this
      have h1 := he.put (d := some p) (fun q hq => by cases hq; exact hp p (List.mem_cons_self ..)) hpv
      exact ih vs _ _ (fun q hq => by simp; exact hp q (List.mem_cons_of_mem _ hq)) (fun x hx => hv x (List.mem_cons_of_mem _ hx)) h1

/-- What a round of a loop may come to. -/
def roundQ (Q : AX → Env → Heap → Prop) (e : Env) (s : List (Option Nat)) (hs : Heap) (I : Nat → Heap → Prop) (i : Nat) : AX → Env → Heap → Prop
  | .normal, _, h => I (i + 1) h
  | .ret, _, h => Q .ret e h ∧ Emb s hs h
  | .exit k, _, h => Q (.exit k) e h ∧ Emb s hs h
  | .panic _, _, _ => False

/-- 'for x := range f { .. }' -/
theorem awp_rangeFunc {g : Operand} {ps : List Nat} {assign body : Code} {f : FuncId} {cap cap2 : List Value} {hs : Heap} {L : List (List Value)} {s : List (Option Nat)} (hbs : bs.2 = true)
    (hg : eo e g = some (.func (.func f) #[] ⟨cap⟩)) (hseq : SeqOf P f cap2 hs L) (hcap : subL s cap2 cap) (hsa : ∀ i j : Nat, s[i]? = some (some j) → j < n0)
    (hbel : ∀ t v, e t = some v → sub (idS n0) v v) (hps : ∀ p ∈ ps, p < n) (hL : ∀ args ∈ L, args.length = ps.length ∧ ∀ v ∈ args, plain v = true)
    (I : Nat → Heap → Prop) (hI : ∀ i h', I i h' → Emb s hs h') (h0 : I 0 h)
    (hround : ∀ (l i : Nat) (args : List Value) (h' : Heap), L[i]? = some args → I i h' → awp (some l) ([], false) P n n0 assign (fun ax e1 h1 => ax = .normal ∧ awp (some l) ([], false) P n n0 body (roundQ Q e s hs I i) e1 h1) (putPs ps args e) h')
    (hdone : ∀ h', I L.length h' → Q .normal e h') : awp none bs P n n0 (.rangeFunc g ps.toArray assign body) Q e h := by
  intro B0 m a w st he s1 s2
  refine wpIn_rangeFunc ?_
  intro fn hfn
  obtain ⟨hent, hro, hseq⟩ := hseq
  have hgv : ∃ cap', a.eval g = .func (.func f) #[] ⟨cap'⟩ ∧ VRels m cap cap' := by
    have := he.op hg
    obtain ⟨xs', ys', hev, q1, q2⟩ := VRels.arr this
    have e1 := q1.nil_inv
    subst e1
    exact ⟨ys', hev, q2⟩
  obtain ⟨cap', hgv, hcapr⟩ := hgv
  obtain ⟨rec, hrec⟩ : ∃ rec : LoopState → Option Code → Loop, rec = fun st pe => { state := st, pending := pe, fn, tmps := a.tmps, params := ps.toArray, assign, body, defers := w.heap.size } := ⟨_, rfl⟩
  obtain ⟨W1, hW1⟩ : ∃ W1, (w.alloc (.deferred (some []))).alloc (.loop (rec .ready none)) = W1 := ⟨_, rfl⟩
  have hL1 : W1.heap[w.heap.size + 1]? = some (.loop (rec .ready none)) := by
    rw [← hW1]; have := World.alloc_heap_new (w.alloc (.deferred (some []))) (.loop (rec .ready none)); rwa [World.size_alloc] at this
  have hK1 : W1.heap[w.heap.size]? = some (.deferred (some [])) := by
    rw [← hW1]; exact (Below.heap_alloc _ _ _ (by simp)).trans (World.alloc_heap_new w _)
  have hb1 : Below w.heap.size w W1 := by
    rw [← hW1]; exact ((Below.refl _ w).alloc (Nat.le_refl _) _).alloc (by simp) _
  have tr1 : Tr n0 B0 m h w m h W1 := (Tr.refl st).grow hb1
  have hml : n0 ≤ m.length := st.n0m
  have erel : ∀ m', m'.take n0 = m.take n0 → ERel m' e a := fun m' hp t v ht => VRel.first (hbel t v ht) hml hp (he t v ht)
  have hpick : ∀ m', m'.take n0 = m.take n0 → pickMap s m' = pickMap s m := by
    intro m' hp
    apply List.ext_getElem?
    intro i
    simp only [pickMap, List.getElem?_map]
    cases hi : s[i]? with
    | none => rfl
    | some x =>
      cases x with
      | none => rfl
      | some j =>
        have hj := hsa i j hi
        have : (m'.take n0)[j]? = (m.take n0)[j]? := by rw [hp]
        simp only [List.getElem?_take, if_pos hj] at this
        simp [mloc, this]
  -- the states between rounds
  let Bk (st : LoopState) (pe : Option Code) (W : World) : Prop := W.heap[w.heap.size]? = some (.deferred (some [])) ∧ W.heap[w.heap.size + 1]? = some (.loop (rec st pe))
  let J (i : Nat) (W : World) : Prop := ∃ m' h', I i h' ∧ Tr n0 B0 m h w m' h' W ∧ Bk .ready none W
  let Jx (W : World) : Prop := ∃ c m' h', ((c = .ret ∧ Q .ret e h') ∨ ∃ k, c = .exit k ∧ Q (.exit k) e h') ∧ Emb s hs h' ∧ Tr n0 B0 m h w m' h' W ∧ Bk .done (some c) W
  have bkBelow : ∀ {st pe W W'}, Bk st pe W → Below W.heap.size W W' → Bk st pe W' := fun hb hB =>
    ⟨(hB.block _ (Array.getElem?_eq_some_iff.1 hb.1).1).trans hb.1, (hB.block _ (Array.getElem?_eq_some_iff.1 hb.2).1).trans hb.2⟩
  have bkFr : ∀ {st pe W W' A B}, Bk st pe W → Fr B A W W' → Bk st pe W' := fun hb f => ⟨f.oth _ _ hb.1 rfl, f.oth _ _ hb.2 rfl⟩
  refine ⟨w.heap.size + 1, [{ target := .collected w.heap.size, args := #[] }], W1, { target := .fn (.func f) ⟨cap'⟩, args := #[.func (.yield (w.heap.size + 1)) #[] #[]] }, W1, f,
    #[.func (.yield (w.heap.size + 1)) #[] #[]] ++ cap'.toArray, W1, ?_, ?_, ?_, ?_, fun hx => by simp [Wf] at hx, ?_⟩
  · rw [← hW1, hrec]; exact run_enterLoop_outer _ _ _ _ _
  · simp only [resolve, hgv]
    simp [go_sem]
  · intro f' _; trivial
  · obtain ⟨fn', hfn', hn', hb'⟩ := hent
    simp only [invoke, callFunc, Sem.run_bind, Sem.run_pure, Result.andThen_ok, run_program, hfn', hn', hb', Bool.false_eq_true, if_false]
  · refine (hseq (pickMap s m) W1 cap' (w.heap.size + 1) J Jx (VRel.of_subL cap2 cap cap' hcap hcapr) ?_ ?_ ?_ ?_ ?_ ?_).mono ?_
    · rintro i W ⟨m', h', hi, tr, _⟩
      rw [← hpick m' tr.pre]; exact (hI i h' hi).rel tr.st.rel
    · rintro W ⟨c, m', h', _, hE, tr, _⟩
      rw [← hpick m' tr.pre]; exact hE.rel tr.st.rel
    · rintro i W W' ⟨m', h', hi, tr, hb⟩ hB
      exact ⟨m', h', hi, tr.grow hB, bkBelow hb hB⟩
    · rintro W W' ⟨c, m', h', hc, hE, tr, hb⟩ hB
      exact ⟨c, m', h', hc, hE, tr.grow hB, bkBelow hb hB⟩
    · -- one round
      rintro i args W ⟨m', h', hi, tr, hb⟩ hLi
      obtain ⟨hal, hap⟩ := hL args (List.mem_of_getElem? hLi)
      have hy := run_yield (P := P) (args := args.toArray) hb.2 (by rw [hrec]; simpa using hal)
      rw [hrec] at hy
      refine ⟨fn, _, assign, body, hy, roundIn_of_wpIn hfn ?_⟩
      have hrd := hround (w.heap.size + 1) i args h' hLi hi
      have hfold : (ps.toArray.zip args.toArray).foldl (fun (tmps : Array Value) (x : Tmp × Value) => tmps.setIfInBounds x.1 x.2) a.tmps = (ps.zip args).foldl (fun t (p : Nat × Value) => t.setIfInBounds p.1 p.2) a.tmps := by
        simp
      have hesz : ∀ (l : List (Nat × Value)) (t : Array Value), (l.foldl (fun t (p : Nat × Value) => t.setIfInBounds p.1 p.2) t).size = t.size := by
        intro l
        induction l with
        | nil => intro t; rfl
        | cons x q ih => intro t; simp only [List.foldl_cons]; rw [ih]; simp
      refine wpIn_mono (show assign.wpIn (Wf (some (w.heap.size + 1))) 0 P _ _ _ from hrd B0 m' { tmps := _, defers := [] } W tr.st ?_ ?_ (DOk.base ([], false) _ _)) ?_
      · simp only
        rw [hfold]
        exact putPs_rel ps args e a.tmps (fun p hp => by rw [s1]; exact hps p hp) hap (erel m' tr.pre)
      · simp only
        rw [hfold, hesz, s1]
      · rintro x a1 w1 ⟨ax, m1, e1, h1, ⟨rfl, hbody⟩, xr, trA, he1, sz1, d1⟩
        cases x <;> simp only [XRel] at xr
        simp only [Exit.then]
        have hb1 := bkFr hb trA.fr
        have trB := tr.trans trA
        refine ⟨_, run_beginRound hb1.2 (by rw [hrec]), ?_⟩
        have trC := trB.turn st.base hb1.2 rfl (by omega) (.loop { rec .ready none with state := .busy })
        have hlt : w.heap.size + 1 < w1.heap.size := (Array.getElem?_eq_some_iff.1 hb1.2).1
        have hb2 : Bk .busy none (w1.putObj (w.heap.size + 1) (.loop { rec .ready none with state := .busy })) :=
          ⟨(World.putObj_heap_other (by omega)).trans hb1.1, by rw [World.putObj_heap_same hlt, hrec]⟩
        have hd2 : DOk ([], false) B0 a1.defers (w1.putObj (w.heap.size + 1) (.loop { rec .ready none with state := .busy })) := by
          obtain ⟨marks, q1, q2, _⟩ := d1
          exact ⟨[], by rw [q1, q2 rfl], fun _ => rfl, List.nodup_nil, fun _ hh => by cases hh⟩
        refine wpIn_mono (hbody B0 m1 a1 _ trC.st he1 sz1 hd2) ?_
        rintro x a3 w3 ⟨ax, m3, e3, h3, hq, xr3, trD, he3, sz3, d3⟩
        have hb3 := bkFr hb2 trD.fr
        have trE := trC.trans trD
        have hlt3 : w.heap.size + 1 < w3.heap.size := (Array.getElem?_eq_some_iff.1 hb3.2).1
        have fin : ∀ jump : Option Code, (Instr.endRound (w.heap.size + 1) jump).run P w3 = .ok (.bool jump.isNone) (w3.putObj (w.heap.size + 1) (.loop (rec (if jump.isNone then .ready else .done) jump))) ∧
            Tr n0 B0 m h w m3 h3 (w3.putObj (w.heap.size + 1) (.loop (rec (if jump.isNone then .ready else .done) jump))) ∧ Bk (if jump.isNone then .ready else .done) jump (w3.putObj (w.heap.size + 1) (.loop (rec (if jump.isNone then .ready else .done) jump))) := by
          intro jump
          have := run_endRound (P := P) jump hb3.2
          rw [hrec] at this ⊢
          refine ⟨this, trE.turn st.base hb3.2 rfl (by omega) _, (World.putObj_heap_other (by omega)).trans hb3.1, ?_⟩
          rw [World.putObj_heap_same hlt3, hrec]
        cases ax <;> cases x <;> simp only [XRel] at xr3 <;> simp only [roundQ] at hq <;> simp only [roundPost]
        · obtain ⟨f1, f2, f3⟩ := fin none
          exact ⟨_, _, f1, .inl ⟨rfl, m3, h3, hq, f2, f3⟩⟩
        · subst xr3
          rename_i k
          obtain ⟨f1, f2, f3⟩ := fin (some (.exit k))
          exact ⟨_, _, f1, .inr ⟨rfl, .exit k, m3, h3, .inr ⟨k, rfl, hq.1⟩, hq.2, f2, f3⟩⟩
        · obtain ⟨f1, f2, f3⟩ := fin (some .ret)
          exact ⟨_, _, f1, .inr ⟨rfl, .ret, m3, h3, .inl ⟨rfl, hq.1⟩, hq.2, f2, f3⟩⟩
    · exact ⟨m, h, h0, tr1, hK1, hL1⟩
    · -- behind the loop
      have hdef : ∀ {m' h' W}, Tr n0 B0 m h w m' h' W → W.heap[w.heap.size]? = some (.deferred (some [])) → DOk bs B0 ([({ target := .collected w.heap.size, args := #[] } : Deferred)] ++ a.defers) W := by
        intro m' h' W tr hD
        obtain ⟨marks, q1, q2, q3, q4⟩ := s2
        refine ⟨w.heap.size :: marks, by rw [q1]; rfl, fun hh : bs.2 = false => absurd (hbs.symm.trans hh) (by simp), List.nodup_cons.2 ⟨fun hm => ?_, q3⟩, ?_⟩
        · have := (Array.getElem?_eq_some_iff.1 (q4 _ hm).2).1; omega
        · intro D hDm
          rcases List.mem_cons.1 hDm with rfl | hDm
          · exact ⟨st.base, hD⟩
          · exact ⟨(q4 D hDm).1, tr.fr.oth D _ (q4 D hDm).2 rfl⟩
      have fin : ∀ {m' h' W pe stt}, Tr n0 B0 m h w m' h' W → Bk stt pe W → stt ≠ .busy → (Instr.endLoop (w.heap.size + 1)).run P W = .ok pe (W.putObj (w.heap.size + 1) (.loop { rec stt pe with state := .exhausted })) ∧
          Tr n0 B0 m h w m' h' (W.putObj (w.heap.size + 1) (.loop { rec stt pe with state := .exhausted })) ∧ (W.putObj (w.heap.size + 1) (.loop { rec stt pe with state := .exhausted })).heap[w.heap.size]? = some (.deferred (some [])) := by
        intro m' h' W pe stt tr hb hne
        have := run_endLoop (P := P) hb.2 (by rw [hrec]; exact hne)
        rw [hrec] at this ⊢
        exact ⟨this, tr.turn st.base hb.2 rfl (by omega) _, (World.putObj_heap_other (by omega)).trans hb.1⟩
      rintro en W2 ⟨⟨v, rfl⟩, hor⟩
      rcases hor with ⟨m', h', hi, tr, hb⟩ | ⟨c, m', h', hc, hE, tr, hb⟩
      · obtain ⟨f1, f2, f3⟩ := fin tr hb (by simp)
        exact ⟨none, _, f1, ⟨.normal, m', e, h', hdone h' hi, trivial, f2, erel m' f2.pre, s1, hdef f2 f3⟩⟩
      · obtain ⟨f1, f2, f3⟩ := fin tr hb (by simp)
        refine ⟨some c, _, f1, ?_⟩
        rcases hc with ⟨rfl, hq⟩ | ⟨k, rfl, hq⟩
        · exact wpIn_ret ⟨.ret, m', e, h', hq, trivial, f2, erel m' f2.pre, s1, hdef f2 f3⟩
        · exact wpIn_exit ⟨.exit k, m', e, h', hq, rfl, f2, erel m' f2.pre, s1, hdef f2 f3⟩
end
end Go.Ab
