/- Carrying out code whose values are not all known is sound. Conditions: none beyond the given model and program. -/
import Derived.Test.YtnimgapjllhccaaGreatDoorAbC
namespace Go.Ab

structure Ob where
  pl : FuncId → List Value → Value → Prop
  gives : FuncId → List Value → Heap → AOut → Heap → Prop
  know : Bool → Bool → Prop
  rd : Heap → Addr → Nat → List Value → Prop
  wr : Heap → Addr → List Value → Heap → Prop
  ix : Int → Int → Prop
  app : Nat → TypeId → TypeId → Value → Value → Heap → Value → Heap → Prop
  op : Option (Value × Heap) → Value → Heap → Prop
  mput : TypeId → Nat → Value → Value → Heap → Heap → Prop
  mget : TypeId → Nat → Value → Heap → Value → Prop
  mlen : TypeId → Nat → Heap → Int → Prop
  loop : Nat → Code → List (Nat × Value) → Heap → AX → List (Nat × Value) → Heap → Prop

/-- A frame of some places. -/
def mkE (n : Nat) : List (Nat × Value) → LE
  | [] => List.replicate n none
  | p :: q => putL (mkE n q) (some p.1) p.2
theorem mkE_length {n : Nat} : ∀ {l : List (Nat × Value)}, (mkE n l).length = n
  | [] => by simp [mkE]
  | p :: q => by simp only [mkE, putL_length]; exact mkE_length
def pickE (e : LE) : List Nat → Option (List (Nat × Value))
  | [] => some []
  | t :: q => match envL e t with
    | some v => match pickE e q with
      | some l => some ((t, v) :: l)
      | none => none
    | none => none

theorem envL_putL {l : LE} {d t : Nat} {v w : Value} (h : envL (putL l (some d) v) t = some w) : (t = d ∧ w = v) ∨ envL l t = some w := by
  simp only [envL, putL, List.getElem?_set] at h
  split at h
  · rename_i hd
    subst hd
    split at h
    · simp at h; exact .inl ⟨rfl, h.symm⟩
    · simp at h
  · exact .inr h

theorem pickE_env {e : LE} : ∀ {ts : List Nat} {l : List (Nat × Value)}, pickE e ts = some l → ∀ {n t : Nat} {v : Value}, envL (mkE n l) t = some v → envL e t = some v := by
  intro ts
  induction ts with
  | nil =>
    intro l h n t v hv
    simp [pickE] at h; subst h
    simp only [mkE, envL, List.getElem?_replicate] at hv
    split at hv <;> simp at hv
  | cons a q ih =>
    intro l h n t v hv
    simp only [pickE] at h
    split at h
    · rename_i u hu
      split at h
      · rename_i l2 hl2
        cases h
        rcases envL_putL hv with ⟨rfl, rfl⟩ | hv
        · exact hu
        · exact ih hl2 hv
      · cases h
    · cases h

def calm : AX → Bool
  | .panic _ => false
  | _ => true

def obs (P : Program) (T : TT) (r : Option Nat) (bs : Bs) (n : Nat) : Ob where
  pl := Plain P
  gives := fun f xs h o h' => Gives P f xs h o h' ∧ ∃ x, h' = h ++ x
  know := fun b v => b = v
  rd := fun h a n cs => readCells h a n = some cs
  wr := fun h a vs h' => writeCells h a vs = some h'
  ix := fun k n => 0 ≤ k ∧ k < n
  app := fun n0 t u s x h v h' => aAppend T n0 t u s x h = some (v, h')
  op := fun o v h' => o = some (v, h')
  mput := MPut P
  mget := MGet P
  mlen := MLen P
  loop := fun n0 c l h ax l' h' => calm ax = true ∧ awp r bs P n n0 c (fun ax2 e2 h2 => ax2 = ax ∧ Ref n0 (envL (mkE n l')) h' e2 h2) (envL (mkE n l)) h

inductive Td where
  | auto
  | pl (g : LE → Heap → Value)
  | ans (g : LE → Heap → Value × Heap)
  | ld (g : Heap → Addr → List Value)
  | st (g : Heap → Addr → List Value → Heap)
  | ix
  | app (g : LE → Heap → Value × Heap)
  | op (g : LE → Heap → Value × Heap)
  | mp (g : LE → Heap → Value × Heap)

section
variable {r : Option Nat} {bs : Bs} {P : Program} {T : TT} {n n0 : Nat} {e : LE} {h : Heap} {ops : Array Oper}

def tAct (O : Ob) (T : TT) (n0 : Nat) (d : Td) (op : Op) (e : LE) (h : Heap) (K : Value → Heap → Prop) : Prop :=
  match d with
  | .auto =>
    match op with
    | .call { callee := .value _, args := _, argTypes := _ } => False
    | .panic _ => False
    | op => match aOp T n0 (envL e) h op with
      | some (v, h') => K v h'
      | none => False
  | .pl g =>
    match op with
    | .call { callee := .value fo, args, argTypes } =>
      match callTarget (envL e) { callee := .value fo, args, argTypes } with
      | some (f, xs) => O.pl f xs (g e h) ∧ K (g e h) h
      | none => False
    | _ => False
  | .ans g =>
    match op with
    | .call { callee := .value fo, args, argTypes } =>
      match callTarget (envL e) { callee := .value fo, args, argTypes } with
      | some (f, xs) => O.gives f xs h (.ret (g e h).1) (g e h).2 ∧ K (g e h).1 (g e h).2
      | none => False
    | _ => False
  | .ld g =>
    match op with
    | .load t x =>
      match eo (envL e) x, T t with
      | some (.pointer (some a)), some i => O.rd h a i.size (g h a) ∧ (match ofCells i (g h a) with | some v => K v h | none => False)
      | _, _ => False
    | _ => False
  | .st g =>
    match op with
    | .store t p x =>
      match eo (envL e) p, eo (envL e) x, T t with
      | some (.pointer (some a)), some v, some i =>
        match decide (v.cells.size = i.size) && v.cells.toList.all Value.oneCell' with
        | true => O.wr h a v.cells.toList (g h a v.cells.toList) ∧ K undef (g h a v.cells.toList)
        | false => False
      | _, _, _ => False
    | _ => False
  | .ix =>
    match op with
    | .indexAddr t x y =>
      match eo (envL e) x, eo (envL e) y, T t with
      | some v, some (.int _ k), some i =>
        match i.d, v with
        | .slice el, .slice (some ⟨b, o, none⟩) n z =>
          match T el with
          | some j => match Nat.beq z j.size with
            | true => O.ix k n ∧ K (.pointer (some ⟨b, o + k.toNat * j.size, none⟩)) h
            | false => False
          | none => False
        | .arr n el, .pointer (some ⟨b, o, none⟩) =>
          match T el with
          | some j => O.ix k n ∧ K (.pointer (some ⟨b, o + k.toNat * j.size, none⟩)) h
          | none => False
        | _, _ => False
      | _, _, _ => False
    | _ => False
  | .app g =>
    match op with
    | .call { callee := .builtin .append, args, argTypes } =>
      match args.toList, argTypes.toList with
      | [s, x], [t, u] =>
        match eo (envL e) s, eo (envL e) x with
        | some s, some x => O.app n0 t u s x h (g e h).1 (g e h).2 ∧ K (g e h).1 (g e h).2
        | _, _ => False
      | _, _ => False
    | _ => False
  | .op g =>
    match op with
    | .call { callee := .value _, args := _, argTypes := _ } => False
    | .panic _ => False
    | op => O.op (aOp T n0 (envL e) h op) (g e h).1 (g e h).2 ∧ K (g e h).1 (g e h).2
  | .mp g =>
    match op with
    | .makeMap _ none => K (.map (some h.length)) (h ++ [some ⟨[], true⟩])
    | .mapUpdate t x k y =>
      match eo (envL e) x, eo (envL e) k, eo (envL e) y with
      | some (.map (some i)), some kv, some yv => O.mput t i kv yv h (g e h).2 ∧ K undef (g e h).2
      | _, _, _ => False
    | .lookup t x k false =>
      match eo (envL e) x, eo (envL e) k with
      | some (.map (some i)), some kv => O.mget t i kv h (g e h).1 ∧ K (g e h).1 h
      | _, _ => False
    | .call { callee := .builtin .len, args, argTypes } =>
      match args.toList, argTypes.toList with
      | [x], [t] =>
        match eo (envL e) x, (g e h).1 with
        | some (.map (some i)), .int .i64 n => O.mlen t i h n ∧ K (.int .i64 n) h
        | _, _ => False
      | _, _ => False
    | _ => False

/-- What an action comes to. -/
theorem tAct_sound {d : Td} {op : Op} {K : Value → Heap → Prop} (hx : tAct (obs P T r bs n) T n0 d op e h K) :
    (∃ fo args argTypes f xs v h', op = .call { callee := .value fo, args, argTypes } ∧ callTarget (envL e) { callee := .value fo, args, argTypes } = some (f, xs) ∧ Gives P f xs h (.ret v) h' ∧ (∃ x, h' = h ++ x) ∧ K v h' ∧ ((∃ g, d = .pl g) → h' = h ∧ Plain P f xs v)) ∨
    ((∀ fo args argTypes, op ≠ .call { callee := .value fo, args, argTypes }) ∧ (∀ x, op ≠ .panic x) ∧ ((∃ v h', aOp T n0 (envL e) h op = some (v, h') ∧ K v h') ∨ ((∃ g, d = .mp g) ∧ ∃ v h', MOp P (envL e) h op v h' ∧ K v h'))) := by
  unfold tAct at hx
  split at hx
  · -- auto
    split at hx
    · cases hx
    · cases hx
    · rename_i h1 h2
      split at hx
      · rename_i v h' hv
        exact .inr ⟨fun fo a t hh => h1 _ _ _ hh, fun x hh => h2 _ hh, .inl ⟨v, h', hv, hx⟩⟩
      · cases hx
  · split at hx
    · rename_i fo args argTypes
      split at hx
      · rename_i f xs ht
        exact .inl ⟨fo, args, argTypes, f, xs, _, h, rfl, ht, hx.1.gives h, ⟨[], by simp⟩, hx.2, fun _ => ⟨rfl, hx.1⟩⟩
      · cases hx
    · cases hx
  · split at hx
    · rename_i fo args argTypes
      split at hx
      · rename_i f xs ht
        exact .inl ⟨fo, args, argTypes, f, xs, _, _, rfl, ht, hx.1.1, hx.1.2, hx.2, fun ⟨g, hg⟩ => (by cases hg)⟩
      · cases hx
    · cases hx
  · split at hx
    · rename_i t x
      split at hx
      · rename_i a i ha hi
        obtain ⟨h1, h2⟩ := hx
        split at h2
        · rename_i v hv
          refine .inr ⟨fun _ _ _ hh => (by cases hh), fun _ hh => (by cases hh), .inl ⟨v, h, ?_, h2⟩⟩
          simp only [obs] at h1
          simp only [aOp, aLoad, ha, hi, Option.bind_some, h1, hv, Option.map_some]
        · cases h2
      · cases hx
    · cases hx
  · split at hx
    · rename_i t p x
      split at hx
      · rename_i a v i ha hv hi
        split at hx
        · rename_i hc
          obtain ⟨h1, h2⟩ := hx
          simp only [Bool.and_eq_true, decide_eq_true_eq] at hc
          refine .inr ⟨fun _ _ _ hh => (by cases hh), fun _ hh => (by cases hh), .inl ⟨_, _, ?_, h2⟩⟩
          simp only [obs] at h1
          simp only [aOp, aStore, ha, hv, hi, Option.bind_some, hc, and_self, if_true, h1, Option.map_some]
        · cases hx
      · cases hx
    · cases hx
  · split at hx
    · rename_i t x y
      split at hx
      · rename_i v w k i hxv hyv hi
        split at hx
        · rename_i el b o nn z hd
          split at hx
          · rename_i j hj
            split at hx
            · rename_i hz
              obtain ⟨h1, h2⟩ := hx
              have hz' : z = j.size := Nat.eq_of_beq_eq_true hz
              refine .inr ⟨fun _ _ _ hh => (by cases hh), fun _ hh => (by cases hh), .inl ⟨_, _, ?_, h2⟩⟩
              simp only [obs] at h1
              simp only [aOp, aIndexAddr, hxv, hyv, hi, Option.bind_some, hd, hj, true_and, h1, hz', if_true, Option.map_some]
            · cases hx
          · cases hx
        · rename_i nn el b o hd
          split at hx
          · rename_i j hj
            obtain ⟨h1, h2⟩ := hx
            refine .inr ⟨fun _ _ _ hh => (by cases hh), fun _ hh => (by cases hh), .inl ⟨_, _, ?_, h2⟩⟩
            simp only [obs] at h1
            simp only [aOp, aIndexAddr, hxv, hyv, hi, Option.bind_some, hd, hj, h1, and_self, if_true, Option.map_some]
          · cases hx
        · cases hx
      · cases hx
    · cases hx
  · split at hx
    · rename_i args argTypes
      split at hx
      · rename_i s x t u hs hx2
        split at hx
        · rename_i sv xv hsv hxv
          obtain ⟨h1, h2⟩ := hx
          refine .inr ⟨fun _ _ _ hh => (by cases hh), fun _ hh => (by cases hh), .inl ⟨_, _, ?_, h2⟩⟩
          simp only [obs] at h1
          simp only [aOp, hs, hx2, hsv, hxv, Option.bind_some, h1]
        · cases hx
      · cases hx
    · cases hx
  · split at hx
    · cases hx
    · cases hx
    · rename_i h1 h2
      exact .inr ⟨fun _ _ _ hh => h1 _ _ _ hh, fun _ hh => h2 _ hh, .inl ⟨_, _, hx.1, hx.2⟩⟩
  · split at hx
    · exact .inr ⟨fun _ _ _ hh => (by cases hh), fun _ hh => (by cases hh), .inr ⟨⟨_, rfl⟩, _, _, .make _, hx⟩⟩
    · split at hx
      · rename_i i kv yv e1 e2 e3
        exact .inr ⟨fun _ _ _ hh => (by cases hh), fun _ hh => (by cases hh), .inr ⟨⟨_, rfl⟩, _, _, .put e1 e2 e3 hx.1, hx.2⟩⟩
      · cases hx
    · split at hx
      · rename_i i kv e1 e2
        exact .inr ⟨fun _ _ _ hh => (by cases hh), fun _ hh => (by cases hh), .inr ⟨⟨_, rfl⟩, _, _, .get e1 e2 hx.1, hx.2⟩⟩
      · cases hx
    · rename_i args argTypes
      obtain ⟨args⟩ := args
      obtain ⟨argTypes⟩ := argTypes
      split at hx
      · rename_i x t h1 h2
        simp only at h1 h2
        subst h1; subst h2
        split at hx
        · rename_i i n e1 e2
          exact .inr ⟨fun _ _ _ hh => (by cases hh), fun _ hh => (by cases hh), .inr ⟨⟨_, rfl⟩, _, _, .len e1 hx.1, hx.2⟩⟩
        · cases hx
      · cases hx
    · cases hx
end
end Go.Ab

namespace Go.Ab

structure Ts where
  dir : Nat → Nat → Option Bool × Td
  know : Nat → Option Bool
  loop : Nat → Option (List Nat × (List (Nat × Value) → Heap → AX × List (Nat × Value) × Heap))
  pf : List FuncId := []

/-- Calls of such functions are told plainly. -/
def plOk (pf : List FuncId) (D : Nat → Option Bool × Td) : List Oper → Nat → Bool
  | [], _ => true
  | o :: rest, i => (match isP pf o.op with
      | true => (match (D i).2 with | .pl _ => true | _ => false)
      | false => true) && plOk pf D rest (i + 1)
/-- No operation is told as one on a map. -/
def noMp (D : Nat → Option Bool × Td) : List Oper → Nat → Bool
  | [], _ => true
  | _ :: rest, i => (match (D i).2 with | .mp _ => false | _ => true) && noMp D rest (i + 1)
def plAll (pf : List FuncId) (D : Nat → Option Bool × Td) (draw : Bool) (l : List Oper) : Bool := (match draw with
  | true => noMp D l 0
  | false => true) && (match pf with
  | [] => true
  | _ => plOk pf D l 0)

section
variable {r : Option Nat} {bs : Bs} {P : Program} {T : TT} {n n0 : Nat} {e : LE} {h : Heap} {ops : Array Oper}

def tOps (O : Ob) (T : TT) (n0 : Nat) (ops : Array Oper) (D : Nat → Option Bool × Td) : List Oper → Nat → LE → Heap → (LE → Heap → Prop) → Prop
  | [], _, e, h, K => K e h
  | o :: rest, i, e, h, K =>
    match (D i).1 with
    | some v =>
      match guardTmp ops o with
      | none => False
      | some (t, want) =>
        match getB e t with
        | none => False
        | some b => O.know b v ∧
          match v == want with
          | true => tAct O T n0 (D i).2 o.op (putL e (some t) (.bool v)) h fun u h' => tOps O T n0 ops D rest (i + 1) (putL (putL e (some t) (.bool v)) o.dst u) h' K
          | false => tOps O T n0 ops D rest (i + 1) (putL (putL e (some t) (.bool v)) o.dst undef) h K
    | none =>
      match aWant ops o (envL e) with
      | none => False
      | some false => tOps O T n0 ops D rest (i + 1) (putL e o.dst undef) h K
      | some true => tAct O T n0 (D i).2 o.op e h fun u h' => tOps O T n0 ops D rest (i + 1) (putL e o.dst u) h' K

theorem tOps_sound {D : Nat → Option Bool × Td} {K : LE → Heap → Prop} : ∀ (l : List Oper) (i : Nat) (e : LE) (h : Heap), dstOk n l = true → e.length = n → tOps (obs P T r bs n) T n0 ops D l i e h K →
    aOpsM P T n0 ops (fun ax e' h' => ax = .normal ∧ ∃ l', l'.length = n ∧ e' = envL l' ∧ K l' h') l (envL e) h := by
  intro l
  induction l with
  | nil => intro i e h _ hl hx; exact ⟨rfl, e, hl, rfl, hx⟩
  | cons o rest ih =>
    intro i e h hd hl hx
    obtain ⟨hdst, hd2⟩ := dst_lt hd hl
    have nx : ∀ v h1, tOps (obs P T r bs n) T n0 ops D rest (i + 1) (putL e o.dst v) h1 K → aOpsM P T n0 ops (fun ax e' h' => ax = .normal ∧ ∃ l', l'.length = n ∧ e' = envL l' ∧ K l' h') rest (put (envL e) o.dst v) h1 := by
      intro v h1 hx
      rw [envL_put hdst]
      exact ih _ _ _ hd2 (by rw [putL_length]; exact hl) hx
    have act : aWant ops o (envL e) = some true → tAct (obs P T r bs n) T n0 (D i).2 o.op e h (fun u h' => tOps (obs P T r bs n) T n0 ops D rest (i + 1) (putL e o.dst u) h' K) →
        aOpsM P T n0 ops (fun ax e' h' => ax = .normal ∧ ∃ l', l'.length = n ∧ e' = envL l' ∧ K l' h') (o :: rest) (envL e) h := by
      intro hw ha
      simp only [aOpsM]
      refine ⟨true, hw, ?_⟩
      simp only [if_true]
      rcases tAct_sound ha with ⟨fo, args, argTypes, f, xs, v, h', hop, ht, hg, _, hk, _⟩ | ⟨h1, h2, ⟨v, h', hv, hk⟩ | ⟨_, v, h', hv, hk⟩⟩
      · rw [hop]
        exact gives_call ht hg (nx _ _ hk)
      · split
        · rename_i fo args argTypes hoo; exact absurd hoo (h1 _ _ _)
        · rename_i x hoo; exact absurd hoo (h2 _)
        · exact .inl ⟨_, hv, nx _ _ hk⟩
      · split
        · rename_i fo args argTypes hoo; exact absurd hoo (h1 _ _ _)
        · rename_i x hoo; exact absurd hoo (h2 _)
        · exact .inr ⟨_, _, hv, nx _ _ hk⟩
    simp only [tOps] at hx
    split at hx
    · rename_i v hv
      split at hx
      · cases hx
      · rename_i t want hg
        split at hx
        · cases hx
        · rename_i b hb
          obtain ⟨hb1, hb2⟩ := getB_eq hb
          have hw := aWant_guard (ops := ops) (o := o) hg hb1
          obtain ⟨hbv, hx⟩ := hx
          have hbv : b = v := hbv
          subst hbv
          rw [putL_same hb1] at hx
          split at hx
          · rename_i hvw
            exact act (by rw [hw, hvw]) hx
          · rename_i hvw
            simp only [aOpsM]
            exact ⟨false, by rw [hw, hvw], by simpa using nx _ _ hx⟩
    · split at hx
      · cases hx
      · rename_i hw
        simp only [aOpsM]
        exact ⟨false, hw, by simpa using nx _ _ hx⟩
      · rename_i hw
        exact act hw hx

theorem tOps_drawn {pf : List FuncId} {D : Nat → Option Bool × Td} {K : LE → Heap → Prop} : ∀ (l : List Oper) (i : Nat) (e : LE) (h : Heap), dstOk n l = true → e.length = n → (∀ o ∈ l, kd o.op ≠ .no) → plOk pf D l i = true → noMp D l i = true → tOps (obs P T r bs n) T n0 ops D l i e h K →
    aOpsDP pf P T n0 ops (fun e' h' => ∃ l', l'.length = n ∧ e' = envL l' ∧ K l' h') l (envL e) h := by
  intro l
  induction l with
  | nil => intro i e h _ hl _ _ _ hx; exact ⟨e, hl, rfl, hx⟩
  | cons o rest ih =>
    intro i e h hd hl hk hpl hmp hx
    have hmp2 : noMp D rest (i + 1) = true := by simp only [noMp, Bool.and_eq_true] at hmp; exact hmp.2
    have hmp1 : ∀ g, (D i).2 ≠ .mp g := by
      intro g hg
      simp only [noMp, Bool.and_eq_true, hg] at hmp
      exact absurd hmp.1 (by simp)
    have hpl2 : plOk pf D rest (i + 1) = true := by simp only [plOk, Bool.and_eq_true] at hpl; exact hpl.2
    have hpl1 : isP pf o.op = true → ∃ g, (D i).2 = .pl g := by
      intro hp
      simp only [plOk, Bool.and_eq_true, hp] at hpl
      have := hpl.1
      split at this
      · exact ⟨_, by assumption⟩
      · cases this
    have hk' : ∀ o ∈ rest, kd o.op ≠ .no := fun o ho => hk o (List.mem_cons_of_mem _ ho)
    obtain ⟨hdst, hd2⟩ := dst_lt hd hl
    have nx : ∀ v h1, tOps (obs P T r bs n) T n0 ops D rest (i + 1) (putL e o.dst v) h1 K → aOpsDP pf P T n0 ops (fun e' h' => ∃ l', l'.length = n ∧ e' = envL l' ∧ K l' h') rest (put (envL e) o.dst v) h1 := by
      intro v h1 hx
      rw [envL_put hdst]
      exact ih _ _ _ hd2 (by rw [putL_length]; exact hl) hk' hpl2 hmp2 hx
    have act : aWant ops o (envL e) = some true → tAct (obs P T r bs n) T n0 (D i).2 o.op e h (fun u h' => tOps (obs P T r bs n) T n0 ops D rest (i + 1) (putL e o.dst u) h' K) →
        aOpsDP pf P T n0 ops (fun e' h' => ∃ l', l'.length = n ∧ e' = envL l' ∧ K l' h') (o :: rest) (envL e) h := by
      intro hw ha
      simp only [aOpsDP]
      refine ⟨true, hw, ?_⟩
      simp only [if_true]
      rcases tAct_sound ha with ⟨fo, args, argTypes, f, xs, v, h', hop, ht, hg, hxx, hk, hpl3⟩ | ⟨h1, h2, ⟨v, h', hv, hk⟩ | ⟨⟨g, hg⟩, _⟩⟩
      · rw [hop] at hpl1
        rw [hop]
        exact ⟨_, _, gives_call ht hg ⟨rfl, rfl⟩, hxx, fun hp => ⟨(hpl3 (hpl1 hp)).1, fun h2 => gives_call ht ((hpl3 (hpl1 hp)).2.gives h2) ⟨rfl, rfl⟩⟩, nx _ _ hk⟩
      · split
        · rename_i fo args argTypes hoo; exact absurd hoo (h1 _ _ _)
        · exact ⟨_, hv, nx _ _ hk⟩
      · exact absurd hg (hmp1 g)
    simp only [tOps] at hx
    split at hx
    · rename_i v hv
      split at hx
      · cases hx
      · rename_i t want hg
        split at hx
        · cases hx
        · rename_i b hb
          obtain ⟨hb1, hb2⟩ := getB_eq hb
          have hw := aWant_guard (ops := ops) (o := o) hg hb1
          obtain ⟨hbv, hx⟩ := hx
          have hbv : b = v := hbv
          subst hbv
          rw [putL_same hb1] at hx
          split at hx
          · rename_i hvw
            exact act (by rw [hw, hvw]) hx
          · rename_i hvw
            simp only [aOpsDP]
            exact ⟨false, by rw [hw, hvw], by simpa using nx _ _ hx⟩
    · split at hx
      · cases hx
      · rename_i hw
        simp only [aOpsDP]
        exact ⟨false, hw, by simpa using nx _ _ hx⟩
      · rename_i hw
        exact act hw hx

theorem plOk_nil {D : Nat → Option Bool × Td} : ∀ (l : List Oper) (i : Nat), plOk [] D l i = true := by
  intro l
  induction l with
  | nil => intro i; rfl
  | cons o q ih => intro i; simp only [plOk, isP_nil, ih, Bool.and_self]
theorem plAll_ok {pf : List FuncId} {D : Nat → Option Bool × Td} {draw : Bool} {l : List Oper} (h : plAll pf D draw l = true) : plOk pf D l 0 = true := by
  unfold plAll at h
  rw [Bool.and_eq_true] at h
  have h := h.2
  split at h
  · exact plOk_nil l 0
  · exact h
theorem plAll_mp {pf : List FuncId} {D : Nat → Option Bool × Td} {l : List Oper} (h : plAll pf D true l = true) : noMp D l 0 = true := by
  unfold plAll at h
  rw [Bool.and_eq_true] at h
  exact h.1

def tCode (O : Ob) (T : TT) (S : Ts) : Nat → Nat → Code → LE → Heap → (AX → LE → Heap → Prop) → Prop
  | 0, _, _, _, _, _ => False
  | _ + 1, _, .skip, e, h, K => K .normal e h
  | _ + 1, _, .exit i, e, h, K => K (.exit i) e h
  | _ + 1, _, .label _, e, h, K => K .normal e h
  | _ + 1, _, .ret, e, h, K => K .ret e h
  | _ + 1, n0, .region id ops dr, e, h, K => match plAll S.pf (S.dir id) dr ops.toList with
    | true => tOps O T n0 ops (S.dir id) ops.toList 0 e h fun e' h' => K .normal e' h'
    | false => False
  | k + 1, n0, .seq a b, e, h, K => tCode O T S k n0 a e h (sNext (fun e' h' => tCode O T S k n0 b e' h' K) K)
  | k + 1, n0, .cond c a b, e, h, K =>
    match c with
    | .tmp t =>
      match S.know t with
      | some u =>
        match getB e t with
        | some v => O.know v u ∧ (match u with
          | true => tCode O T S k n0 a (putL e (some t) (.bool true)) h K
          | false => tCode O T S k n0 b (putL e (some t) (.bool false)) h K)
        | none => False
      | none =>
        match envL e t with
        | some (.bool true) => tCode O T S k n0 a e h K
        | some (.bool false) => tCode O T S k n0 b e h K
        | _ => False
    | _ => False
  | k + 1, n0, .block id c, e, h, K =>
    match S.loop id with
    | some (ts, g) =>
      match pickE e ts with
      | some l => O.loop n0 (.block id c) l h (g l h).1 (g l h).2.1 (g l h).2.2 ∧ K (g l h).1 (mkE e.length (g l h).2.1) (g l h).2.2
      | none => False
    | none => tCode O T S k n0 c e h (sBlock id K)
  | k + 1, n0, .loop c, e, h, K => tCode O T S k n0 c e h (sNext (fun e' h' => tCode O T S k n0 (.loop c) e' h' K) K)
  | _ + 1, _, _, _, _, _ => False

/-- One judgement seen as another one, where nothing has panicked. -/
theorem awp_reft {c : Code} {Q Q2 : AX → Env → Heap → Prop} {e : Env} (hw : awp r bs P n n0 c Q e h) (hq : ∀ ax e h, Q ax e h → ∃ e2 h2, calm ax = true ∧ Ref n0 e2 h2 e h ∧ Q2 ax e2 h2) : awp r bs P n n0 c Q2 e h := by
  intro B0 m a w st he s1 s2
  refine wpIn_mono (hw B0 m a w st he s1 s2) ?_
  rintro x a' w' ⟨ax, m', e', h', q, xr, tr, he', s3, s4⟩
  obtain ⟨e2, h2, hc, hr, hq2⟩ := hq _ _ _ q
  obtain ⟨m2, t2, he2⟩ := hr B0 m' a' w' tr.st he'
  refine ⟨ax, m2, e2, h2, hq2, ?_, tr.trans t2, he2, s3, s4⟩
  cases ax <;> cases x <;> simp only [XRel] at xr ⊢ <;> first | trivial | exact xr | simp [calm] at hc

/-- What holds behind, told by lists; another view of the heap may be taken. -/
def tQ (n n0 : Nat) (K : AX → LE → Heap → Prop) : AX → Env → Heap → Prop := fun ax e h => ∃ (l : LE) (h2 : Heap), l.length = n ∧ calm ax = true ∧ Ref n0 (envL l) h2 e h ∧ K ax l h2

theorem tQ_self {K : AX → LE → Heap → Prop} {ax : AX} {l : LE} {h : Heap} (hl : l.length = n) (hc : calm ax = true) (hk : K ax l h) : tQ n n0 K ax (envL l) h := ⟨l, h, hl, hc, Ref.refl, hk⟩
theorem tQ_ref {K : AX → LE → Heap → Prop} {ax : AX} {e e2 : Env} {h h2 : Heap} (hr : Ref n0 e2 h2 e h) (hk : tQ n n0 K ax e2 h2) : tQ n n0 K ax e h :=
  let ⟨l, h3, h4, h5, h6, h7⟩ := hk; ⟨l, h3, h4, h5, hr.trans h6, h7⟩

theorem tQ_next {f : LE → Heap → Prop} {K : AX → LE → Heap → Prop} {G : Env → Heap → Prop} (hf : ∀ l h2 e h, l.length = n → Ref n0 (envL l) h2 e h → f l h2 → G e h) : ∀ x e h, tQ n n0 (sNext f K) x e h → thenQ G (tQ n n0 K) x e h := by
  rintro x e h ⟨l, h2, hl, hc, hr, hk⟩
  cases x with
  | normal => exact hf l h2 e h hl hr hk
  | exit i => exact ⟨l, h2, hl, hc, hr, hk⟩
  | ret => exact ⟨l, h2, hl, hc, hr, hk⟩
  | panic v => exact ⟨l, h2, hl, hc, hr, hk⟩

theorem arounds_ref {c : Code} {Q : AX → Env → Heap → Prop} {e e2 : Env} {h h2 : Heap} (hr : Ref n0 e2 h2 e h) : ∀ {k : Nat}, arounds r bs P n n0 c Q k e2 h2 → arounds r bs P n n0 c Q k e h
  | 0, hk => hk
  | _ + 1, hk => awp_ref hr hk

theorem tCode_sound {S : Ts} (hT : TT.ok P T) (hm : P.follows .mixedOrders = true) : ∀ (k : Nat) (c : Code) (n0 : Nat) (e : LE) (h : Heap) (K : AX → LE → Heap → Prop),
    codeOkP S.pf n c = true → e.length = n → tCode (obs P T r bs n) T S k n0 c e h K → awp r bs P n n0 c (tQ n n0 K) (envL e) h ∧ ∀ d, c = .loop d → arounds r bs P n n0 d (tQ n n0 K) k (envL e) h := by
  intro k
  induction k with
  | zero => intro c n0 e h K _ _ hx; simp [tCode] at hx
  | succ k ih =>
    intro c n0 e h K hok hl hx
    cases c with
    | skip => simp only [tCode] at hx; exact ⟨awp_skip (tQ_self hl rfl hx), fun _ hh => by cases hh⟩
    | exit i => simp only [tCode] at hx; exact ⟨awp_exit (tQ_self hl rfl hx), fun _ hh => by cases hh⟩
    | label i => simp only [tCode] at hx; exact ⟨awp_label (tQ_self hl rfl hx), fun _ hh => by cases hh⟩
    | ret => simp only [tCode] at hx; exact ⟨awp_ret (tQ_self hl rfl hx), fun _ hh => by cases hh⟩
    | region id ops draw =>
      obtain ⟨ops⟩ := ops
      simp only [codeOkP, Bool.and_eq_true] at hok
      simp only [tCode] at hx
      have hpl : plAll S.pf (S.dir id) draw ops = true := by
        split at hx
        · assumption
        · cases hx
      rw [hpl] at hx
      simp only at hx
      cases draw with
      | false =>
        have h2 := tOps_sound _ _ _ _ hok.1 hl hx
        refine ⟨awp_mono (awp_regionM hT hok.1 h2) ?_, fun _ hh => by cases hh⟩
        rintro x e h ⟨rfl, l, h3, rfl, h4⟩
        exact tQ_self h3 rfl h4
      | true =>
        have hdr : drawOkP S.pf n ops = true := by simpa using hok.2
        have D := Drawn.of hdr
        have h2 := tOps_drawn (pf := S.pf) (r := r) (bs := bs) (P := P) (T := T) (n0 := n0) (ops := ops.toArray) (D := S.dir id) (K := fun e' h' => K .normal e' h') ops 0 e h hok.1 hl (fun o ho => by obtain ⟨i, hi⟩ := List.getElem?_of_mem ho; exact kd_known (D.known i o hi)) (plAll_ok hpl) (plAll_mp hpl) hx
        refine ⟨awp_mono (awp_drawP (Q := fun ax e h => match ax with | .normal => Qs n K .normal e h | _ => False) hT hm hdr h2) ?_, fun _ hh => by cases hh⟩
        intro x e h hq
        cases x with
        | normal => obtain ⟨l, h3, rfl, h4⟩ := hq; exact tQ_self h3 rfl h4
        | exit i => exact hq.elim
        | ret => exact hq.elim
        | panic v => exact hq.elim
    | seq a b =>
      simp only [codeOkP, Bool.and_eq_true] at hok
      simp only [tCode] at hx
      refine ⟨awp_seq (awp_mono (ih a n0 e h _ hok.1 hl hx).1 (tQ_next fun l h2 e h hl2 hr hf => awp_ref hr (ih b n0 l h2 _ hok.2 hl2 hf).1)), fun _ hh => by cases hh⟩
    | cond c a b =>
      simp only [codeOkP, Bool.and_eq_true] at hok
      simp only [tCode] at hx
      split at hx
      · rename_i t
        split at hx
        · split at hx
          · rename_i v hv
            obtain ⟨hv1, hv2⟩ := getB_eq hv
            obtain ⟨hvu, hx⟩ := hx
            have hvu : v = _ := hvu
            subst hvu
            refine ⟨?_, fun _ hh => by cases hh⟩
            cases v with
            | true =>
              simp only at hx
              rw [putL_same hv1] at hx
              exact awp_cond (t := true) hv1 (by simpa using (ih a n0 e h _ hok.1 hl hx).1)
            | false =>
              simp only at hx
              rw [putL_same hv1] at hx
              exact awp_cond (t := false) hv1 (by simpa using (ih b n0 e h _ hok.2 hl hx).1)
          · cases hx
        · split at hx
          · rename_i hv
            exact ⟨awp_cond (t := true) hv (by simpa using (ih a n0 e h _ hok.1 hl hx).1), fun _ hh => by cases hh⟩
          · rename_i hv
            exact ⟨awp_cond (t := false) hv (by simpa using (ih b n0 e h _ hok.2 hl hx).1), fun _ hh => by cases hh⟩
          · cases hx
      · cases hx
    | block id c =>
      simp only [codeOkP] at hok
      simp only [tCode] at hx
      split at hx
      · rename_i ts g hg
        split at hx
        · rename_i l2 hl2
          obtain ⟨⟨h1, h3⟩, hk⟩ := hx
          refine ⟨awp_ref (Ref.fewer fun t v hv => pickE_env hl2 hv) (awp_mono h3 ?_), fun _ hh => by cases hh⟩
          rintro ax2 e2 h2' ⟨rfl, hr⟩
          exact ⟨_, _, mkE_length, h1, hr, by rw [hl] at hk; exact hk⟩
        · cases hx
      · refine ⟨awp_block (awp_mono (ih c n0 e h _ hok hl hx).1 ?_), fun _ hh => by cases hh⟩
        rintro x e2 h2 ⟨l, h3, hl2, hc, hr, hk⟩
        cases x with
        | exit j =>
          simp only [sBlock] at hk
          simp only [blockQ]
          split
          · rename_i hj; rw [if_pos hj] at hk; exact ⟨l, h3, hl2, rfl, hr, hk⟩
          · rename_i hj; rw [if_neg hj] at hk; exact ⟨l, h3, hl2, hc, hr, hk⟩
        | normal => exact ⟨l, h3, hl2, hc, hr, hk⟩
        | ret => exact ⟨l, h3, hl2, hc, hr, hk⟩
        | panic v => exact ⟨l, h3, hl2, hc, hr, hk⟩
    | loop c =>
      simp only [codeOkP] at hok
      simp only [tCode] at hx
      have key : arounds r bs P n n0 c (tQ n n0 K) (k + 1) (envL e) h := awp_mono (ih c n0 e h _ hok hl hx).1 (tQ_next fun l h2 e h hl2 hr hf => arounds_ref hr ((ih (.loop c) n0 l h2 _ hok hl2 hf).2 c rfl))
      exact ⟨awp_rounds _ key, fun d hd => by cases hd; exact key⟩
    | rangeFunc a b c d => simp [tCode] at hx
    | _ => simp [codeOkP] at hok

/-- A piece of code, out of a run that is written out; of the frame behind it, some places. -/
theorem awp_run {S : Ts} {k : Nat} {c : Code} {ts : List Nat} {K : AX → List (Option Value) → Heap → Prop} {Q : AX → Env → Heap → Prop} {A : Prop} (hT : TT.ok P T) (hm : P.follows .mixedOrders = true) (hok : codeOkP S.pf n c = true) (hl : e.length = n)
    (hA : A) (hx : A = tCode (obs P T r bs n) T S k n0 c e h fun ax e' h' => K ax (ts.map (envL e')) h') (hQ : ∀ ax l e h' h2, calm ax = true → Ref n0 (envL l) h' e h2 → K ax (ts.map (envL l)) h' → Q ax e h2) : awp r bs P n n0 c Q (envL e) h := by
  refine awp_mono (tCode_sound hT hm k c n0 e h _ hok hl (hx.mp hA)).1 ?_
  rintro ax e' h' ⟨l, h2, _, hc, hr, hk⟩
  exact hQ _ _ _ _ _ hc hr hk

def findBlock (id : Nat) : Code → Option Code
  | .block i c => match Nat.beq i id with
    | true => some (.block i c)
    | false => findBlock id c
  | .seq a b => match findBlock id a with
    | some c => some c
    | none => findBlock id b
  | .cond _ a b => match findBlock id a with
    | some c => some c
    | none => findBlock id b
  | .loop c => findBlock id c
  | .rangeFunc _ _ a b => match findBlock id a with
    | some c => some c
    | none => findBlock id b
  | _ => none
/-- A function's block of a number; the body of the loop in it. -/
def fb (fn : Func) (id : Nat) : Code := match fn.body with
  | some c => (findBlock id c).getD .skip
  | none => .skip
def lb (fn : Func) (id : Nat) : Code := match fb fn id with
  | .block _ (.loop c) => c
  | _ => .skip

def tFun (O : Ob) (T : TT) (S : Ts) (k : Nat) (fn : Func) (args : List Value) (h : Heap) (R : AOut → Heap → Prop) : Prop :=
  match fn.body with
  | none => False
  | some c => match Nat.ble args.length fn.ntmps with
    | true => tCode O T S k h.length c (startL args fn.ntmps) h (sEnd T fn.results.toList R)
    | false => False

theorem tFun_sum {S : Ts} {k : Nat} {f : FuncId} {fn : Func} {args : List Value} {h : Heap} {R : AOut → Heap → Prop} (hT : TT.ok P T) (hm : P.follows .mixedOrders = true)
    (hf : P.funcs[f]? = some fn ∧ (fn.name == "runtime.NumGoroutine") = false ∧ ∀ c, fn.body = some c → codeOkP S.pf fn.ntmps c = true) {A : Prop} (hA : A) (hx : A = tFun (obs P T none ([], true) fn.ntmps) T S k fn args h R) : Sum P f args h R := by
  have hx := hx.mp hA
  obtain ⟨h1, h2, h3⟩ := hf
  unfold tFun at hx
  split at hx
  · cases hx
  · rename_i c hb
    split at hx
    · rename_i hlen
      obtain ⟨e1, e2⟩ := startL_env (args := args) (n := fn.ntmps) (Nat.le_of_ble_eq_true hlen)
      refine Sum.of_awp hT h1 hb h2 (Nat.le_of_ble_eq_true hlen) ?_
      rw [← e1]
      refine awp_reft (tCode_sound hT hm k c h.length _ h _ (h3 c hb) e2 hx).1 ?_
      rintro x e h ⟨l, h5, hl, hc, hr, hk⟩
      refine ⟨_, _, hc, hr, ?_⟩
      cases x with
      | exit i => exact hk.elim
      | normal =>
        simp only [sEnd] at hk
        split at hk
        · rename_i vs hv; exact ⟨vs, hv, .inl hk⟩
        · cases hk
      | ret =>
        simp only [sEnd] at hk
        split at hk
        · rename_i vs hv; exact ⟨vs, hv, .inl hk⟩
        · cases hk
      | panic v => exact .inl hk
    · cases hx
end
end Go.Ab

namespace Go.Ab

theorem envOf_mkE {N t : Nat} {v : Value} : ∀ {l : List (Nat × Value)}, envL (mkE N l) t = some v → envOf l t = some v := by
  intro l
  induction l with
  | nil =>
    intro h
    simp only [mkE, envL, List.getElem?_replicate] at h
    split at h <;> simp at h
  | cons p q ih =>
    intro h
    by_cases hp : t = p.1
    · subst hp
      simp only [envOf, put, if_true]
      simp only [mkE, putL, envL, List.getElem?_set, if_true] at h
      split at h
      · simpa using h
      · simp at h
    · simp only [envOf, put, if_neg hp]
      rcases envL_putL (l := mkE N q) (d := p.1) (v := p.2) h with ⟨h1, _⟩ | h1
      · exact absurd h1 hp
      · exact ih h1

def closedH (k : Nat) (h : Heap) : Prop := ∀ b, some b ∈ h → subL (idS k) b.cells b.cells
theorem closedH_nil {k : Nat} : closedH k [] := fun _ h => by cases h
theorem closedH_cons {k : Nat} {b : Blk} {h : Heap} (h1 : subL (idS k) b.cells b.cells) (h2 : closedH k h) : closedH k (some b :: h) := by
  intro c hc
  rcases List.mem_cons.1 hc with hh | hh
  · cases hh; exact h1
  · exact h2 c hh
theorem closedH_at {k : Nat} {h : Heap} (hc : closedH k h) : ∀ i b, hblk h i = some b → subL (idS k) b.cells b.cells := by
  intro i b hb
  refine hc b ?_
  unfold hblk at hb
  cases hx : h[i]? with
  | none => simp [hx] at hb
  | some y => rw [hx] at hb; simp at hb; subst hb; exact List.mem_of_getElem? hx

/-- Behind a piece of code: the old blocks, some places of the frame. -/
theorem Ref.vals {n0 N : Nat} {e : Env} {h x : Heap} {l : List (Nat × Value)} (hn : n0 ≤ h.length) (hb : closedH h.length h) (hl : ∀ p ∈ l, e p.1 = some p.2 ∧ sub (idS h.length) p.2 p.2) : Ref n0 (envL (mkE N l)) h e (h ++ x) := by
  refine Ref.trans (e2 := envOf l) (h2 := h) ?_ (Ref.fewer fun t v hv => envOf_mkE hv)
  refine Ref.of_emb (s := idS h.length) ⟨by simp [idS], ?_, ?_⟩ ⟨by simpa [idS] using hn, fun i hi => idS_get (by omega), ?_⟩ ?_ ?_
  · intro i b hi
    have hlt : i < h.length := hblk_lt hi
    exact .inl ⟨i, b, idS_get hlt, by rw [hblk_append_left hlt]; exact hi, closedH_at hb i b hi, fun h => h⟩
  · intro i j k b b' hij hi ho hj h3 h4
    have h5 := hblk_lt hi
    have h6 := hblk_lt hj
    rw [idS_get h5] at h3
    rw [idS_get h6] at h4
    simp only [Option.some.injEq] at h3 h4
    omega
  · intro i j hi hj
    by_cases hlt : i < h.length
    · rw [idS_get hlt] at hj
      simp only [Option.some.injEq] at hj
      omega
    · rw [idS_ge (by omega)] at hj; cases hj
  · simp only [flags]
    rw [List.take_append_of_le_length hn]
  · have : ∀ (l : List (Nat × Value)), (∀ p ∈ l, e p.1 = some p.2 ∧ sub (idS h.length) p.2 p.2) → envSub (idS h.length) e l := by
      intro l
      induction l with
      | nil => intro _; trivial
      | cons p q ih => intro hl; exact ⟨⟨p.2, hl p (List.mem_cons_self ..)⟩, ih fun p' hp => hl p' (List.mem_cons_of_mem _ hp)⟩
    exact this l hl

/-- The end of a run that takes one way. -/
def Lf (ax0 : AX) (ts : List Nat) (l0 : List (Nat × Value)) (h0 : Heap) : AX → LE → Heap → Prop := fun ax e h => ax = ax0 ∧ pickE e ts = some l0 ∧ h = h0
def Dn (ax0 : AX) (l0 : List (Nat × Value)) (h0 : Heap) : Prop := ax0 = ax0 ∧ some l0 = some l0 ∧ h0 = h0
theorem dn (ax0 : AX) (l0 : List (Nat × Value)) (h0 : Heap) : Dn ax0 l0 h0 := ⟨rfl, rfl, rfl⟩

theorem pickE_get {e : LE} : ∀ {ts : List Nat} {l : List (Nat × Value)}, pickE e ts = some l → ∀ p ∈ l, envL e p.1 = some p.2 := by
  intro ts
  induction ts with
  | nil => intro l h p hp; simp [pickE] at h; subst h; cases hp
  | cons a q ih =>
    intro l h p hp
    simp only [pickE] at h
    split at h
    · rename_i u hu
      split at h
      · rename_i l2 hl2
        cases h
        rcases List.mem_cons.1 hp with rfl | hp
        · exact hu
        · exact ih hl2 p hp
      · cases h
    · cases h

/-- What one way of a piece of code comes to. -/
def Comes (r : Option Nat) (bs : Bs) (P : Program) (n n0 : Nat) (c : Code) (l : List (Nat × Value)) (h : Heap) (ax0 : AX) (l0 : List (Nat × Value)) (h1 : Heap) : Prop :=
  awp r bs P n n0 c (fun ax e h => ax = ax0 ∧ Ref n0 (envL (mkE n l0)) h1 e h) (envL (mkE n l)) h

section
variable {r : Option Nat} {bs : Bs} {P : Program} {T : TT} {n n0 : Nat}

theorem comes_run {S : Ts} {k : Nat} {c : Code} {ts : List Nat} {ax0 : AX} {l l0 : List (Nat × Value)} {h h1 junk : Heap} {A : Prop} (hT : TT.ok P T) (hm : P.follows .mixedOrders = true) (hok : codeOkP S.pf n c = true)
    (hn : n0 ≤ h1.length) (hc : closedH h1.length h1) (hs : l0.all (fun p => belowB h1.length p.2) = true)
    (hA : A) (hx : A = tCode (obs P T r bs n) T S k n0 c (mkE n l) h (Lf ax0 ts l0 (h1 ++ junk))) : Comes r bs P n n0 c l h ax0 l0 h1 := by
  refine awp_mono (tCode_sound hT hm k c n0 (mkE n l) h _ hok mkE_length (hx.mp hA)).1 ?_
  rintro ax e' h' ⟨l2, h2, _, _, hr, rfl, hp, rfl⟩
  refine ⟨rfl, Ref.trans hr (Ref.vals hn hc fun p hpp => ⟨pickE_get hp p hpp, belowB_sub _ ?_⟩)⟩
  exact List.all_eq_true.1 hs p hpp

theorem comes_loop {fn : Func} {id : Nat} {c : Code} {l l' : List (Nat × Value)} {h h' : Heap} {ax : AX} (hfb : c = .block id (.loop (lb fn id))) (hcalm : calm ax = true)
    {α : Type} (S : α → List (Nat × Value)) (H : α → Heap) (I : α → Prop) (dec : α → Nat) (x0 : α) (hI : I x0) (hS : S x0 = l) (hH : H x0 = h)
    (round : ∀ x, I x → (∃ y, I y ∧ dec y < dec x ∧ Comes r bs P n n0 (lb fn id) (S x) (H x) .normal (S y) (H y)) ∨
      (ax = .normal ∧ Comes r bs P n n0 (lb fn id) (S x) (H x) (.exit id) l' h') ∨ (ax = .ret ∧ Comes r bs P n n0 (lb fn id) (S x) (H x) .ret l' h')) :
    (obs P T r bs n).loop n0 c l h ax l' h' := by
  refine ⟨hcalm, ?_⟩
  subst hfb; subst hS; subst hH
  refine awp_block (awp_loop (α := α) (fun x => envL (mkE n (S x))) H I dec x0 hI Ref.refl ?_)
  intro x hx
  rcases round x hx with ⟨y, hy, hlt, hc⟩ | ⟨rfl, hc⟩ | ⟨rfl, hc⟩
  · refine awp_mono hc ?_
    rintro x2 e h ⟨rfl, hr⟩
    exact ⟨y, hy, hlt, hr⟩
  · refine awp_mono hc ?_
    rintro x2 e h ⟨rfl, hr⟩
    simp only [thenQ, blockQ, if_true]
    exact ⟨trivial, hr⟩
  · refine awp_mono hc ?_
    rintro x2 e h ⟨rfl, hr⟩
    exact ⟨rfl, hr⟩
end
end Go.Ab

namespace Go.Ab

section
variable {r : Option Nat} {bs : Bs} {P : Program} {T : TT} {n n0 : Nat}

theorem tCode_exact {S : Ts} (hT : TT.ok P T) (hm : P.follows .mixedOrders = true) (hno : ∀ id, S.loop id = none) : ∀ (k : Nat) (c : Code) (n0 : Nat) (e : LE) (h : Heap) (K : AX → LE → Heap → Prop),
    codeOkP S.pf n c = true → e.length = n → tCode (obs P T r bs n) T S k n0 c e h K → awp r bs P n n0 c (Qs n K) (envL e) h ∧ ∀ d, c = .loop d → arounds r bs P n n0 d (Qs n K) k (envL e) h := by
  intro k
  induction k with
  | zero => intro c n0 e h K _ _ hx; simp [tCode] at hx
  | succ k ih =>
    intro c n0 e h K hok hl hx
    cases c with
    | skip => simp only [tCode] at hx; exact ⟨awp_skip ⟨e, hl, rfl, hx⟩, fun _ hh => by cases hh⟩
    | exit i => simp only [tCode] at hx; exact ⟨awp_exit ⟨e, hl, rfl, hx⟩, fun _ hh => by cases hh⟩
    | label i => simp only [tCode] at hx; exact ⟨awp_label ⟨e, hl, rfl, hx⟩, fun _ hh => by cases hh⟩
    | ret => simp only [tCode] at hx; exact ⟨awp_ret ⟨e, hl, rfl, hx⟩, fun _ hh => by cases hh⟩
    | region id ops draw =>
      obtain ⟨ops⟩ := ops
      simp only [codeOkP, Bool.and_eq_true] at hok
      simp only [tCode] at hx
      have hpl : plAll S.pf (S.dir id) draw ops = true := by
        split at hx
        · assumption
        · cases hx
      rw [hpl] at hx
      simp only at hx
      cases draw with
      | false =>
        have h2 := tOps_sound _ _ _ _ hok.1 hl hx
        refine ⟨awp_mono (awp_regionM hT hok.1 h2) ?_, fun _ hh => by cases hh⟩
        rintro x e h ⟨rfl, l, h3, rfl, h4⟩
        exact ⟨l, h3, rfl, h4⟩
      | true =>
        have hdr : drawOkP S.pf n ops = true := by simpa using hok.2
        have D := Drawn.of hdr
        have h2 := tOps_drawn (pf := S.pf) (r := r) (bs := bs) (P := P) (T := T) (n0 := n0) (ops := ops.toArray) (D := S.dir id) (K := fun e' h' => K .normal e' h') ops 0 e h hok.1 hl (fun o ho => by obtain ⟨i, hi⟩ := List.getElem?_of_mem ho; exact kd_known (D.known i o hi)) (plAll_ok hpl) (plAll_mp hpl) hx
        refine ⟨awp_drawP hT hm hdr ?_, fun _ hh => by cases hh⟩
        exact h2
    | seq a b =>
      simp only [codeOkP, Bool.and_eq_true] at hok
      simp only [tCode] at hx
      refine ⟨awp_seq (awp_mono (ih a n0 e h _ hok.1 hl hx).1 (Qs_next fun l h hl2 hf => (ih b n0 l h _ hok.2 hl2 hf).1)), fun _ hh => by cases hh⟩
    | cond c a b =>
      simp only [codeOkP, Bool.and_eq_true] at hok
      simp only [tCode] at hx
      split at hx
      · rename_i t
        split at hx
        · split at hx
          · rename_i v hv
            obtain ⟨hv1, hv2⟩ := getB_eq hv
            obtain ⟨hvu, hx⟩ := hx
            have hvu : v = _ := hvu
            subst hvu
            refine ⟨?_, fun _ hh => by cases hh⟩
            cases v with
            | true =>
              simp only at hx
              rw [putL_same hv1] at hx
              exact awp_cond (t := true) hv1 (by simpa using (ih a n0 e h _ hok.1 hl hx).1)
            | false =>
              simp only at hx
              rw [putL_same hv1] at hx
              exact awp_cond (t := false) hv1 (by simpa using (ih b n0 e h _ hok.2 hl hx).1)
          · cases hx
        · split at hx
          · rename_i hv
            exact ⟨awp_cond (t := true) hv (by simpa using (ih a n0 e h _ hok.1 hl hx).1), fun _ hh => by cases hh⟩
          · rename_i hv
            exact ⟨awp_cond (t := false) hv (by simpa using (ih b n0 e h _ hok.2 hl hx).1), fun _ hh => by cases hh⟩
          · cases hx
      · cases hx
    | block id c =>
      simp only [codeOkP] at hok
      simp only [tCode, hno] at hx
      refine ⟨awp_block (awp_mono (ih c n0 e h _ hok hl hx).1 ?_), fun _ hh => by cases hh⟩
      rintro x e2 h2 ⟨l, hl2, rfl, hk⟩
      cases x with
      | exit j =>
        simp only [sBlock] at hk
        simp only [blockQ]
        split
        · rename_i hj; rw [if_pos hj] at hk; exact ⟨l, hl2, rfl, hk⟩
        · rename_i hj; rw [if_neg hj] at hk; exact ⟨l, hl2, rfl, hk⟩
      | normal => exact ⟨l, hl2, rfl, hk⟩
      | ret => exact ⟨l, hl2, rfl, hk⟩
      | panic v => exact ⟨l, hl2, rfl, hk⟩
    | loop c =>
      simp only [codeOkP] at hok
      simp only [tCode] at hx
      have key : arounds r bs P n n0 c (Qs n K) (k + 1) (envL e) h := awp_mono (ih c n0 e h _ hok hl hx).1 (Qs_next fun l h hl2 hf => (ih (.loop c) n0 l h _ hok hl2 hf).2 c rfl)
      exact ⟨awp_rounds _ key, fun d hd => by cases hd; exact key⟩
    | rangeFunc a b c d => simp [tCode] at hx
    | _ => simp [codeOkP] at hok


/-- What one way of a piece of code comes to, the heap told to the letter. -/
def ComesX (r : Option Nat) (bs : Bs) (P : Program) (n n0 : Nat) (c : Code) (l : List (Nat × Value)) (h : Heap) (ax0 : AX) (l0 : List (Nat × Value)) (h0 : Heap) : Prop :=
  awp r bs P n n0 c (fun ax e h => ax = ax0 ∧ (∀ p ∈ l0, e p.1 = some p.2) ∧ h = h0) (envL (mkE n l)) h

theorem comesX_run {S : Ts} {k : Nat} {c : Code} {ts : List Nat} {ax0 : AX} {l l0 : List (Nat × Value)} {h h0 : Heap} {A : Prop} (hT : TT.ok P T) (hm : P.follows .mixedOrders = true) (hno : ∀ id, S.loop id = none) (hok : codeOkP S.pf n c = true)
    (hA : A) (hx : A = tCode (obs P T r bs n) T S k n0 c (mkE n l) h (Lf ax0 ts l0 h0)) : ComesX r bs P n n0 c l h ax0 l0 h0 := by
  refine awp_mono (tCode_exact hT hm hno k c n0 (mkE n l) h _ hok mkE_length (hx.mp hA)).1 ?_
  rintro ax e' h' ⟨l2, _, rfl, rfl, hp, rfl⟩
  exact ⟨rfl, pickE_get hp, rfl⟩

theorem envOf_get : ∀ {l : List (Nat × Value)} {t : Nat} {v : Value}, envOf l t = some v → (t, v) ∈ l := by
  intro l
  induction l with
  | nil => intro t v h; simp [envOf] at h
  | cons p q ih =>
    obtain ⟨k, x⟩ := p
    intro t v h
    simp only [envOf, put] at h
    split at h
    · rename_i hk; subst hk; cases h; exact List.mem_cons_self ..
    · exact List.mem_cons_of_mem _ (ih h)

/-- A block with a range over a function: all rounds end, or one of them leaves the function. -/
theorem comes_range {id : Nat} {c assign body : Code} {g : Operand} {ps : List Nat} {l l' : List (Nat × Value)} {h h' : Heap} {ax : AX} {f : FuncId} {cap cap2 : List Value} {hs : Heap} {L : List (List Value)} {s : List (Option Nat)} {N : Nat} (T : TT)
    (hc : c = .block id (.rangeFunc g ps.toArray assign body)) (hcalm : calm ax = true)
    (hN : n0 ≤ N) (hg : eo (envL (mkE n l)) g = some (.func (.func f) #[] ⟨cap⟩)) (hseq : SeqOf P f cap2 hs L) (hcap : subL s cap2 cap) (hsa : ∀ i j : Nat, s[i]? = some (some j) → j < N)
    (hl : ∀ p ∈ l, envL (mkE n l) p.1 = some p.2 ∧ sub (idS N) p.2 p.2) (hps : ∀ p ∈ ps, p < n) (hL : ∀ args ∈ L, args.length = ps.length ∧ ∀ v ∈ args, plain v = true)
    (H : Nat → Heap) (hlen : ∀ i, (H i).length = N) (hlive : ∀ i, i < N → (hblk h i).isSome = true) (hcl : ∀ i, closedH N (H i)) (h0 : H 0 = h) (hE : ∀ i x, Emb s hs (H i ++ x))
    (lp : Nat → List (Nat × Value)) (hlp : ∀ i args, L[i]? = some args → ∀ p ∈ lp i, putPs ps args (envL (mkE n l)) p.1 = some p.2 ∧ sub (idS N) p.2 p.2)
    (stop : Nat) (hstop : stop ≤ L.length)
    (round : ∀ (lid i : Nat), i < stop → ∃ l1 h1 x, ComesX (some lid) ([], false) P n N assign (lp i) (H i) .normal l1 h1 ∧ ComesX (some lid) ([], false) P n N body l1 h1 .normal [] (H (i + 1) ++ x))
    (done : (stop = L.length ∧ ax = .normal ∧ l' = l ∧ h' = H L.length) ∨
      (stop < L.length ∧ ax = .ret ∧ n0 ≤ h'.length ∧ closedH h'.length h' ∧ (∀ p ∈ l', envL (mkE n l) p.1 = some p.2 ∧ sub (idS h'.length) p.2 p.2) ∧ (∀ x, Emb s hs (h' ++ x)) ∧
        ∀ lid, ∃ l1 h1 x, ComesX (some lid) ([], false) P n N assign (lp stop) (H stop) .normal l1 h1 ∧ ComesX (some lid) ([], false) P n N body l1 h1 .ret [] (h' ++ x))) :
    (obs P T none ([], true) n).loop n0 c l h ax l' h' := by
  refine ⟨hcalm, ?_⟩
  subst hc
  refine awp_anchor hN (by rw [← h0, hlen]; exact Nat.le_refl _) (fun i _ hi => hlive i hi) (awp_block ?_)
  have inst : ∀ (lid i : Nat) (args : List Value) (x : Heap) (Q : AX → Env → Heap → Prop) (l1 : List (Nat × Value)) (h1 : Heap), L[i]? = some args → ComesX (some lid) ([], false) P n N assign (lp i) (H i) .normal l1 h1 →
      awp (some lid) ([], false) P n N body Q (envL (mkE n l1)) h1 → awp (some lid) ([], false) P n N assign (fun ax e1 h1 => ax = .normal ∧ awp (some lid) ([], false) P n N body Q e1 h1) (putPs ps args (envL (mkE n l))) (H i ++ x) := by
    intro lid i args x Q l1 h1 ha hc1 hc2
    have hr : Ref N (envL (mkE n (lp i))) (H i) (putPs ps args (envL (mkE n l))) (H i ++ x) := Ref.vals (by rw [hlen]; exact Nat.le_refl _) (by rw [hlen]; exact hcl i) (fun p hp => by rw [hlen]; exact hlp i args ha p hp)
    refine awp_ref hr (awp_mono hc1 ?_)
    rintro ax e hh ⟨rfl, he, rfl⟩
    refine ⟨rfl, awp_ref (Ref.fewer fun t v hv => ?_) hc2⟩
    exact he (t, v) (envOf_get (envOf_mkE hv))
  refine awp_rangeFunc rfl hg hseq hcap hsa ?_ hps hL (fun i h' => i ≤ stop ∧ ∃ x, h' = H i ++ x) ?_ ⟨Nat.zero_le _, [], by simp [h0]⟩ ?_ ?_
  · intro t v hv
    have := envOf_get (envOf_mkE hv)
    exact (hl _ this).2
  · rintro i h2 ⟨_, x, rfl⟩; exact hE i x
  · rintro lid i args h2 hargs ⟨hi, x, rfl⟩
    have hilt : i < L.length := (List.getElem?_eq_some_iff.1 hargs).1
    by_cases hlt : i < stop
    · obtain ⟨l1, h1, y, c1, c2⟩ := round lid i hlt
      refine inst lid i args x _ l1 h1 hargs c1 (awp_mono c2 ?_)
      rintro ax2 e3 h3 ⟨rfl, _, rfl⟩
      exact ⟨by omega, y, rfl⟩
    · have hie : i = stop := by omega
      subst hie
      rcases done with ⟨h1, _⟩ | ⟨_, rfl, h3, h4, h5, h6, h7⟩
      · omega
      · obtain ⟨l1, h1, y, c1, c2⟩ := h7 lid
        refine inst lid i args x _ l1 h1 hargs c1 (awp_mono c2 ?_)
        rintro ax2 e3 h3' ⟨rfl, _, rfl⟩
        exact ⟨⟨rfl, Ref.vals h3 h4 h5⟩, h6 y⟩
  · rintro h2 ⟨hi, x, rfl⟩
    rcases done with ⟨h1, rfl, rfl, rfl⟩ | ⟨h1, _⟩
    · refine ⟨rfl, Ref.vals (by rw [hlen]; exact hN) (by rw [hlen]; exact hcl _) (fun p hp => by rw [hlen]; exact hl p hp)⟩
    · omega
end
end Go.Ab

namespace Go.Ab

/-- A heap shown by some blocks of another one. -/
def PickB (s : List (Option Nat)) (h : Heap) : List Nat → Heap → Prop
  | k :: ks, some b2 :: h2 => (∃ b, hblk h k = some b ∧ subL s b2.cells b.cells ∧ (b2.own = true → b.own = true)) ∧ PickB s h ks h2
  | _ :: ks, none :: h2 => PickB s h ks h2
  | [], [] => True
  | _, _ => False

theorem PickB.get {s : List (Option Nat)} {h : Heap} : ∀ {ks : List Nat} {h2 : Heap}, PickB s h ks h2 → ks.length = h2.length ∧ ∀ i b2, hblk h2 i = some b2 → ∃ j b, ks[i]? = some j ∧ hblk h j = some b ∧ subL s b2.cells b.cells ∧ (b2.own = true → b.own = true) := by
  intro ks
  induction ks with
  | nil =>
    intro h2 hp
    cases h2 with
    | nil => exact ⟨rfl, fun i b2 hb => by simp [hblk] at hb⟩
    | cons a x => simp [PickB] at hp
  | cons k ks ih =>
    intro h2 hp
    cases h2 with
    | nil => simp [PickB] at hp
    | cons a x =>
      cases a with
      | none =>
        simp only [PickB] at hp
        obtain ⟨h3, h4⟩ := ih hp
        refine ⟨by simp [h3], fun i b2 hb => ?_⟩
        cases i with
        | zero => simp [hblk] at hb
        | succ i => simpa using h4 i b2 (by simpa [hblk] using hb)
      | some b =>
        simp only [PickB] at hp
        obtain ⟨⟨b', h5, h6, h7⟩, hp⟩ := hp
        obtain ⟨h3, h4⟩ := ih hp
        refine ⟨by simp [h3], fun i b2 hb => ?_⟩
        cases i with
        | zero =>
          simp [hblk] at hb
          subst hb
          exact ⟨k, b', rfl, h5, h6, h7⟩
        | succ i => simpa using h4 i b2 (by simpa [hblk] using hb)

theorem PickB.emb {n0 : Nat} {ks : List Nat} {h h2 : Heap} (ho : orderOk n0 ks = true) (hp : PickB (ks.map some) h ks h2) : Emb (ks.map some) h2 h ∧ anchored n0 (ks.map some) := by
  obtain ⟨hlen, hb⟩ := hp.get
  simp only [orderOk, Bool.and_eq_true, beq_iff_eq, decide_eq_true_eq] at ho
  obtain ⟨⟨ho1, ho2⟩, ho3⟩ := ho
  have hnd := nodupB_iff _ ho2
  have hfirst : ∀ i : Nat, i < n0 → ks[i]? = some i := by
    intro i hi
    have : (ks.take n0)[i]? = (List.range n0)[i]? := by rw [ho1]
    simpa [List.getElem?_take, hi] using this
  have hsm : ∀ {i : Nat} {x : Option Nat}, (ks.map some)[i]? = some x → ∃ j, ks[i]? = some j ∧ x = some j := by
    intro i x hx
    rw [List.getElem?_map] at hx
    obtain ⟨j, h1, h2⟩ := Option.map_eq_some_iff.1 hx
    exact ⟨j, h1, h2.symm⟩
  refine ⟨⟨by simpa using hlen, ?_, ?_⟩, ⟨by simpa using ho3, ?_, ?_⟩⟩
  · intro i b2 hi
    obtain ⟨j, b, h3, h4, h5, h6⟩ := hb i b2 hi
    exact .inl ⟨j, b, by rw [List.getElem?_map, h3]; rfl, h4, h5, h6⟩
  · intro i j k b b' hij _ _ _ h3 h4
    obtain ⟨a, ha, hak⟩ := hsm h3
    obtain ⟨c, hc, hck⟩ := hsm h4
    cases hak; cases hck
    exact hij (nodup_inj ks hnd i j k ha hc)
  · intro i hi
    rw [List.getElem?_map, hfirst i hi]; rfl
  · intro i j hi hj
    obtain ⟨a, ha, hak⟩ := hsm hj
    cases hak
    by_cases hlt : j < n0
    · have := hfirst j hlt
      have := nodup_inj ks hnd i j j ha this
      omega
    · omega

theorem Ref.pick {n0 N : Nat} {e : Env} {h h2 : Heap} {ks : List Nat} {l : List (Nat × Value)} (ho : orderOk n0 ks = true) (hp : PickB (ks.map some) h ks h2) (hf : flags n0 h2 = flags n0 h) (hl : ∀ p ∈ l, ∃ u, e p.1 = some u ∧ sub (ks.map some) p.2 u) :
    Ref n0 (envL (mkE N l)) h2 e h := by
  obtain ⟨E, ha⟩ := hp.emb ho
  refine Ref.trans (e2 := envOf l) (h2 := h2) ?_ (Ref.fewer fun t v hv => envOf_mkE hv)
  refine Ref.of_emb E ha hf ?_
  have : ∀ (l : List (Nat × Value)), (∀ p ∈ l, ∃ u, e p.1 = some u ∧ sub (ks.map some) p.2 u) → envSub (ks.map some) e l := by
    intro l
    induction l with
    | nil => intro _; trivial
    | cons p q ih => intro hl; exact ⟨hl p (List.mem_cons_self ..), ih fun p' hp => hl p' (List.mem_cons_of_mem _ hp)⟩
  exact this l hl

/-- Behind a function: fewer blocks. -/
theorem Sum.pick {P : Program} {f : FuncId} {xs : List Value} {h h' h2 : Heap} {v v2 : Value} {ks : List Nat} (hsum : Sum P f xs h fun o h3 => o = .ret v ∧ h3 = h') (ho : orderOk h.length ks = true) (hp : PickB (ks.map some) h' ks h2) (hf : flags h.length h2 = flags h.length h')
    (hv2 : sub (ks.map some) v2 v) : Sum P f xs h fun o h3 => o = .ret v2 ∧ h3 = h2 := by
  obtain ⟨E, hanc⟩ := hp.emb ho
  refine ⟨hsum.1, fun m w args' rel hv => (hsum.2 m w args' rel hv).mono ?_⟩
  rintro en w' ⟨m', out, h3, ⟨rfl, rfl⟩, hout, tr⟩
  refine ⟨pickMap (ks.map some) m', .ret v2, h2, ⟨rfl, rfl⟩, ?_, tr.trans ⟨⟨E.rel tr.st.rel, tr.st.base, ?_, by rw [← E.len]; exact hanc.1⟩, pick_take hanc tr.st.n0m, hf, Fr.refl _ _ _⟩⟩
  · cases en <;> simp only [OutRel] at hout ⊢
    exact VRel.of_sub v2 v _ hv2 hout
  · intro i b L hi hb hL
    obtain ⟨j, hj, hLj⟩ := mloc_pick_some hL
    rcases E.blk i b hb with ⟨j', b', hj', hbb, _, _⟩ | ⟨hn, _⟩
    · rw [hj] at hj'; cases hj'
      exact tr.st.fresh j b' L (hanc.2.2 i j hi hj) hbb hLj
    · rw [hj] at hn; cases hn

theorem grownH_app {s : List (Option Nat)} {h hs new : Heap} (hl : s.length = hs.length) : grownH s h (hs ++ new) = h ++ new.map (renB (backF s h.length)) := by
  simp only [grownH, hl, List.drop_left']

/-- A contract over a small heap that is read alone, used at a heap that shows it; the result is plain. -/
theorem gives_plain {P : Program} {f : FuncId} {xs ys : List Value} {hs h : Heap} {s : List (Option Nat)} {v : Value} (hsum : Sum P f ys hs fun o _ => o = .ret v) (hro : allRo hs = true) (E : Emb s hs (roH h)) (hsub : subL s ys xs) (hv : plain v = true) :
    Gives P f xs h (.ret v) h ∧ ∃ x, h = h ++ x := by
  refine ⟨.inr ⟨_, Sum.lift hsum hro E hsub, ?_⟩, [], by simp⟩
  rintro o2 h2 ⟨o', hs', rfl, rfl, rfl⟩
  exact .inl ⟨v, by simp only [renOut]; rw [ren_plain _ _ hv], hv, rfl, rfl⟩

/-- The same for a result with new blocks. -/
theorem gives_new {P : Program} {f : FuncId} {xs ys : List Value} {hs h new : Heap} {s : List (Option Nat)} {v : Value} (hsum : Sum P f ys hs fun o h2 => o = .ret v ∧ h2 = hs ++ new) (hro : allRo hs = true) (E : Emb s hs (roH h)) (hsub : subL s ys xs) :
    Gives P f xs h (.ret (ren (backF s h.length) v)) (h ++ new.map (renB (backF s h.length))) ∧ ∃ x, h ++ new.map (renB (backF s h.length)) = h ++ x := by
  refine ⟨.inr ⟨_, Sum.lift hsum hro E hsub, ?_⟩, _, rfl⟩
  rintro o2 h2 ⟨o', hs', ⟨rfl, rfl⟩, rfl, rfl⟩
  refine .inr ⟨by simp only [renOut, roH_length], ?_⟩
  rw [grownH_app E.len, List.drop_left' roH_length, roH_length]

section
variable {r : Option Nat} {bs : Bs} {P : Program} {n n0 : Nat}

theorem ComesX.comes {c : Code} {l l0 l1 : List (Nat × Value)} {h h0 h1 : Heap} {ax : AX} (hc : ComesX r bs P n n0 c l h ax l0 h0) (hr : ∀ e, (∀ p ∈ l0, e p.1 = some p.2) → Ref n0 (envL (mkE n l1)) h1 e h0) : Comes r bs P n n0 c l h ax l1 h1 := by
  refine awp_mono hc ?_
  rintro x e h ⟨rfl, he, rfl⟩
  exact ⟨rfl, hr e he⟩

theorem comes_pick {T : TT} {S : Ts} {k : Nat} {c : Code} {ts : List Nat} {ax0 : AX} {l l0 l1 : List (Nat × Value)} {h h0 h1 : Heap} {A : Prop} (hT : TT.ok P T) (hm : P.follows .mixedOrders = true) (hok : codeOkP S.pf n c = true)
    (hr : ∀ e, (∀ p ∈ l0, e p.1 = some p.2) → Ref n0 (envL (mkE n l1)) h1 e h0)
    (hA : A) (hx : A = tCode (obs P T r bs n) T S k n0 c (mkE n l) h (Lf ax0 ts l0 h0)) : Comes r bs P n n0 c l h ax0 l1 h1 := by
  refine awp_mono (tCode_sound hT hm k c n0 (mkE n l) h _ hok mkE_length (hx.mp hA)).1 ?_
  rintro ax e' h' ⟨l2, h2, _, _, hr2, rfl, hp, rfl⟩
  exact ⟨rfl, Ref.trans hr2 (hr _ (pickE_get hp))⟩
end
end Go.Ab
