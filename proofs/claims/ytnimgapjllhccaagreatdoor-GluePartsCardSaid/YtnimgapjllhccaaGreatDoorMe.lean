/- Answers at gluings, proved one by one. Conditions: none beyond the given model and program. -/
import Derived.Test.YtnimgapjllhccaaGreatDoorLb
import Derived.Test.YtnimgapjllhccaaGreatDoorAbC
namespace Go.Ab
open Go.Proofs

mutual
theorem ren_pl (f : Nat → Nat) : ∀ (v : Value), plain v = true → ren f v = v
  | .pointer (some a), h => by simp [plain] at h
  | .slice (some a) n z, h => by simp [plain] at h
  | .func g ⟨xs⟩ ⟨ys⟩, h => by
    cases g <;> simp only [plain, plainA, Bool.and_eq_true, Bool.false_eq_true] at h
    simp only [ren, renA]; rw [renL_pl f xs h.1, renL_pl f ys h.2]
  | .iface t v, h => by simp only [plain] at h; simp only [ren]; rw [ren_pl f v h]
  | .agg ⟨cs⟩, h => by simp only [plain, plainA] at h; simp only [ren, renA]; rw [renL_pl f cs h]
  | .tuple ⟨cs⟩, h => by simp only [plain, plainA] at h; simp only [ren, renA]; rw [renL_pl f cs h]
  | .pointer none, _ => rfl
  | .slice none n z, _ => rfl
  | .bool _, _ => rfl
  | .int .., _ => rfl
  | .float .., _ => rfl
  | .complex .., _ => rfl
  | .string _, _ => rfl
  | .map none, _ => rfl
  | .map (some _), h => by simp [plain] at h
  | .chan _, _ => rfl
  | .nilFunc, _ => rfl
  | .nilIface, _ => rfl
theorem renL_pl (f : Nat → Nat) : ∀ (v : List Value), plainL v = true → renL f v = v
  | [], _ => rfl
  | x :: r, h => by
    simp only [plainL, Bool.and_eq_true] at h
    simp only [renL]; rw [ren_pl f x h.1, renL_pl f r h.2]
end

structure Memo where
  f : FuncId
  n : Nat
  x : List Int
  o : Value
  new : Heap

def gArg (n : Nat) (b : Nat) : List Value := [.agg ⟨[.slice (some ⟨b, 0, none⟩) n 20]⟩]

def Memo.ok (m : Memo) : Prop := Sum Tryz.prog m.f (gArg m.n 0) [some ⟨ints m.x, false⟩] fun o h => o = .ret m.o ∧ h = some ⟨ints m.x, false⟩ :: m.new

def findM : List Memo → FuncId → Nat → List Int → Option Memo
  | [], _, _, _ => none
  | m :: q, f, n, x => if m.f = f ∧ m.n = n ∧ m.x = x then some m else findM q f n x

theorem findM_ok : ∀ {l : List Memo} {f : FuncId} {n : Nat} {x : List Int} {m : Memo}, findM l f n x = some m → m ∈ l ∧ m.f = f ∧ m.n = n ∧ m.x = x := by
  intro l
  induction l with
  | nil => intro f n x m h; simp [findM] at h
  | cons a q ih =>
    intro f n x m h
    simp only [findM] at h
    split at h
    · rename_i hc
      cases h
      exact ⟨List.mem_cons_self .., hc⟩
    · obtain ⟨h1, h2⟩ := ih h
      exact ⟨List.mem_cons_of_mem _ h1, h2⟩

def memoG (tbl : List Memo) : CallF := fun f args h =>
  match args with
  | [.agg ⟨[.slice (some ⟨b, 0, none⟩) n 20]⟩] =>
    match hblk h b with
    | some bl =>
      match toInts bl.cells with
      | some x =>
        match findM tbl f n x with
        | some m => if plain m.o = true then some (.ret m.o, h) else some (.ret (ren (backF [some b] h.length) m.o), h ++ m.new.map (renB (backF [some b] h.length)))
        | none => none
      | none => none
    | none => none
  | _ => none

theorem memoG_ok {tbl : List Memo} (ht : ∀ m ∈ tbl, m.ok) : ∀ f args h o h', memoG tbl f args h = some (o, h') → Gives Tryz.prog f args h o h' ∧ ∃ x, h' = h ++ x := by
  intro f args h o h' hx
  unfold memoG at hx
  split at hx
  · rename_i b n
    split at hx
    · rename_i bl hb
      split at hx
      · rename_i x hxx
        split at hx
        · rename_i m hm
          obtain ⟨h1, rfl, rfl, rfl⟩ := findM_ok hm
          have hb' : hblk (roH h) b = some ⟨bl.cells, false⟩ := by
            unfold hblk at hb ⊢
            simp only [roH, List.getElem?_map]
            cases hy : h[b]? with
            | none => simp [hy] at hb
            | some y => rw [hy] at hb; simp at hb; subst hb; rfl
          have hcs := toInts_eq _ _ hxx
          have E : Emb [some b] [some ⟨ints m.x, false⟩] (roH h) := by
            refine ⟨rfl, ?_, ?_⟩
            · intro i b2 hi
              match i with
              | 0 => simp [hblk] at hi; subst hi; exact .inl ⟨b, _, rfl, hb', by simp only; rw [hcs]; exact subL_plain _ _ (ints_plain _), fun hh => by cases hh⟩
              | i + 1 => simp [hblk] at hi
            · intro i j k b2 b2' _ hi ho
              match i with
              | 0 => simp [hblk] at hi; subst hi; cases ho
              | i + 1 => simp [hblk] at hi
          have hs : Sum Tryz.prog m.f (gArg m.n b) (roH h) _ := Sum.lift (ht m h1) rfl E ⟨_, _, rfl, ⟨_, rfl, ⟨_, _, rfl, .inr ⟨b, rfl, rfl⟩, rfl⟩⟩, rfl⟩
          split at hx
          · rename_i hp
            simp only [Option.some.injEq, Prod.mk.injEq] at hx
            obtain ⟨rfl, rfl⟩ := hx
            refine ⟨.inr ⟨_, hs, ?_⟩, [], by simp⟩
            rintro o2 h2 ⟨o', hs', ⟨rfl, rfl⟩, rfl, rfl⟩
            refine .inl ⟨m.o, ?_, hp, rfl, rfl⟩
            simp only [renOut]
            rw [ren_pl _ _ hp]
          · simp only [Option.some.injEq, Prod.mk.injEq] at hx
            obtain ⟨rfl, rfl⟩ := hx
            refine ⟨.inr ⟨_, hs, ?_⟩, _, rfl⟩
            rintro o2 h2 ⟨o', hs', ⟨rfl, rfl⟩, rfl, rfl⟩
            refine .inr ⟨?_, ?_⟩
            · simp [renOut, roH]
            · simp [grownH, roH]
        · cases hx
      · cases hx
    · cases hx
  · cases hx

def memoRes (m : Memo) (r : Option (AOut × Heap)) : Bool :=
  match r with
  | some (.ret v, h') =>
    (match renH (fun i => posOf i (0 :: dedup ((refsV v []).filter fun i => decide (1 ≤ i))) 0) h' (0 :: dedup ((refsV v []).filter fun i => decide (1 ≤ i))), renV (fun i => posOf i (0 :: dedup ((refsV v []).filter fun i => decide (1 ≤ i))) 0) v with
      | some h2, some v2 => heapEq h2 (some ⟨ints m.x, false⟩ :: m.new) && veq v2 m.o
      | _, _ => false) && orderOk 1 (0 :: dedup ((refsV v []).filter fun i => decide (1 ≤ i))) && decide (1 ≤ h'.length)
  | _ => false

theorem memo_of {C : XC} (hC : C.ok Tryz.prog) (m : Memo) (hm : memoRes m (xCall C 10 m.f (gArg m.n 0) [some ⟨ints m.x, false⟩]) = true) : m.ok := by
  unfold memoRes at hm
  split at hm
  · rename_i v h' hx
    generalize 0 :: dedup ((refsV v []).filter fun i => decide (1 ≤ i)) = ks at hm
    simp only [Bool.and_eq_true, decide_eq_true_eq] at hm
    obtain ⟨⟨h1, h2⟩, h3⟩ := hm
    split at h1
    · rename_i hh v2 e1 e2
      simp only [Bool.and_eq_true] at h1
      have k1 := heapEq_eq _ _ h1.1
      have k2 := veq_eq _ _ h1.2
      subst k1 k2
      exact Sum.reorder ((xCall_sound hC 10).1 _ _ _ _ _ hx).sum h3 h2 e1 e2
    · cases h1
  · cases hm
end Go.Ab
