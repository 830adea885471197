/- The forms of four numbers. Conditions: none beyond the given model and program. -/
import Derived.Test.YtnimgapjllhccaaDoorLb
import Derived.Test.YtnimgapjllhccaaDoorAbC
namespace Go.Ab
open Go.Proofs

/-- A number from 0 to 3. -/
def dig : Int → Option Nat
  | .ofNat n => if Nat.blt n 4 = true then some n else none
  | .negSucc _ => none

def validN (i j k l : Nat) : Bool := !(Nat.beq i j) && !(Nat.beq i k) && !(Nat.beq j k) && !(Nat.beq i l) && !(Nat.beq j l) && !(Nat.beq k l)

def validB (a b c d : Int) : Bool :=
  match dig a with
  | none => false
  | some i => match dig b with
    | none => false
    | some j => match dig c with
      | none => false
      | some k => match dig d with
        | none => false
        | some l => validN i j k l

def all4 (f : Int → Bool) : Bool := f (.ofNat 0) && (f (.ofNat 1) && (f (.ofNat 2) && f (.ofNat 3)))

theorem all4_at {f : Int → Bool} (h : all4 f = true) {i : Int} (h0 : 0 ≤ i) (h3 : i ≤ 3) : f i = true := by
  simp only [all4, Bool.and_eq_true] at h
  obtain ⟨a, b, c, d⟩ := h
  have hi : i = 0 ∨ i = 1 ∨ i = 2 ∨ i = 3 := by omega
  rcases hi with rfl | rfl | rfl | rfl
  · exact a
  · exact b
  · exact c
  · exact d

theorem all4_mk {f : Int → Bool} (h0 : f 0 = true) (h1 : f 1 = true) (h2 : f 2 = true) (h3 : f 3 = true) : all4 f = true := by
  simp only [all4, Bool.and_eq_true]
  exact ⟨h0, h1, h2, h3⟩

theorem form_of (x : Int) : (0 ≤ x ∧ x ≤ 3) ∨ (∃ n, x = Int.negSucc n) ∨ ∃ n : Nat, x = Int.ofNat (n + 4) := by
  cases x with
  | negSucc n => exact .inr (.inl ⟨n, rfl⟩)
  | ofNat n =>
    by_cases h : n < 4
    · left; have : (Int.ofNat n) = (n : Int) := rfl; omega
    · exact .inr (.inr ⟨n - 4, by congr 1; omega⟩)

def bad (f : Int → Bool) (n : Nat) : Bool := f (.negSucc n) && f (.ofNat (n + 4))
theorem bad_neg {f : Int → Bool} {n : Nat} (h : bad f n = true) : f (.negSucc n) = true := by simp only [bad, Bool.and_eq_true] at h; exact h.1
theorem bad_pos {f : Int → Bool} {n : Nat} (h : bad f n = true) : f (.ofNat (n + 4)) = true := by simp only [bad, Bool.and_eq_true] at h; exact h.2

/-- A check of four numbers, by the first one that is out of range. -/
theorem forms4 (f : Int → Int → Int → Int → Bool)
    (h0 : ∀ n b c d, bad (fun a => f a b c d) n = true)
    (h1 : ∀ n c d, all4 (fun a => bad (fun b => f a b c d) n) = true)
    (h2 : ∀ n d, all4 (fun a => all4 fun b => bad (fun c => f a b c d) n) = true)
    (h3 : ∀ n, all4 (fun a => all4 fun b => all4 fun c => bad (fun d => f a b c d) n) = true)
    (h4 : all4 (fun a => all4 fun b => all4 fun c => all4 fun d => f a b c d) = true) (a b c d : Int) : f a b c d = true := by
  rcases form_of a with ha | ⟨n, rfl⟩ | ⟨n, rfl⟩
  · rcases form_of b with hb | ⟨n, rfl⟩ | ⟨n, rfl⟩
    · rcases form_of c with hc | ⟨n, rfl⟩ | ⟨n, rfl⟩
      · rcases form_of d with hd | ⟨n, rfl⟩ | ⟨n, rfl⟩
        · exact all4_at (all4_at (all4_at (all4_at h4 ha.1 ha.2) hb.1 hb.2) hc.1 hc.2) hd.1 hd.2
        · exact bad_neg (all4_at (all4_at (all4_at (h3 n) ha.1 ha.2) hb.1 hb.2) hc.1 hc.2)
        · exact bad_pos (all4_at (all4_at (all4_at (h3 n) ha.1 ha.2) hb.1 hb.2) hc.1 hc.2)
      · exact bad_neg (all4_at (all4_at (h2 n d) ha.1 ha.2) hb.1 hb.2)
      · exact bad_pos (all4_at (all4_at (h2 n d) ha.1 ha.2) hb.1 hb.2)
    · exact bad_neg (all4_at (h1 n c d) ha.1 ha.2)
    · exact bad_pos (all4_at (h1 n c d) ha.1 ha.2)
  · exact bad_neg (h0 n b c d)
  · exact bad_pos (h0 n b c d)

theorem sum_of_run {C : XC} (hC : C.ok Tryd.prog) {f : FuncId} {args : List Value} {v : Value} (hr : okRet (xCall C 10 f args []) v = true) (ha : ∀ x ∈ args, plain x = true) (hv : plain v = true) (h : Heap) :
    Sum Tryd.prog f args h fun o h2 => o = .ret v ∧ h2 = h := by
  unfold okRet at hr
  split at hr
  · rename_i u hx
    have hu := veq_eq _ _ hr
    subst hu
    exact Sum.lift0 ((xCall_sound hC 10).1 _ _ _ _ _ hx).sum (fun o h' hh => hh.1) ha hv h
  · cases hr

theorem pm_plain (a b c d : Int) : plain (pm a b c d) = true := rfl
end Go.Ab
