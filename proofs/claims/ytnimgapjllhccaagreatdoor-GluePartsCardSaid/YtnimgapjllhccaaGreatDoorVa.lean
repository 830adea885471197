/- The forms of four numbers. Conditions: none beyond the given model and program. -/
import Derived.Test.YtnimgapjllhccaaGreatDoorLb
import Derived.Test.YtnimgapjllhccaaGreatDoorAbC
namespace Go.Ab
open Go.Proofs

/-- A number from 0 to 3. -/
def dig : Int → Option Nat
  | .ofNat n => if Nat.blt n 4 = true then some n else none
  | .negSucc _ => none

def validN (i j k l : Nat) : Bool := !(Nat.beq i j) && !(Nat.beq i k) && !(Nat.beq j k) && !(Nat.beq i l) && !(Nat.beq j l) && !(Nat.beq k l)

def validB (a b c d : Int) : Bool :=
  match dig a with
  | none => false
  | some i => match dig b with
    | none => false
    | some j => match dig c with
      | none => false
      | some k => match dig d with
        | none => false
        | some l => validN i j k l

def all4 (f : Int → Bool) : Bool := f (.ofNat 0) && (f (.ofNat 1) && (f (.ofNat 2) && f (.ofNat 3)))

theorem all4_at {f : Int → Bool} (h : all4 f = true) {i : Int} (h0 : 0 ≤ i) (h3 : i ≤ 3) : f i = true := by
  simp only [all4, Bool.and_eq_true] at h
  obtain ⟨a, b, c, d⟩ := h
  have hi : i = 0 ∨ i = 1 ∨ i = 2 ∨ i = 3 := by omega
  rcases hi with rfl | rfl | rfl | rfl
  · exact a
  · exact b
  · exact c
  · exact d

theorem all4_mk {f : Int → Bool} (h0 : f 0 = true) (h1 : f 1 = true) (h2 : f 2 = true) (h3 : f 3 = true) : all4 f = true := by
  simp only [all4, Bool.and_eq_true]
  exact ⟨h0, h1, h2, h3⟩

theorem form_of (x : Int) : (0 ≤ x ∧ x ≤ 3) ∨ (∃ n, x = Int.negSucc n) ∨ ∃ n : Nat, x = Int.ofNat (n + 4) := by
  cases x with
  | negSucc n => exact .inr (.inl ⟨n, rfl⟩)
  | ofNat n =>
    by_cases h : n < 4
    · left; have : (Int.ofNat n) = (n : Int) := rfl; omega
    · exact .inr (.inr ⟨n - 4, by congr 1; omega⟩)

def bad (f : Int → Bool) (n : Nat) : Bool := f (.negSucc n) && f (.ofNat (n + 4))
theorem bad_neg {f : Int → Bool} {n : Nat} (h : bad f n = true) : f (.negSucc n) = true := by simp only [bad, Bool.and_eq_true] at h; exact h.1
theorem bad_pos {f : Int → Bool} {n : Nat} (h : bad f n = true) : f (.ofNat (n + 4)) = true := by simp only [bad, Bool.and_eq_true] at h; exact h.2

/-- A check of four numbers, by the first one that is out of range. -/
theorem forms4 (f : Int → Int → Int → Int → Bool)
    (h0 : ∀ n b c d, bad (fun a => f a b c d) n = true)
    (h1 : ∀ n c d, all4 (fun a => bad (fun b => f a b c d) n) = true)
    (h2 : ∀ n d, all4 (fun a => all4 fun b => bad (fun c => f a b c d) n) = true)
    (h3 : ∀ n, all4 (fun a => all4 fun b => all4 fun c => bad (fun d => f a b c d) n) = true)
    (h4 : all4 (fun a => all4 fun b => all4 fun c => all4 fun d => f a b c d) = true) (a b c d : Int) : f a b c d = true := by
  rcases form_of a with ha | ⟨n, rfl⟩ | ⟨n, rfl⟩
  · rcases form_of b with hb | ⟨n, rfl⟩ | ⟨n, rfl⟩
    · rcases form_of c with hc | ⟨n, rfl⟩ | ⟨n, rfl⟩
      · rcases form_of d with hd | ⟨n, rfl⟩ | ⟨n, rfl⟩
        · exact all4_at (all4_at (all4_at (all4_at h4 ha.1 ha.2) hb.1 hb.2) hc.1 hc.2) hd.1 hd.2
        · exact bad_neg (all4_at (all4_at (all4_at (h3 n) ha.1 ha.2) hb.1 hb.2) hc.1 hc.2)
        · exact bad_pos (all4_at (all4_at (all4_at (h3 n) ha.1 ha.2) hb.1 hb.2) hc.1 hc.2)
      · exact bad_neg (all4_at (all4_at (h2 n d) ha.1 ha.2) hb.1 hb.2)
      · exact bad_pos (all4_at (all4_at (h2 n d) ha.1 ha.2) hb.1 hb.2)
    · exact bad_neg (all4_at (h1 n c d) ha.1 ha.2)
    · exact bad_pos (all4_at (h1 n c d) ha.1 ha.2)
  · exact bad_neg (h0 n b c d)
  · exact bad_pos (h0 n b c d)

theorem sum_of_run {C : XC} (hC : C.ok Tryz.prog) {f : FuncId} {args : List Value} {v : Value} (hr : okRet (xCall C 10 f args []) v = true) (ha : ∀ x ∈ args, plain x = true) (hv : plain v = true) (h : Heap) :
    Sum Tryz.prog f args h fun o h2 => o = .ret v ∧ h2 = h := by
  unfold okRet at hr
  split at hr
  · rename_i u hx
    have hu := veq_eq _ _ hr
    subst hu
    exact Sum.lift0 ((xCall_sound hC 10).1 _ _ _ _ _ hx).sum (fun o h' hh => hh.1) ha hv h
  · cases hr

theorem pm_plain (a b c d : Int) : plain (pm a b c d) = true := rfl
end Go.Ab


namespace Go.Ab
open Go.Proofs

structure Pm where
  a : Int
  b : Int
  c : Int
  d : Int

def pmv (p : Pm) : Value := pm p.a p.b p.c p.d
def Pm.valid (p : Pm) : Bool := validB p.a p.b p.c p.d
def Pm.zero : Pm := ⟨0, 0, 0, 0⟩
def Pm.at (p : Pm) : Int → Int
  | .ofNat 0 => p.a
  | .ofNat 1 => p.b
  | .ofNat 2 => p.c
  | _ => p.d
def composeP (p q : Pm) : Pm := ⟨p.at q.a, p.at q.b, p.at q.c, p.at q.d⟩
def cmpV (p q : Pm) : Pm := if p.valid = true ∧ q.valid = true then composeP p q else .zero

theorem pmv_plain (p : Pm) : plain (pmv p) = true := rfl

theorem mixed : Tryz.prog.follows .mixedOrders = true := by kernel_rfl

def sc (d : Nat → Nat → Dir) (fk : Nat → Bool) : Sc := { dir := d, fork := fk, know := fun _ => none }
def nofork : Nat → Bool := fun _ => false
def at2 (r i : Nat) (a : Dir) (d : Nat → Nat → Dir) : Nat → Nat → Dir := fun r' i' => match Nat.beq r r' with
  | true => (match Nat.beq i i' with
    | true => a
    | false => d r' i')
  | false => d r' i'
def autod : Nat → Nat → Dir := fun _ _ => .auto
def plB (b : Bool) : Dir := .pl fun _ _ => .bool b

def l24 : List Pm := [⟨0, 1, 2, 3⟩, ⟨0, 1, 3, 2⟩, ⟨0, 2, 1, 3⟩, ⟨0, 2, 3, 1⟩, ⟨0, 3, 1, 2⟩, ⟨0, 3, 2, 1⟩, ⟨1, 0, 2, 3⟩, ⟨1, 0, 3, 2⟩, ⟨1, 2, 0, 3⟩, ⟨1, 2, 3, 0⟩, ⟨1, 3, 0, 2⟩, ⟨1, 3, 2, 0⟩, ⟨2, 0, 1, 3⟩, ⟨2, 0, 3, 1⟩, ⟨2, 1, 0, 3⟩, ⟨2, 1, 3, 0⟩, ⟨2, 3, 0, 1⟩, ⟨2, 3, 1, 0⟩, ⟨3, 0, 1, 2⟩, ⟨3, 0, 2, 1⟩, ⟨3, 1, 0, 2⟩, ⟨3, 1, 2, 0⟩, ⟨3, 2, 0, 1⟩, ⟨3, 2, 1, 0⟩]
def mem24B (a b c d : Int) : Bool := l24.any fun q => decide (q.a = a) && (decide (q.b = b) && (decide (q.c = c) && decide (q.d = d)))
theorem mem24_all (a b c d : Int) : (!(validB a b c d) || mem24B a b c d) = true :=
  forms4 (fun a b c d => !(validB a b c d) || mem24B a b c d) (fun n b c d => by kernel_rfl) (fun n c d => by kernel_rfl) (fun n d => by kernel_rfl) (fun n => by kernel_rfl) (by kernel_rfl) a b c d
theorem mem24 {p : Pm} (hp : p.valid = true) : p ∈ l24 := by
  have h := mem24_all p.a p.b p.c p.d
  unfold Pm.valid at hp
  rw [hp] at h
  simp only [Bool.not_true, Bool.false_or] at h
  unfold mem24B at h
  obtain ⟨q, hq, h⟩ := List.any_eq_true.1 h
  simp only [Bool.and_eq_true, decide_eq_true_eq] at h
  obtain ⟨h1, h2, h3, h4⟩ := h
  obtain ⟨a, b, c, d⟩ := q
  obtain ⟨a', b', c', d'⟩ := p
  simp only at h1 h2 h3 h4
  subst h1; subst h2; subst h3; subst h4
  exact hq
theorem at24 {α : Type} {A B : Pm → α} (h : l24.map A = l24.map B) {q : Pm} (hq : q.valid = true) : A q = B q := List.map_inj_left.1 h q (mem24 hq)
theorem all24 {A : Pm → Prop} {q : Pm} (h : ∀ q ∈ l24, A q) (hq : q.valid = true) : A q := h q (mem24 hq)

def Pm.pos (p : Pm) (i : Int) : Int := if p.a = i then 0 else if p.b = i then 1 else if p.c = i then 2 else 3
def inverseP (p : Pm) : Pm := ⟨p.pos 0, p.pos 1, p.pos 2, p.pos 3⟩
def invV (p : Pm) : Pm := if p.valid = true then inverseP p else .zero
def sg (x y : Int) : Int := if y < x then -1 else 1
def signP (p : Pm) : Int := sg p.a p.b * (sg p.a p.c * sg p.b p.c) * (sg p.a p.d * sg p.b p.d * sg p.c p.d)
def sgnV (p : Pm) : Int := if p.valid = true then signP p else 0


def neP (p q : Pm) : Bool := !(p.a == q.a && (p.b == q.b && (p.c == q.c && (p.d == q.d && true))))
def eqP (p q : Pm) : Bool := (p.a == q.a && (p.b == q.b && (p.c == q.c && (p.d == q.d && true))))
theorem eqP_iff {p q : Pm} : eqP p q = true ↔ p = q := by
  obtain ⟨a, b, c, d⟩ := p
  obtain ⟨a', b', c', d'⟩ := q
  simp [eqP]
theorem neP_eq (p q : Pm) : neP p q = !eqP p q := rfl
end Go.Ab

namespace Go.Ab
open Go.Proofs

noncomputable def okV (f : FuncId) (a b c d : Int) : Bool := okRet (xCall (XX 100) 10 f [pm a b c d] []) (.bool (validB a b c d))

theorem g0 (n : Nat) (b c d : Int) : bad (fun a => okV 37 a b c d) n = true := by kernel_rfl
theorem g1 (n : Nat) (c d : Int) : all4 (fun a => bad (fun b => okV 37 a b c d) n) = true := by kernel_rfl
theorem g2 (n : Nat) (d : Int) : all4 (fun a => all4 fun b => bad (fun c => okV 37 a b c d) n) = true := by kernel_rfl
theorem g3 (n : Nat) : all4 (fun a => all4 fun b => all4 fun c => bad (fun d => okV 37 a b c d) n) = true := by kernel_rfl
theorem g40 : all4 (fun b => all4 fun c => all4 fun d => okV 37 0 b c d) = true := by kernel_rfl
theorem g41 : all4 (fun b => all4 fun c => all4 fun d => okV 37 1 b c d) = true := by kernel_rfl
theorem g42 : all4 (fun b => all4 fun c => all4 fun d => okV 37 2 b c d) = true := by kernel_rfl
theorem g43 : all4 (fun b => all4 fun c => all4 fun d => okV 37 3 b c d) = true := by kernel_rfl
theorem g4 : all4 (fun a => all4 fun b => all4 fun c => all4 fun d => okV 37 a b c d) = true := all4_mk g40 g41 g42 g43
theorem okG (a b c d : Int) : okV 37 a b c d = true := forms4 (okV 37) g0 g1 g2 g3 g4 a b c d

end Go.Ab

