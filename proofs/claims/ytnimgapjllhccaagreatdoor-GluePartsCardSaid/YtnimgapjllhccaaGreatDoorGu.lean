/- The function glue.Union answers for all gluings. Conditions: none beyond the given model and program. -/
import Derived.Test.YtnimgapjllhccaaGreatDoorVa
import Derived.Test.YtnimgapjllhccaaGreatDoorAbD
import Derived.Below
import Derived.WalkKit
import Derived.ProofKit
import Derived.Test.YtnimgapjllhccaaGreatDoorGc
import Derived.Test.YtnimgapjllhccaaGreatDoorRu
namespace Go.Proofs
open Go.RowKit
theorem eql_nil (w : World) (a : Addr) (c : Nat) : (binOp .eql 22 (.slice (some a) 0 c) (.slice none 0 0)).run Tryz.prog w = .ok (.bool false) w := by
  simp [binOp, Op.equal, Op.maxDepth, Ab.equal_slice 9999 Tryz.underlying22]
set_option maxRecDepth 100000 in
theorem clone_walk (w : World) (a : Addr) (c : Nat) : Calls Tryz.prog 48 #[.slice (some a) 0 c] w fun e w' => (∃ a', e = .returned (.slice (some a') 0 0)) ∧ Below w.heap.size w w' := by
  have h1 := eql_nil w a c
  go_enter Tryz.func48, Tryz.ntmps48
  go_wp2
  all_goals go_ret
  all_goals exact ⟨⟨_, rfl⟩, (Below.refl _ _).alloc (Nat.le_refl _) _⟩
end Go.Proofs
namespace Go.Ab
open Go.Proofs
theorem clone_nil : Plain Tryz.prog 48 [.slice none 0 0] (.slice none 0 0) := fun h =>
  Sum.lift0 (R := fun o _ => o = .ret (.slice none 0 0)) (tFun_sum (S := { dir := fun _ _ => (none, .auto), know := fun _ => none, loop := fun _ => none }) (k := 40) TY_ok mixed fn48_ok (A := AOut.ret (.slice none 0 0) = .ret (.slice none 0 0)) rfl (by kernel_rfl))
    (fun _ _ h => h) (by intro x hx; simp only [List.mem_cons, List.not_mem_nil, or_false] at hx; subst hx; rfl) rfl h

/-- An empty slice, nil or not, comes to an empty one, nil or not. -/
theorem clone_empty (b o z : Nat) (h : Heap) : Sum Tryz.prog 48 [.slice (some ⟨b, o, none⟩) 0 z] h fun o h2 => o = .ret (.slice (some ⟨0, 0, none⟩) 0 0) ∧ h2 = h := by
  refine ⟨(clone_nil h).1, fun m w args' rel hv => ?_⟩
  obtain ⟨u, r, rfl, h1, h2⟩ := hv.cons_inv
  have := h2.nil_inv
  subst this
  have keep : ∀ (en : Ending) (w' : World) (a' : Option Addr), en = .returned (.slice a' 0 0) → (∀ k, k < w.heap.size → w'.heap[k]? = w.heap[k]?) → w'.os = w.os → w'.tape = w.tape → w'.output = w.output → w.heap.size ≤ w'.heap.size →
      ∃ m' out h', (out = AOut.ret (.slice (some ⟨0, 0, none⟩) 0 0) ∧ h' = h) ∧ OutRel m' out en ∧ Tr h.length w.heap.size m h w m' h' w' := by
    rintro en w' a' rfl hk e1 e2 e3 e4
    refine ⟨m, _, h, ⟨rfl, rfl⟩, ?_, ⟨⟨rel.len, ?_, rel.dummy, rel.dis⟩, e4, fun i b L hi hb _ => (by rw [hblk_ge hi] at hb; cases hb), Nat.le_refl _⟩, rfl, rfl, e1, e2, e3, e4, fun k hk2 _ => hk k hk2, ?_⟩
    · simp only [OutRel]
      cases a' with
      | none => exact .sliceNil _ _ _
      | some a' => exact .slice0 _ _ _ _
    · intro i b L hb hL
      have rr := rel.blk i b L hb hL
      exact rr.mono (fun _ _ x => x) (hk _ rr.lt)
    · intro k o ho _
      have hlt : k < w.heap.size := (Array.getElem?_eq_some_iff.1 ho).1
      rw [hk k hlt]; exact ho
  have real : ∀ (a : Addr) (c : Nat), Calls Tryz.prog 48 [Value.slice (some a) 0 c].toArray w fun en w' => ∃ m' out h', (out = AOut.ret (.slice (some ⟨0, 0, none⟩) 0 0) ∧ h' = h) ∧ OutRel m' out en ∧ Tr h.length w.heap.size m h w m' h' w' := by
    intro a c
    refine (clone_walk w a c).mono ?_
    rintro en w' ⟨⟨a', rfl⟩, hg⟩
    exact keep _ w' (some a') rfl hg.block hg.os hg.tape hg.output hg.size
  cases h1 with
  | slice i o n z c L hL hn hz hc => exact real _ _
  | slice0 i o z a => exact real _ _
  | sliceNil =>
    refine ((clone_nil h).2 m w [.slice none 0 0] rel ⟨rfl, fun j v v' h1 h2 => by rw [h1] at h2; cases h2; have := List.mem_of_getElem? h1; simp at this; subst this; exact .snil⟩).mono ?_
    rintro en w' ⟨m', out, h', ⟨rfl, rfl⟩, hout, tr⟩
    cases en <;> simp only [OutRel] at hout
    have := hout.plain_eq rfl
    subst this
    exact ⟨m', _, h', ⟨rfl, rfl⟩, by simp only [OutRel]; exact .sliceNil _ _ _, tr⟩
end Go.Ab

namespace Go.Ab
open Go.Proofs

namespace CL
def Ha (x : List Int) : Heap := [some ⟨ints x, false⟩, some ⟨[], true⟩]
def Hb (x : List Int) : Heap := [some ⟨ints x, false⟩, none, some ⟨ints x, true⟩]
def AppC (x : List Int) (n : Nat) : Prop := aAppend TY 1 22 22 (.slice (some ⟨1, 0, none⟩) 0 20) (gS 0 n) (Ha x) = some (gS 2 n, Hb x)
theorem appC {x : List Int} {n : Nat} (hn : n ≤ 1000) (hx : x.length = 20 * n) : AppC x n := by
  have := app_own22 (n0 := 1) (b := 1) (n := 0) (m := n) (h := Ha x) (zs := []) (ys := ints x) (x := gS 0 n) (by kernel_rfl) (Nat.le_refl _) rfl (cells_gS (w := false) rfl hx) (by rw [ints_length]; omega) rfl (ints_one x) (by omega)
  rw [Nat.zero_add] at this
  exact this
theorem sum {x : List Int} {k : Nat} (hn : k + 1 ≤ 1000) (hx : x.length = 20 * (k + 1)) : Sum Tryz.prog 48 [gS 0 (k + 1)] [some ⟨ints x, false⟩] fun o h2 => o = .ret (gS 1 (k + 1)) ∧ h2 = [some ⟨ints x, false⟩] ++ [some ⟨ints x, true⟩] := by
  have hs : Sum Tryz.prog 48 [gS 0 (k + 1)] [some ⟨ints x, false⟩] fun o h2 => o = .ret (gS 2 (k + 1)) ∧ h2 = Hb x :=
    tFun_sum (S := { dir := dd [((3, 2), (none, .app fun _ _ => (gS 2 (k + 1), Hb x)))], know := kk [], loop := noloop }) (k := 60) TY_ok mixed fn48_ok
      (A := AppC x (k + 1) ∧ AOut.ret (gS 2 (k + 1)) = .ret (gS 2 (k + 1)) ∧ Hb x = Hb x) ⟨appC hn hx, rfl, rfl⟩ (by kernel_rfl)
  exact Sum.pick (ks := [0, 2]) hs (by kernel_rfl) ⟨⟨_, rfl, subL_plain _ _ (ints_plain x), id⟩, ⟨_, rfl, subL_plain _ _ (ints_plain x), id⟩, trivial⟩ (by kernel_rfl) (sub_gS rfl)
end CL

theorem clone_gives {x : List Int} {k b : Nat} {h : Heap} {w : Bool} (hn : k + 1 ≤ 1000) (hx : x.length = 20 * (k + 1)) (hb : hblk h b = some ⟨ints x, w⟩) :
    Gives Tryz.prog 48 [gS b (k + 1)] h (.ret (gS h.length (k + 1))) (h ++ [some ⟨ints x, true⟩]) ∧ ∃ y, h ++ [some ⟨ints x, true⟩] = h ++ y := by
  have := gives_new (CL.sum hn hx) rfl (emb_one hb) (xs := [gS b (k + 1)]) ⟨_, _, rfl, sub_gS rfl, rfl⟩
  simp only [List.map_cons, List.map_nil, renB, renL_eq] at this
  have e : (ints x).map (ren (backF [some b] h.length)) = ints x := by simp [ints, ren]
  rw [e] at this
  exact this

def sE : Value := .slice (some ⟨0, 0, none⟩) 0 0
theorem clone_gives0 {b : Nat} (h : Heap) : Gives Tryz.prog 48 [gS b 0] h (.ret sE) h ∧ ∃ y, h = h ++ y :=
  ⟨.inl ⟨_, clone_empty b 0 20 h, fun o h2 hr => ⟨by rw [hr.2]; exact fun i _ hs => hs, hr.1, hr.2⟩⟩, [], by simp⟩

/-- The list that shifted makes. -/
def shL (y : List Int) (m : Nat) (k : Int) : List Int := build m (shF (fc y) k)
theorem shifted_gives {y : List Int} {m c : Nat} {k : Int} {h : Heap} {w : Bool} (hm : m ≤ 1000) (h0 : 0 < m) (hy : y.length = 20 * m) (hb : hblk h c = some ⟨ints y, w⟩) :
    Gives Tryz.prog 49 [gV c m, .int .i64 k] h (.ret (gS h.length m)) (h ++ [some ⟨ints (shL y m k), true⟩]) ∧ ∃ z, h ++ [some ⟨ints (shL y m k), true⟩] = h ++ z := by
  have hs := shifted_sum (k := k) hm hy
  have e1 : SH.zT m = gS 2 m := if_neg (by omega)
  have e2 : SH.HT y m k m = SH.P1 y m (shL y m k) := if_neg (by omega)
  rw [e1, e2] at hs
  have hs2 : Sum Tryz.prog 49 [gV 0 m, .int .i64 k] [some ⟨ints y, false⟩] fun o h2 => o = .ret (gS 1 m) ∧ h2 = [some ⟨ints y, false⟩] ++ [some ⟨ints (shL y m k), true⟩] :=
    Sum.pick (ks := [0, 2]) hs (by kernel_rfl) ⟨⟨_, rfl, subL_plain _ _ (ints_plain y), id⟩, ⟨_, rfl, subL_plain _ _ (ints_plain _), id⟩, trivial⟩ (by kernel_rfl) (sub_gS rfl)
  have := gives_new hs2 rfl (emb_one hb) (xs := [gV c m, .int .i64 k]) ⟨_, _, rfl, sub_gV rfl, _, _, rfl, rfl, rfl⟩
  simp only [List.map_cons, List.map_nil, renB, renL_eq] at this
  have e : (ints (shL y m k)).map (ren (backF [some c] h.length)) = ints (shL y m k) := by simp [ints, ren]
  rw [e] at this
  exact this
theorem shifted_gives0 {c : Nat} {k : Int} {h : Heap} {w : Bool} {y : List Int} (hy : y.length = 20 * 0) (hb : hblk h c = some ⟨ints y, w⟩) :
    Gives Tryz.prog 49 [gV c 0, .int .i64 k] h (.ret (.slice none 0 0)) h ∧ ∃ z, h = h ++ z := by
  have hs := shifted_sum (k := k) (show 0 ≤ 1000 by omega) hy
  exact gives_plain (v := .slice none 0 0) (hs.mono fun o h2 hr => hr.1) rfl (emb_one hb) ⟨_, _, rfl, sub_gV rfl, _, _, rfl, rfl, rfl⟩ rfl
end Go.Ab

namespace Go.Ab
open Go.Proofs

namespace GU
def Hc (x y : List Int) (n m : Nat) : Heap := [some ⟨ints x, false⟩, some ⟨ints y, false⟩, some ⟨[gS 0 n], true⟩, some ⟨[gS 1 m], true⟩, some ⟨[.slice none 0 0], true⟩]
def Hd (x y : List Int) (n m : Nat) (v : Value) : Heap := [some ⟨ints x, false⟩, some ⟨ints y, false⟩, some ⟨[gS 0 n], true⟩, some ⟨[gS 1 m], true⟩, some ⟨[v], true⟩]
abbrev Gc (b n : Nat) (h : Heap) (k : Int) : Prop := Gives Tryz.prog 13 [gV b n] h (.ret (.int .i64 k)) h ∧ ∃ x, h = h ++ x
abbrev Gl (xs : List Value) (f : FuncId) (h : Heap) (v : Value) (h' : Heap) : Prop := Gives Tryz.prog f xs h (.ret v) h' ∧ ∃ x, h' = h ++ x
def App (s x : Value) (h : Heap) (v : Value) (h' : Heap) : Prop := aAppend TY 2 22 22 s x h = some (v, h')
def sc (d : List ((Nat × Nat) × (Option Bool × Td))) : Ts := { dir := dd ([((1, 1), ansD (.int .i64 0) id), ((1, 5), ansD (.int .i64 0) id)] ++ d), know := kk [(16, false)], loop := noloop }
def ap (v : Value) (h : Heap) : Option Bool × Td := (none, .app fun _ _ => (v, h))

theorem big {n m : Nat} (h : n + m ≤ 1000) : ilt 1000 (IntKind.i64.wrap ((n : Int) + (m : Int))) = false := by rw [wrap_of (by omega) (by omega), ilt_eq]; simp; omega

def APP (x y z : List Int) (k m : Nat) : Prop := App (gS 5 (k + 1)) (gS 6 m) (Hc x y (k + 1) m ++ [some ⟨ints x, true⟩, some ⟨ints z, true⟩]) (gS 7 (k + 1 + m)) (Hc x y (k + 1) m ++ [none, some ⟨ints z, true⟩, some ⟨ints x ++ ints z, true⟩])
def APZ (x y : List Int) (k : Nat) : Prop := App (gS 5 (k + 1)) (.slice none 0 0) (Hc x y (k + 1) 0 ++ [some ⟨ints x, true⟩]) (gS 6 (k + 1)) (Hc x y (k + 1) 0 ++ [none, some ⟨ints x, true⟩])
def AZP (x y z : List Int) (m : Nat) : Prop := App sE (gS 5 m) (Hc x y 0 m ++ [some ⟨ints z, true⟩]) (gS 6 m) (Hc x y 0 m ++ [some ⟨ints z, true⟩, some ⟨ints z, true⟩])
theorem runPP {x y z : List Int} {k m : Nat} (g1 : Gc 0 (k + 1) (Hc x y (k + 1) m) 0) (g2 : Gc 1 m (Hc x y (k + 1) m) 0) (hb : ilt 1000 (IntKind.i64.wrap (((k + 1 : Nat) : Int) + (m : Int))) = false)
    (c1 : Gl [gS 0 (k + 1)] 48 (Hc x y (k + 1) m) (gS 5 (k + 1)) (Hc x y (k + 1) m ++ [some ⟨ints x, true⟩]))
    (c2 : Gl [gV 1 m, .int .i64 ((k + 1 : Nat) : Int)] 49 (Hc x y (k + 1) m ++ [some ⟨ints x, true⟩]) (gS 6 m) (Hc x y (k + 1) m ++ [some ⟨ints x, true⟩, some ⟨ints z, true⟩]))
    (c3 : APP x y z k m) :
    Sum Tryz.prog 21 [gV 0 (k + 1), gV 1 m] [some ⟨ints x, false⟩, some ⟨ints y, false⟩] fun o h2 => o = .ret (gRes 7 (k + 1 + m) 0) ∧ h2 = Hd x y (k + 1) m (gS 7 (k + 1 + m)) ++ [none, some ⟨ints z, true⟩, some ⟨ints x ++ ints z, true⟩] :=
  tFun_sum (S := sc [((5, 2), (none, .ans fun _ _ => (gS 5 (k + 1), Hc x y (k + 1) m ++ [some ⟨ints x, true⟩]))), ((5, 7), (none, .ans fun _ _ => (gS 6 m, Hc x y (k + 1) m ++ [some ⟨ints x, true⟩, some ⟨ints z, true⟩]))), ((5, 8), ap (gS 7 (k + 1 + m)) (Hc x y (k + 1) m ++ [none, some ⟨ints z, true⟩, some ⟨ints x ++ ints z, true⟩]))]) (k := 60) TY_ok mixed fn21_ok
    (A := Gc 0 (k + 1) (Hc x y (k + 1) m) 0 ∧ Gc 1 m (Hc x y (k + 1) m) 0 ∧ (ilt 1000 (IntKind.i64.wrap (((k + 1 : Nat) : Int) + (m : Int))) = false) ∧
      Gl [gS 0 (k + 1)] 48 (Hc x y (k + 1) m) (gS 5 (k + 1)) (Hc x y (k + 1) m ++ [some ⟨ints x, true⟩]) ∧
      Gl [gV 1 m, .int .i64 ((k + 1 : Nat) : Int)] 49 (Hc x y (k + 1) m ++ [some ⟨ints x, true⟩]) (gS 6 m) (Hc x y (k + 1) m ++ [some ⟨ints x, true⟩, some ⟨ints z, true⟩]) ∧
      APP x y z k m ∧
      AOut.ret (gRes 7 (k + 1 + m) 0) = .ret (gRes 7 (k + 1 + m) 0) ∧ Hd x y (k + 1) m (gS 7 (k + 1 + m)) ++ [none, some ⟨ints z, true⟩, some ⟨ints x ++ ints z, true⟩] = Hd x y (k + 1) m (gS 7 (k + 1 + m)) ++ [none, some ⟨ints z, true⟩, some ⟨ints x ++ ints z, true⟩])
    ⟨g1, g2, hb, c1, c2, c3, rfl, rfl⟩ (by kernel_rfl)

theorem runPZ {x y : List Int} {k : Nat} (g1 : Gc 0 (k + 1) (Hc x y (k + 1) 0) 0) (g2 : Gc 1 0 (Hc x y (k + 1) 0) 0) (hb : ilt 1000 (IntKind.i64.wrap (((k + 1 : Nat) : Int) + ((0 : Nat) : Int))) = false)
    (c1 : Gl [gS 0 (k + 1)] 48 (Hc x y (k + 1) 0) (gS 5 (k + 1)) (Hc x y (k + 1) 0 ++ [some ⟨ints x, true⟩]))
    (c2 : Gl [gV 1 0, .int .i64 ((k + 1 : Nat) : Int)] 49 (Hc x y (k + 1) 0 ++ [some ⟨ints x, true⟩]) (.slice none 0 0) (Hc x y (k + 1) 0 ++ [some ⟨ints x, true⟩]))
    (c3 : APZ x y k) :
    Sum Tryz.prog 21 [gV 0 (k + 1), gV 1 0] [some ⟨ints x, false⟩, some ⟨ints y, false⟩] fun o h2 => o = .ret (gRes 6 (k + 1) 0) ∧ h2 = Hd x y (k + 1) 0 (gS 6 (k + 1)) ++ [none, some ⟨ints x, true⟩] :=
  tFun_sum (S := sc [((5, 2), (none, .ans fun _ _ => (gS 5 (k + 1), Hc x y (k + 1) 0 ++ [some ⟨ints x, true⟩]))), ((5, 7), (none, .ans fun _ h => (.slice none 0 0, h))), ((5, 8), ap (gS 6 (k + 1)) (Hc x y (k + 1) 0 ++ [none, some ⟨ints x, true⟩]))]) (k := 60) TY_ok mixed fn21_ok
    (A := Gc 0 (k + 1) (Hc x y (k + 1) 0) 0 ∧ Gc 1 0 (Hc x y (k + 1) 0) 0 ∧ (ilt 1000 (IntKind.i64.wrap (((k + 1 : Nat) : Int) + ((0 : Nat) : Int))) = false) ∧
      Gl [gS 0 (k + 1)] 48 (Hc x y (k + 1) 0) (gS 5 (k + 1)) (Hc x y (k + 1) 0 ++ [some ⟨ints x, true⟩]) ∧
      Gl [gV 1 0, .int .i64 ((k + 1 : Nat) : Int)] 49 (Hc x y (k + 1) 0 ++ [some ⟨ints x, true⟩]) (.slice none 0 0) (Hc x y (k + 1) 0 ++ [some ⟨ints x, true⟩]) ∧
      APZ x y k ∧
      AOut.ret (gRes 6 (k + 1) 0) = .ret (gRes 6 (k + 1) 0) ∧ Hd x y (k + 1) 0 (gS 6 (k + 1)) ++ [none, some ⟨ints x, true⟩] = Hd x y (k + 1) 0 (gS 6 (k + 1)) ++ [none, some ⟨ints x, true⟩])
    ⟨g1, g2, hb, c1, c2, c3, rfl, rfl⟩ (by kernel_rfl)

theorem runZP {x y z : List Int} {m : Nat} (g1 : Gc 0 0 (Hc x y 0 m) 0) (g2 : Gc 1 m (Hc x y 0 m) 0) (hb : ilt 1000 (IntKind.i64.wrap (((0 : Nat) : Int) + (m : Int))) = false)
    (c1 : Gl [gS 0 0] 48 (Hc x y 0 m) sE (Hc x y 0 m))
    (c2 : Gl [gV 1 m, .int .i64 ((0 : Nat) : Int)] 49 (Hc x y 0 m) (gS 5 m) (Hc x y 0 m ++ [some ⟨ints z, true⟩]))
    (c3 : AZP x y z m) :
    Sum Tryz.prog 21 [gV 0 0, gV 1 m] [some ⟨ints x, false⟩, some ⟨ints y, false⟩] fun o h2 => o = .ret (gRes 6 m 0) ∧ h2 = Hd x y 0 m (gS 6 m) ++ [some ⟨ints z, true⟩, some ⟨ints z, true⟩] :=
  tFun_sum (S := sc [((5, 2), (none, .ans fun _ h => (sE, h))), ((5, 7), (none, .ans fun _ _ => (gS 5 m, Hc x y 0 m ++ [some ⟨ints z, true⟩]))), ((5, 8), ap (gS 6 m) (Hc x y 0 m ++ [some ⟨ints z, true⟩, some ⟨ints z, true⟩]))]) (k := 60) TY_ok mixed fn21_ok
    (A := Gc 0 0 (Hc x y 0 m) 0 ∧ Gc 1 m (Hc x y 0 m) 0 ∧ (ilt 1000 (IntKind.i64.wrap (((0 : Nat) : Int) + (m : Int))) = false) ∧
      Gl [gS 0 0] 48 (Hc x y 0 m) sE (Hc x y 0 m) ∧ Gl [gV 1 m, .int .i64 ((0 : Nat) : Int)] 49 (Hc x y 0 m) (gS 5 m) (Hc x y 0 m ++ [some ⟨ints z, true⟩]) ∧
      AZP x y z m ∧
      AOut.ret (gRes 6 m 0) = .ret (gRes 6 m 0) ∧ Hd x y 0 m (gS 6 m) ++ [some ⟨ints z, true⟩, some ⟨ints z, true⟩] = Hd x y 0 m (gS 6 m) ++ [some ⟨ints z, true⟩, some ⟨ints z, true⟩])
    ⟨g1, g2, hb, c1, c2, c3, rfl, rfl⟩ (by kernel_rfl)

/-- No tetrahedra at all. -/
def gNo : Value := .tuple ⟨[.agg ⟨[sE]⟩, .int .i64 0]⟩
theorem runZZ {x y : List Int} (g1 : Gc 0 0 (Hc x y 0 0) 0) (g2 : Gc 1 0 (Hc x y 0 0) 0)
    (c1 : Gl [gS 0 0] 48 (Hc x y 0 0) sE (Hc x y 0 0)) (c2 : Gl [gV 1 0, .int .i64 ((0 : Nat) : Int)] 49 (Hc x y 0 0) (.slice none 0 0) (Hc x y 0 0))
    (c3 : App sE (.slice none 0 0) (Hc x y 0 0) sE (Hc x y 0 0)) :
    Sum Tryz.prog 21 [gV 0 0, gV 1 0] [some ⟨ints x, false⟩, some ⟨ints y, false⟩] fun o h2 => o = .ret gNo ∧ h2 = Hd x y 0 0 sE :=
  tFun_sum (S := sc [((5, 2), (none, .ans fun _ h => (sE, h))), ((5, 7), (none, .ans fun _ h => (.slice none 0 0, h))), ((5, 8), ap sE (Hc x y 0 0))]) (k := 60) TY_ok mixed fn21_ok
    (A := Gc 0 0 (Hc x y 0 0) 0 ∧ Gc 1 0 (Hc x y 0 0) 0 ∧ (ilt 1000 (IntKind.i64.wrap (((0 : Nat) : Int) + ((0 : Nat) : Int))) = false) ∧
      Gl [gS 0 0] 48 (Hc x y 0 0) sE (Hc x y 0 0) ∧ Gl [gV 1 0, .int .i64 ((0 : Nat) : Int)] 49 (Hc x y 0 0) (.slice none 0 0) (Hc x y 0 0) ∧ App sE (.slice none 0 0) (Hc x y 0 0) sE (Hc x y 0 0) ∧
      AOut.ret gNo = .ret gNo ∧ Hd x y 0 0 sE = Hd x y 0 0 sE)
    ⟨g1, g2, rfl, c1, c2, c3, rfl, rfl⟩ (by kernel_rfl)

theorem runBad1 {x y : List Int} {n m : Nat} (g1 : Gc 0 n (Hc x y n m) 7) : Sum Tryz.prog 21 [gV 0 n, gV 1 m] [some ⟨ints x, false⟩, some ⟨ints y, false⟩] fun o _ => o = .ret (gErr 7) :=
  tFun_sum (S := { dir := dd [((1, 1), ansD (.int .i64 7) id)], know := kk [], loop := noloop }) (k := 60) TY_ok mixed fn21_ok (A := Gc 0 n (Hc x y n m) 7 ∧ AOut.ret (gErr 7) = .ret (gErr 7)) ⟨g1, rfl⟩ (by kernel_rfl)
theorem runBad2 {x y : List Int} {n m : Nat} (g1 : Gc 0 n (Hc x y n m) 0) (g2 : Gc 1 m (Hc x y n m) 7) : Sum Tryz.prog 21 [gV 0 n, gV 1 m] [some ⟨ints x, false⟩, some ⟨ints y, false⟩] fun o _ => o = .ret (gErr 7) :=
  tFun_sum (S := { dir := dd [((1, 1), ansD (.int .i64 0) id), ((1, 5), ansD (.int .i64 7) id)], know := kk [], loop := noloop }) (k := 60) TY_ok mixed fn21_ok (A := Gc 0 n (Hc x y n m) 0 ∧ Gc 1 m (Hc x y n m) 7 ∧ AOut.ret (gErr 7) = .ret (gErr 7)) ⟨g1, g2, rfl⟩ (by kernel_rfl)
end GU
end Go.Ab

namespace Go.Ab
open Go.Proofs

theorem uni_ints (x y : List Int) (n m : Nat) : ints (uni x y n m) = ints x ++ ints (shL y m n) := ints_append _ _
theorem chk_cases (n : Nat) (x : List Int) : chk n x = 0 ∨ chk n x = 7 := by unfold chk; split <;> simp

theorem app_e22 {n0 m b : Nat} {h : Heap} {ys : List Value} {x : Value} (hy : cellsOf h 20 x = some ys) (hyl : ys.length = m * 20) (hm : 0 < m) (hys : isStr x = false) (hone : ys.all Value.oneCell' = true) (hbig : m * 160 ≤ 2 ^ 46) :
    aAppend TY n0 22 22 (.slice (some ⟨b, 0, none⟩) 0 0) x h = some (.slice (some ⟨h.length, 0, none⟩) m 20, h ++ [some ⟨ys, true⟩]) := by
  have hdiv : ys.length / 20 = m := by omega
  simp only [aAppend, TY22, TY35, Option.bind_some, ti22, ti35, hy]
  simp only [hys, hdiv, hone, hyl]
  simp
  rw [if_neg (by omega), if_pos (by omega)]

theorem gunion_ok {x y : List Int} {n m : Nat} (hn : n + m ≤ 1000) (hp : 0 < n + m) (hx : x.length = 20 * n) (hy : y.length = 20 * m) (cx : chk n x = 0) (cy : chk m y = 0) :
    Sum Tryz.prog 21 [gV 0 n, gV 1 m] [some ⟨ints x, false⟩, some ⟨ints y, false⟩] fun o h2 => o = .ret (gRes 2 (n + m) 0) ∧ h2 = [some ⟨ints x, false⟩, some ⟨ints y, false⟩] ++ [some ⟨ints (uni x y n m), true⟩] := by
  have g1 : GU.Gc 0 n (GU.Hc x y n m) 0 := gives_one (cx ▸ gcheck_sum hx) rfl (w := false) rfl
  have g2 : GU.Gc 1 m (GU.Hc x y n m) 0 := gives_one (cy ▸ gcheck_sum hy) rfl (w := false) rfl
  have hb := GU.big hn
  cases n with
  | succ k =>
    have c1 : GU.Gl [gS 0 (k + 1)] 48 (GU.Hc x y (k + 1) m) (gS 5 (k + 1)) (GU.Hc x y (k + 1) m ++ [some ⟨ints x, true⟩]) := clone_gives (by omega) hx (w := false) rfl
    by_cases hm : 0 < m
    · have c2 : GU.Gl [gV 1 m, .int .i64 ((k + 1 : Nat) : Int)] 49 (GU.Hc x y (k + 1) m ++ [some ⟨ints x, true⟩]) (gS 6 m) (GU.Hc x y (k + 1) m ++ [some ⟨ints x, true⟩, some ⟨ints (shL y m ((k + 1 : Nat) : Int)), true⟩]) := shifted_gives (by omega) hm hy (w := false) rfl
      have c3 : GU.APP x y (shL y m ((k + 1 : Nat) : Int)) k m := app_own22 (n0 := 2) (b := 5) (n := k + 1) (m := m) (zs := ints x) (ys := ints (shL y m ((k + 1 : Nat) : Int))) (x := gS 6 m) (by kernel_rfl) (Nat.le_of_ble_eq_true rfl) (by rw [ints_length]; omega) (cells_gS (w := true) rfl (build_length _ _)) (by rw [ints_length, shL, build_length]; omega) rfl (ints_one _) (by omega)
      have hs := GU.runPP g1 g2 hb c1 c2 c3
      exact Sum.pick (ks := [0, 1, 7]) hs (by kernel_rfl) ⟨⟨_, rfl, subL_plain _ _ (ints_plain x), id⟩, ⟨_, rfl, subL_plain _ _ (ints_plain y), id⟩, ⟨_, rfl, by rw [uni_ints]; exact subL_plain _ _ (by rw [← ints_append]; exact ints_plain _), id⟩, trivial⟩ (by kernel_rfl) ⟨_, rfl, _, _, rfl, sub_gV rfl, _, _, rfl, rfl, rfl⟩
    · have : m = 0 := by omega
      subst this
      have c2 : GU.Gl [gV 1 0, .int .i64 ((k + 1 : Nat) : Int)] 49 (GU.Hc x y (k + 1) 0 ++ [some ⟨ints x, true⟩]) (.slice none 0 0) (GU.Hc x y (k + 1) 0 ++ [some ⟨ints x, true⟩]) := shifted_gives0 hy (w := false) rfl
      have c3 : GU.APZ x y k := by
        have := app_own22 (n0 := 2) (b := 5) (n := k + 1) (m := 0) (h := GU.Hc x y (k + 1) 0 ++ [some ⟨ints x, true⟩]) (zs := ints x) (ys := []) (x := .slice none 0 0) (by kernel_rfl) (Nat.le_of_ble_eq_true rfl) (by rw [ints_length]; omega) rfl rfl rfl rfl (by omega)
        rw [List.append_nil, Nat.add_zero] at this
        exact this
      have hs := GU.runPZ g1 g2 hb c1 c2 c3
      have hu : uni x y (k + 1) 0 = x := by simp [uni, build]
      rw [hu]
      exact Sum.pick (ks := [0, 1, 6]) hs (by kernel_rfl) ⟨⟨_, rfl, subL_plain _ _ (ints_plain x), id⟩, ⟨_, rfl, subL_plain _ _ (ints_plain y), id⟩, ⟨_, rfl, subL_plain _ _ (ints_plain x), id⟩, trivial⟩ (by kernel_rfl) ⟨_, rfl, _, _, rfl, sub_gV rfl, _, _, rfl, rfl, rfl⟩
  | zero =>
    have hm : 0 < m := by omega
    have hx0 : x = [] := List.length_eq_zero_iff.1 (by omega)
    have c1 : GU.Gl [gS 0 0] 48 (GU.Hc x y 0 m) sE (GU.Hc x y 0 m) := clone_gives0 _
    have c2 : GU.Gl [gV 1 m, .int .i64 ((0 : Nat) : Int)] 49 (GU.Hc x y 0 m) (gS 5 m) (GU.Hc x y 0 m ++ [some ⟨ints (shL y m ((0 : Nat) : Int)), true⟩]) := shifted_gives (by omega) hm hy (w := false) rfl
    have c3 : GU.AZP x y (shL y m ((0 : Nat) : Int)) m := by
      have hy : cellsOf (GU.Hc x y 0 m ++ [some ⟨ints (shL y m ((0 : Nat) : Int)), true⟩]) 20 (gS 5 m) = some (ints (shL y m ((0 : Nat) : Int))) := cells_gS (w := true) rfl (build_length _ _)
      exact app_e22 hy (by rw [ints_length, shL, build_length]; omega) hm rfl (ints_one _) (by omega)
    have hs := GU.runZP g1 g2 hb c1 c2 c3
    have hu : uni x y 0 m = shL y m ((0 : Nat) : Int) := by rw [uni, hx0]; rfl
    rw [hu, show 0 + m = m by omega]
    exact Sum.pick (ks := [0, 1, 6]) hs (by kernel_rfl) ⟨⟨_, rfl, subL_plain _ _ (ints_plain x), id⟩, ⟨_, rfl, subL_plain _ _ (ints_plain y), id⟩, ⟨_, rfl, subL_plain _ _ (ints_plain _), id⟩, trivial⟩ (by kernel_rfl) ⟨_, rfl, _, _, rfl, sub_gV rfl, _, _, rfl, rfl, rfl⟩

theorem gunion_no {x y : List Int} (hx : x.length = 20 * 0) (hy : y.length = 20 * 0) (cx : chk 0 x = 0) (cy : chk 0 y = 0) :
    Sum Tryz.prog 21 [gV 0 0, gV 1 0] [some ⟨ints x, false⟩, some ⟨ints y, false⟩] fun o h2 => o = .ret GU.gNo ∧ h2 = [some ⟨ints x, false⟩, some ⟨ints y, false⟩] := by
  have g1 : GU.Gc 0 0 (GU.Hc x y 0 0) 0 := gives_one (cx ▸ gcheck_sum hx) rfl (w := false) rfl
  have g2 : GU.Gc 1 0 (GU.Hc x y 0 0) 0 := gives_one (cy ▸ gcheck_sum hy) rfl (w := false) rfl
  have c1 : GU.Gl [gS 0 0] 48 (GU.Hc x y 0 0) sE (GU.Hc x y 0 0) := clone_gives0 _
  have c2 : GU.Gl [gV 1 0, .int .i64 ((0 : Nat) : Int)] 49 (GU.Hc x y 0 0) (.slice none 0 0) (GU.Hc x y 0 0) := shifted_gives0 hy (w := false) rfl
  have c3 : GU.App sE (.slice none 0 0) (GU.Hc x y 0 0) sE (GU.Hc x y 0 0) := by unfold GU.App; kernel_rfl
  have hs := GU.runZZ g1 g2 c1 c2 c3
  exact Sum.pick (ks := [0, 1]) hs (by kernel_rfl) ⟨⟨_, rfl, subL_plain _ _ (ints_plain x), id⟩, ⟨_, rfl, subL_plain _ _ (ints_plain y), id⟩, trivial⟩ (by kernel_rfl) ⟨_, rfl, _, _, rfl, ⟨_, rfl, _, _, rfl, .inr ⟨0, rfl, rfl⟩, rfl⟩, _, _, rfl, rfl, rfl⟩

theorem gunion_bad {x y : List Int} {n m : Nat} (hx : x.length = 20 * n) (hy : y.length = 20 * m) (hc : chk n x = 7 ∨ chk m y = 7) :
    Sum Tryz.prog 21 [gV 0 n, gV 1 m] [some ⟨ints x, false⟩, some ⟨ints y, false⟩] fun o _ => o = .ret (gErr 7) := by
  rcases chk_cases n x with cx | cx
  · have cy : chk m y = 7 := by rcases hc with h | h; · rw [cx] at h; cases h
                                exact h
    exact GU.runBad2 (gives_one (cx ▸ gcheck_sum hx) rfl (w := false) rfl) (gives_one (cy ▸ gcheck_sum hy) rfl (w := false) rfl)
  · exact GU.runBad1 (gives_one (cx ▸ gcheck_sum hx) rfl (w := false) rfl)
end Go.Ab
