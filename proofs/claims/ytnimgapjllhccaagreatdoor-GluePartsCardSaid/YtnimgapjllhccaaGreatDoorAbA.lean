/- Abstract heaps over the model and the soundness of the operations over them. Conditions: none beyond the given model and program. -/
import Derived.OrdersIn
import Derived.Laws.World
import Derived.Laws.Rows
import Derived.Laws.AppendOwn
import Derived.Laws.StructEq
import Derived.CallsIn
import Derived.RangeFuncNested
import Derived.RangeFuncLeaves
import Derived.ChangeKeysEq
import Derived.Laws.Append
import Derived.Laws.MakeOwn
namespace Go.Ab

structure Blk where
  cells : List Value
  own : Bool

abbrev Heap := List (Option Blk)
def hblk (h : Heap) (i : Nat) : Option Blk := (h[i]?).join

structure Loc where
  b : Nat
  sh : Nat
  ext : Nat
  mp : Bool

abbrev Map := List (Option Loc)
def mloc (m : Map) (i : Nat) : Option Loc := (m[i]?).join

inductive VRel (m : Map) : Value → Value → Prop
  | bool (b : Bool) : VRel m (.bool b) (.bool b)
  | int (k : IntKind) (n : Int) : VRel m (.int k n) (.int k n)
  | string (s : ByteArray) : VRel m (.string s) (.string s)
  | pnil : VRel m (.pointer none) (.pointer none)
  | ptr (i o : Nat) (L : Loc) (hL : mloc m i = some L) (hp : L.mp = false) : VRel m (.pointer (some ⟨i, o, none⟩)) (.pointer (some ⟨L.b, L.sh + o, none⟩))
  | snil : VRel m (.slice none 0 0) (.slice none 0 0)
  | slice (i o n z c : Nat) (L : Loc) (hL : mloc m i = some L) (hn : n ≤ c) (hz : 0 < z) (hc : o + c * z ≤ L.ext) (hp : L.mp = false) :
      VRel m (.slice (some ⟨i, o, none⟩) n z) (.slice (some ⟨L.b, L.sh + o, none⟩) n c)
  | sliceNil (i o z : Nat) : VRel m (.slice (some ⟨i, o, none⟩) 0 z) (.slice none 0 0)
  | slice0 (i o z : Nat) (a : Addr) : VRel m (.slice (some ⟨i, o, none⟩) 0 z) (.slice (some a) 0 0)
  | mapNil : VRel m (.map none) (.map none)
  | mapRef (i : Nat) (L : Loc) (hL : mloc m i = some L) (hp : L.mp = true) : VRel m (.map (some i)) (.map (some L.b))
  | nilFunc : VRel m .nilFunc .nilFunc
  | nilIface : VRel m .nilIface .nilIface
  | func (f : FuncId) (xs ys xs' ys' : List Value) (h1 : xs.length = xs'.length) (h2 : ys.length = ys'.length)
      (h3 : ∀ (j : Nat) (v v' : Value), xs[j]? = some v → xs'[j]? = some v' → VRel m v v')
      (h4 : ∀ (j : Nat) (v v' : Value), ys[j]? = some v → ys'[j]? = some v' → VRel m v v') :
      VRel m (.func (.func f) ⟨xs⟩ ⟨ys⟩) (.func (.func f) ⟨xs'⟩ ⟨ys'⟩)
  | yld (l : Nat) : VRel m (.func (.yield l) ⟨[]⟩ ⟨[]⟩) (.func (.yield l) ⟨[]⟩ ⟨[]⟩)
  | iface (t : TypeId) (v v' : Value) (h : VRel m v v') : VRel m (.iface t v) (.iface t v')
  | agg (xs xs' : List Value) (h1 : xs.length = xs'.length)
      (h2 : ∀ (j : Nat) (v v' : Value), xs[j]? = some v → xs'[j]? = some v' → VRel m v v') : VRel m (.agg ⟨xs⟩) (.agg ⟨xs'⟩)
  | tuple (xs xs' : List Value) (h1 : xs.length = xs'.length)
      (h2 : ∀ (j : Nat) (v v' : Value), xs[j]? = some v → xs'[j]? = some v' → VRel m v v') : VRel m (.tuple ⟨xs⟩) (.tuple ⟨xs'⟩)

/-- Lists of values, place by place. -/
def VRels (m : Map) (xs xs' : List Value) : Prop := xs.length = xs'.length ∧ ∀ (j : Nat) (v v' : Value), xs[j]? = some v → xs'[j]? = some v' → VRel m v v'

def Map.le (m m' : Map) : Prop := ∀ i L, mloc m i = some L → mloc m' i = some L

theorem mloc_append (m x : Map) : Map.le m (m ++ x) := by
  intro i L h
  unfold mloc at *
  cases hi : m[i]? with
  | none => simp [hi] at h
  | some y => rw [List.getElem?_append_left (by exact (List.getElem?_eq_some_iff.1 hi).1), hi]; simpa [hi] using h

theorem VRel.mono {m m' : Map} (hm : Map.le m m') {v v' : Value} (h : VRel m v v') : VRel m' v v' := by
  induction h with
  | bool b => exact .bool b
  | int k n => exact .int k n
  | string s => exact .string s
  | pnil => exact .pnil
  | ptr i o L hL hp => exact .ptr i o L (hm _ _ hL) hp
  | snil => exact .snil
  | slice i o n z c L hL hn hz hc hp => exact .slice i o n z c L (hm _ _ hL) hn hz hc hp
  | sliceNil i o z => exact .sliceNil i o z
  | slice0 i o z a => exact .slice0 i o z a
  | mapNil => exact .mapNil
  | mapRef i L hL hp => exact .mapRef _ L (hm _ _ hL) hp
  | nilFunc => exact .nilFunc
  | nilIface => exact .nilIface
  | func f xs ys xs' ys' h1 h2 _ _ ih3 ih4 => exact .func f xs ys xs' ys' h1 h2 ih3 ih4
  | yld l => exact .yld l
  | iface t v v' _ ih => exact .iface t v v' ih
  | agg xs xs' h1 _ ih => exact .agg xs xs' h1 ih
  | tuple xs xs' h1 _ ih => exact .tuple xs xs' h1 ih

theorem VRels.mono {m m' : Map} (hm : Map.le m m') {xs xs' : List Value} (h : VRels m xs xs') : VRels m' xs xs' :=
  ⟨h.1, fun j v v' h1 h2 => (h.2 j v v' h1 h2).mono hm⟩

theorem VRels.nil (m : Map) : VRels m [] [] := ⟨rfl, by simp⟩
theorem VRels.cons {m : Map} {v v' : Value} {xs xs' : List Value} (h : VRel m v v') (hs : VRels m xs xs') : VRels m (v :: xs) (v' :: xs') := by
  refine ⟨by simp [hs.1], ?_⟩
  intro j u u' h1 h2
  cases j with
  | zero => simp at h1 h2; subst h1; subst h2; exact h
  | succ j => simp at h1 h2; exact hs.2 j u u' h1 h2
theorem VRels.cons_inv {m : Map} {v : Value} {xs xs' : List Value} (h : VRels m (v :: xs) xs') : ∃ v' r', xs' = v' :: r' ∧ VRel m v v' ∧ VRels m xs r' := by
  obtain ⟨h1, h2⟩ := h
  cases xs' with
  | nil => simp at h1
  | cons v' r' => exact ⟨v', r', rfl, h2 0 v v' rfl rfl, by simpa using h1, fun j u u' a b => h2 (j + 1) u u' (by simpa using a) (by simpa using b)⟩
theorem VRels.nil_inv {m : Map} {xs' : List Value} (h : VRels m [] xs') : xs' = [] := by
  exact List.length_eq_zero_iff.1 (by simpa using h.1.symm)

mutual
def plain : Value → Bool
  | .bool _ | .int _ _ | .string _ | .pointer none | .map none | .nilFunc | .nilIface => true
  | .slice none n c => n == 0 && c == 0
  | .func (.func _) xs ys => plainA xs && plainA ys
  | .iface _ v => plain v
  | .agg cs => plainA cs
  | .tuple cs => plainA cs
  | _ => false
def plainA : Array Value → Bool
  | ⟨l⟩ => plainL l
def plainL : List Value → Bool
  | [] => true
  | v :: r => plain v && plainL r
end

mutual
def ren (f : Nat → Nat) : Value → Value
  | .pointer (some a) => .pointer (some ⟨f a.block, a.off, a.spot⟩)
  | .slice (some a) n z => .slice (some ⟨f a.block, a.off, a.spot⟩) n z
  | .map (some i) => .map (some (f i))
  | .func g xs ys => .func g (renA f xs) (renA f ys)
  | .iface t v => .iface t (ren f v)
  | .agg cs => .agg (renA f cs)
  | .tuple cs => .tuple (renA f cs)
  | v => v
def renA (f : Nat → Nat) : Array Value → Array Value
  | ⟨l⟩ => ⟨renL f l⟩
def renL (f : Nat → Nat) : List Value → List Value
  | [] => []
  | v :: r => ren f v :: renL f r
end

mutual
def sub (s : List (Option Nat)) : Value → Value → Prop
  | .pointer (some a), u => ∃ j, s[a.block]? = some (some j) ∧ u = .pointer (some ⟨j, a.off, a.spot⟩)
  | .slice (some a) n z, u => (n = 0 ∧ a.spot = none ∧ u = .slice none 0 0) ∨ ∃ j, s[a.block]? = some (some j) ∧ u = .slice (some ⟨j, a.off, a.spot⟩) n z
  | .map (some i), u => ∃ j, s[i]? = some (some j) ∧ u = .map (some j)
  | .func g xs ys, u => ∃ xs' ys', u = .func g ⟨xs'⟩ ⟨ys'⟩ ∧ subA s xs xs' ∧ subA s ys ys'
  | .iface t v, u => ∃ v', u = .iface t v' ∧ sub s v v'
  | .agg cs, u => ∃ cs', u = .agg ⟨cs'⟩ ∧ subA s cs cs'
  | .tuple cs, u => ∃ cs', u = .tuple ⟨cs'⟩ ∧ subA s cs cs'
  | v, u => u = v
def subA (s : List (Option Nat)) : Array Value → List Value → Prop
  | ⟨l⟩, l' => subL s l l'
def subL (s : List (Option Nat)) : List Value → List Value → Prop
  | [], l' => l' = []
  | v :: r, l' => ∃ v' r', l' = v' :: r' ∧ sub s v v' ∧ subL s r r'
end

theorem renL_eq (f : Nat → Nat) (l : List Value) : renL f l = l.map (ren f) := by
  induction l with
  | nil => rfl
  | cons v r ih => simp [renL, ih]

theorem renL_length (f : Nat → Nat) (l : List Value) : (renL f l).length = l.length := by simp [renL_eq]

theorem VRel.ren {m m' : Map} {f : Nat → Nat} (hm : ∀ i L, mloc m i = some L → mloc m' (f i) = some L) {v v' : Value} (h : VRel m v v') : VRel m' (ren f v) v' := by
  induction h with
  | bool b => exact .bool b
  | int k n => exact .int k n
  | string s => exact .string s
  | pnil => exact .pnil
  | ptr i o L hL hp => exact .ptr _ o L (hm _ _ hL) hp
  | snil => exact .snil
  | slice i o n z c L hL hn hz hc hp => exact .slice _ o n z c L (hm _ _ hL) hn hz hc hp
  | sliceNil i o z => exact .sliceNil _ o z
  | slice0 i o z a => exact .slice0 _ o z a
  | mapNil => exact .mapNil
  | mapRef i L hL hp => exact .mapRef _ L (hm _ _ hL) hp
  | nilFunc => exact .nilFunc
  | nilIface => exact .nilIface
  | yld l => simp only [Ab.ren, renA, renL]; exact .yld l
  | func g xs ys xs' ys' h1 h2 _ _ ih3 ih4 =>
    simp only [Ab.ren, renA]
    refine .func g _ _ _ _ (by rw [renL_length]; exact h1) (by rw [renL_length]; exact h2) ?_ ?_
    · intro j v v' ha hb
      rw [renL_eq, List.getElem?_map] at ha
      obtain ⟨u, hu, rfl⟩ := Option.map_eq_some_iff.1 ha
      exact ih3 j u v' hu hb
    · intro j v v' ha hb
      rw [renL_eq, List.getElem?_map] at ha
      obtain ⟨u, hu, rfl⟩ := Option.map_eq_some_iff.1 ha
      exact ih4 j u v' hu hb
  | iface t v v' _ ih => exact .iface t _ v' ih
  | agg xs xs' h1 _ ih =>
    simp only [Ab.ren, renA]
    refine .agg _ _ (by rw [renL_length]; exact h1) ?_
    intro j v v' ha hb
    rw [renL_eq, List.getElem?_map] at ha
    obtain ⟨u, hu, rfl⟩ := Option.map_eq_some_iff.1 ha
    exact ih j u v' hu hb
  | tuple xs xs' h1 _ ih =>
    simp only [Ab.ren, renA]
    refine .tuple _ _ (by rw [renL_length]; exact h1) ?_
    intro j v v' ha hb
    rw [renL_eq, List.getElem?_map] at ha
    obtain ⟨u, hu, rfl⟩ := Option.map_eq_some_iff.1 ha
    exact ih j u v' hu hb

/-- The map that a choice of blocks makes out of a map. -/
def pickMap (s : List (Option Nat)) (m : Map) : Map := s.map fun x => x.bind (mloc m)

theorem mloc_pickMap {s : List (Option Nat)} {m : Map} {i j : Nat} (h : s[i]? = some (some j)) : mloc (pickMap s m) i = mloc m j := by
  simp [mloc, pickMap, h]

mutual
theorem VRel.of_sub {s : List (Option Nat)} {m : Map} : ∀ (v u u' : Value), sub s v u → VRel m u u' → VRel (pickMap s m) v u'
  | .pointer (some a), u, u', hs, h => by
    simp only [sub] at hs
    obtain ⟨j, hj, rfl⟩ := hs
    obtain ⟨ab, ao, as⟩ := a
    cases h with
    | ptr i o L hL hp => exact .ptr _ _ L (by rw [mloc_pickMap hj]; exact hL) hp
  | .slice (some a) n z, u, u', hs, h => by
    simp only [sub] at hs
    obtain ⟨ab, ao, as⟩ := a
    rcases hs with ⟨rfl, hsp, rfl⟩ | ⟨j, hj, rfl⟩
    · simp only at hsp; subst hsp; cases h; exact .sliceNil _ _ _
    · cases h with
      | slice i o n z c L hL hn hz hc hp => exact .slice _ _ _ _ c L (by rw [mloc_pickMap hj]; exact hL) hn hz hc hp
      | sliceNil => exact .sliceNil _ _ _
      | slice0 => exact .slice0 _ _ _ _
  | .func g ⟨xs⟩ ⟨ys⟩, u, u', hs, h => by
    simp only [sub, subA] at hs
    obtain ⟨xs', ys', rfl, h1, h2⟩ := hs
    cases h with
    | yld l =>
      obtain ⟨rfl⟩ : xs = [] := by cases xs with | nil => rfl | cons v r => simp [subL] at h1
      obtain ⟨rfl⟩ : ys = [] := by cases ys with | nil => rfl | cons v r => simp [subL] at h2
      exact .yld l
    | func f _ _ xs' ys' k1 k2 k3 k4 =>
      have a1 := VRel.of_subL (m := m) xs _ _ h1 ⟨k1, k3⟩
      have a2 := VRel.of_subL (m := m) ys _ _ h2 ⟨k2, k4⟩
      exact .func f _ _ _ _ a1.1 a2.1 a1.2 a2.2
  | .iface t v, u, u', hs, h => by
    simp only [sub] at hs
    obtain ⟨v', rfl, h1⟩ := hs
    cases h with
    | iface _ _ w hw => exact .iface t _ _ (VRel.of_sub v v' w h1 hw)
  | .agg ⟨cs⟩, u, u', hs, h => by
    simp only [sub, subA] at hs
    obtain ⟨cs', rfl, h1⟩ := hs
    cases h with
    | agg _ xs' k1 k2 => have a1 := VRel.of_subL (m := m) cs _ _ h1 ⟨k1, k2⟩; exact .agg _ _ a1.1 a1.2
  | .tuple ⟨cs⟩, u, u', hs, h => by
    simp only [sub, subA] at hs
    obtain ⟨cs', rfl, h1⟩ := hs
    cases h with
    | tuple _ xs' k1 k2 => have a1 := VRel.of_subL (m := m) cs _ _ h1 ⟨k1, k2⟩; exact .tuple _ _ a1.1 a1.2
  | .bool b, u, u', hs, h => by simp only [sub] at hs; subst hs; cases h; exact .bool _
  | .int k n, u, u', hs, h => by simp only [sub] at hs; subst hs; cases h; exact .int _ _
  | .string s, u, u', hs, h => by simp only [sub] at hs; subst hs; cases h; exact .string _
  | .float _ _, u, u', hs, h => by simp only [sub] at hs; subst hs; cases h
  | .complex _ _ _, u, u', hs, h => by simp only [sub] at hs; subst hs; cases h
  | .pointer none, u, u', hs, h => by simp only [sub] at hs; subst hs; cases h; exact .pnil
  | .slice none n c, u, u', hs, h => by simp only [sub] at hs; subst hs; cases h; exact .snil
  | .map none, u, u', hs, h => by simp only [sub] at hs; subst hs; cases h; exact .mapNil
  | .map (some i), u, u', hs, h => by
    simp only [sub] at hs
    obtain ⟨j, hj, rfl⟩ := hs
    cases h with
    | mapRef i L hL hp => exact .mapRef _ L (by rw [mloc_pickMap hj]; exact hL) hp
  | .chan _, u, u', hs, h => by simp only [sub] at hs; subst hs; cases h
  | .nilFunc, u, u', hs, h => by simp only [sub] at hs; subst hs; cases h; exact .nilFunc
  | .nilIface, u, u', hs, h => by simp only [sub] at hs; subst hs; cases h; exact .nilIface
theorem VRel.of_subL {s : List (Option Nat)} {m : Map} : ∀ (l l' l'' : List Value), subL s l l' → VRels m l' l'' → VRels (pickMap s m) l l''
  | [], l', l'', hs, h => by
    simp only [subL] at hs
    subst hs
    rw [h.nil_inv]; exact VRels.nil _
  | v :: r, l', l'', hs, h => by
    simp only [subL] at hs
    obtain ⟨v', r', rfl, h1, h2⟩ := hs
    obtain ⟨w, q, rfl, k1, k2⟩ := h.cons_inv
    exact VRels.cons (VRel.of_sub v v' w h1 k1) (VRel.of_subL r r' q h2 k2)
end

mutual
theorem sub_plain (s : List (Option Nat)) : ∀ (v : Value), plain v = true → sub s v v
  | .bool _, _ => by simp [sub]
  | .int _ _, _ => by simp [sub]
  | .string _, _ => by simp [sub]
  | .float _ _, h => by simp [plain] at h
  | .complex _ _ _, h => by simp [plain] at h
  | .pointer none, _ => by simp [sub]
  | .pointer (some _), h => by simp [plain] at h
  | .slice none _ _, _ => by simp [sub]
  | .slice (some _) _ _, h => by simp [plain] at h
  | .map none, _ => by simp [sub]
  | .map (some _), h => by simp [plain] at h
  | .chan _, h => by simp [plain] at h
  | .nilFunc, _ => by simp [sub]
  | .nilIface, _ => by simp [sub]
  | .func (.func g) ⟨xs⟩ ⟨ys⟩, h => by
    simp only [plain, plainA, Bool.and_eq_true] at h
    simp only [sub, subA]
    exact ⟨xs, ys, rfl, subL_plain s xs h.1, subL_plain s ys h.2⟩
  | .func (.method _) _ _, h => by simp [plain] at h
  | .func (.methodOf _ _) _ _, h => by simp [plain] at h
  | .func (.via _ _ _ _) _ _, h => by simp [plain] at h
  | .func (.yield _) _ _, h => by simp [plain] at h
  | .iface t v, h => by
    simp only [plain] at h
    simp only [sub]
    exact ⟨v, rfl, sub_plain s v h⟩
  | .agg ⟨cs⟩, h => by
    simp only [plain, plainA] at h
    simp only [sub, subA]
    exact ⟨cs, rfl, subL_plain s cs h⟩
  | .tuple ⟨cs⟩, h => by
    simp only [plain, plainA] at h
    simp only [sub, subA]
    exact ⟨cs, rfl, subL_plain s cs h⟩
theorem subL_plain (s : List (Option Nat)) : ∀ (l : List Value), plainL l = true → subL s l l
  | [], _ => by simp [subL]
  | v :: r, h => by
    simp only [plainL, Bool.and_eq_true] at h
    simp only [subL]
    exact ⟨v, r, rfl, sub_plain s v h.1, subL_plain s r h.2⟩
end

mutual
theorem ren_plain (f : Nat → Nat) : ∀ (v : Value), plain v = true → ren f v = v
  | .bool _, _ => by simp [ren]
  | .int _ _, _ => by simp [ren]
  | .string _, _ => by simp [ren]
  | .float _ _, h => by simp [plain] at h
  | .complex _ _ _, h => by simp [plain] at h
  | .pointer none, _ => by simp [ren]
  | .pointer (some _), h => by simp [plain] at h
  | .slice none _ _, _ => by simp [ren]
  | .slice (some _) _ _, h => by simp [plain] at h
  | .map none, _ => by simp [ren]
  | .map (some _), h => by simp [plain] at h
  | .chan _, h => by simp [plain] at h
  | .nilFunc, _ => by simp [ren]
  | .nilIface, _ => by simp [ren]
  | .func (.func g) ⟨xs⟩ ⟨ys⟩, h => by
    simp only [plain, plainA, Bool.and_eq_true] at h
    simp only [ren, renA, renL_plain f xs h.1, renL_plain f ys h.2]
  | .func (.method _) _ _, h => by simp [plain] at h
  | .func (.methodOf _ _) _ _, h => by simp [plain] at h
  | .func (.via _ _ _ _) _ _, h => by simp [plain] at h
  | .func (.yield _) _ _, h => by simp [plain] at h
  | .iface t v, h => by
    simp only [plain] at h
    simp only [ren, ren_plain f v h]
  | .agg ⟨cs⟩, h => by
    simp only [plain, plainA] at h
    simp only [ren, renA, renL_plain f cs h]
  | .tuple ⟨cs⟩, h => by
    simp only [plain, plainA] at h
    simp only [ren, renA, renL_plain f cs h]
theorem renL_plain (f : Nat → Nat) : ∀ (l : List Value), plainL l = true → renL f l = l
  | [], _ => by simp [renL]
  | v :: r, h => by
    simp only [plainL, Bool.and_eq_true] at h
    simp only [renL, ren_plain f v h.1, renL_plain f r h.2]
end

theorem plainL_iff {l : List Value} : plainL l = true ↔ ∀ v ∈ l, plain v = true := by
  induction l with
  | nil => simp [plainL]
  | cons v r ih => simp [plainL, ih]

theorem plainL_append {l k : List Value} : plainL (l ++ k) = (plainL l && plainL k) := by
  induction l with
  | nil => simp [plainL]
  | cons v r ih => simp [plainL, ih, Bool.and_assoc]

end Go.Ab

namespace Go.Ab

/-- Keys that are compared as they stand. -/
def keyOk : Value → Bool
  | .bool _ | .int _ _ | .string _ => true
  | _ => false
/-- The entries of a map, as a list of keys and values in turn. -/
def MRel (m : Map) (cells : List Value) (es : List MapEntry) : Prop :=
  cells.length = 2 * es.length ∧ ∀ j e, es[j]? = some e → ∃ v, cells[2 * j]? = some e.key ∧ cells[2 * j + 1]? = some v ∧ keyOk e.key = true ∧ VRel m v e.val

theorem MRel.mono {m m' : Map} (hm : Map.le m m') {cells : List Value} {es : List MapEntry} (h : MRel m cells es) : MRel m' cells es :=
  ⟨h.1, fun j e he => let ⟨v, h1, h2, h3, h4⟩ := h.2 j e he; ⟨v, h1, h2, h3, h4.mono hm⟩⟩

structure BRel (m : Map) (b : Blk) (L : Loc) (w : World) : Prop where
  tab : L.mp = true → ∃ (es : Array MapEntry) (clock : Nat), w.heap[L.b]? = some (.map es clock) ∧ MRel m b.cells es.toList
  row : L.mp = false → ∃ (cs : Array Value) (el : TypeId) (fz : Nat × Nat), w.heap[L.b]? = some (.cells cs el fz) ∧
    (∀ (j : Nat) (v : Value), b.cells[j]? = some v → ∃ v', cs[L.sh + j]? = some v' ∧ VRel m v v') ∧
    (b.own = true → b.cells.length ≤ L.ext ∧ L.sh + L.ext ≤ cs.size ∧ ∀ o, L.sh ≤ o → o < L.sh + L.ext → ¬ (fz.1 ≤ o ∧ o < fz.2))

structure Rel (m : Map) (h : Heap) (w : World) : Prop where
  len : m.length = h.length
  blk : ∀ i b L, hblk h i = some b → mloc m i = some L → BRel m b L w
  dummy : ∀ i b, hblk h i = some b → mloc m i = none → b.cells = []
  dis : ∀ i j b b' L L', i ≠ j → hblk h i = some b → b.own = true → hblk h j = some b' → mloc m i = some L → mloc m j = some L' → L.b ≠ L'.b

def isOwn (b : Option Blk) : Bool := match b with | some b => b.own | none => false
def flags (n0 : Nat) (h : Heap) : List Bool := (h.take n0).map isOwn

def AnchOwn (n0 : Nat) (m : Map) (h : Heap) (k : Nat) : Prop := ∃ i L, (flags n0 h)[i]? = some true ∧ mloc (m.take n0) i = some L ∧ L.b = k

structure St (n0 B0 : Nat) (m : Map) (h : Heap) (w : World) : Prop where
  rel : Rel m h w
  base : B0 ≤ w.heap.size
  fresh : ∀ i b L, n0 ≤ i → hblk h i = some b → mloc m i = some L → B0 ≤ L.b
  anch : n0 ≤ h.length

/-- Neither cells nor a map. -/
def fixed (o : Obj) : Bool := match o with | .cells .. => false | .map .. => false | _ => true
theorem fixed_cells {o : Obj} (h : fixed o = true) : o.isCells = false := by cases o <;> first | rfl | cases h

structure Fr (B0 : Nat) (A : Nat → Prop) (w w' : World) : Prop where
  os : w'.os = w.os
  tape : w'.tape = w.tape
  output : w'.output = w.output
  size : w.heap.size ≤ w'.heap.size
  keep : ∀ k, k < B0 → ¬ A k → w'.heap[k]? = w.heap[k]?
  oth : ∀ (k : Nat) (o : Obj), w.heap[k]? = some o → fixed o = true → w'.heap[k]? = some o

/-- Deferred calls of an activation: those of the base, and the empty marks of ranges over functions. -/
def dmark (D : Nat) : Deferred := { target := .collected D, args := #[] }
/-- The base of an activation's deferred calls; whether marks may lie on it. -/
abbrev Bs := List Deferred × Bool
def DOk (bs : Bs) (B0 : Nat) (ds : List Deferred) (w : World) : Prop :=
  ∃ marks : List Nat, ds = marks.map dmark ++ bs.1 ∧ (bs.2 = false → marks = []) ∧ marks.Nodup ∧ ∀ D ∈ marks, B0 ≤ D ∧ w.heap[D]? = some (.deferred (some []))

theorem DOk.base (bs : Bs) (B0 : Nat) (w : World) : DOk bs B0 bs.1 w := ⟨[], rfl, fun _ => rfl, List.nodup_nil, fun _ h => by cases h⟩
theorem DOk.keep {bs : Bs} {ds : List Deferred} {B0 B1 : Nat} {A : Nat → Prop} {w w' : World} (h : DOk bs B0 ds w) (f : Fr B1 A w w') : DOk bs B0 ds w' :=
  let ⟨marks, h1, h0, h2, h3⟩ := h; ⟨marks, h1, h0, h2, fun D hD => ⟨(h3 D hD).1, f.oth D _ (h3 D hD).2 rfl⟩⟩

structure Tr (n0 B0 : Nat) (m : Map) (h : Heap) (w : World) (m' : Map) (h' : Heap) (w' : World) : Prop where
  st : St n0 B0 m' h' w'
  pre : m'.take n0 = m.take n0
  flag : flags n0 h' = flags n0 h
  fr : Fr B0 (AnchOwn n0 m h) w w'

theorem Fr.refl (B0 : Nat) (A : Nat → Prop) (w : World) : Fr B0 A w w := ⟨rfl, rfl, rfl, Nat.le_refl _, fun _ _ _ => rfl, fun _ _ h _ => h⟩
theorem Fr.trans {B0 : Nat} {A : Nat → Prop} {a b c : World} (h : Fr B0 A a b) (k : Fr B0 A b c) : Fr B0 A a c :=
  ⟨k.os.trans h.os, k.tape.trans h.tape, k.output.trans h.output, Nat.le_trans h.size k.size, fun i hi hA => (k.keep i hi hA).trans (h.keep i hi hA), fun i o hi ho => k.oth i o (h.oth i o hi ho) ho⟩
theorem Fr.mono {B0 B1 : Nat} {A A' : Nat → Prop} {a b : World} (h : Fr B1 A' a b) (hB : B0 ≤ B1) (hA : ∀ k, k < B0 → A' k → A k) : Fr B0 A a b :=
  ⟨h.os, h.tape, h.output, h.size, fun k hk hn => h.keep k (by omega) (fun hh => hn (hA k hk hh)), h.oth⟩

theorem Tr.refl {n0 B0 : Nat} {m : Map} {h : Heap} {w : World} (s : St n0 B0 m h w) : Tr n0 B0 m h w m h w := ⟨s, rfl, rfl, Fr.refl _ _ _⟩

theorem anchOwn_eq {n0 : Nat} {m m' : Map} {h h' : Heap} (hp : m'.take n0 = m.take n0) (hf : flags n0 h' = flags n0 h) : AnchOwn n0 m' h' = AnchOwn n0 m h := by
  funext k; unfold AnchOwn; rw [hp, hf]

theorem Tr.trans {n0 B0 : Nat} {m m1 m2 : Map} {h h1 h2 : Heap} {w w1 w2 : World} (a : Tr n0 B0 m h w m1 h1 w1) (b : Tr n0 B0 m1 h1 w1 m2 h2 w2) : Tr n0 B0 m h w m2 h2 w2 :=
  ⟨b.st, b.pre.trans a.pre, b.flag.trans a.flag, a.fr.trans (by have := b.fr; rwa [anchOwn_eq a.pre a.flag] at this)⟩

/-- Only the heap matters to the relation. -/
theorem Rel.of_heap {m : Map} {h : Heap} {w w' : World} (hh : w'.heap = w.heap) (r : Rel m h w) : Rel m h w' :=
  ⟨r.len, fun i b L hb hL => by obtain ⟨tab, row⟩ := r.blk i b L hb hL; exact ⟨by rw [hh]; exact tab, by rw [hh]; exact row⟩, r.dummy, r.dis⟩

theorem Tr.drew {n0 B0 : Nat} {m : Map} {h : Heap} {w : World} (s : St n0 B0 m h w) : Tr n0 B0 m h w m h w.drew :=
  ⟨⟨Rel.of_heap (w := w) rfl s.rel, s.base, s.fresh, s.anch⟩, rfl, rfl, ⟨rfl, rfl, rfl, Nat.le_refl _, fun _ _ _ => rfl, fun _ _ h _ => h⟩⟩

abbrev Env := Nat → Option Value
def put (e : Env) (d : Option Nat) (v : Value) : Env := match d with | some d => fun t => if t = d then some v else e t | none => e

def ERel (m : Map) (e : Env) (a : Act) : Prop := ∀ t v, e t = some v → VRel m v (a.tmps.getD t undef)

theorem ERel.mono {m m' : Map} (hm : Map.le m m') {e : Env} {a : Act} (h : ERel m e a) : ERel m' e a := fun t v ht => (h t v ht).mono hm

theorem ERel.put {m : Map} {e : Env} {a : Act} (h : ERel m e a) {d : Option Nat} (hd : ∀ t, d = some t → t < a.tmps.size) {v v' : Value} (hv : VRel m v v') : ERel m (put e d v) (a.put d v') := by
  cases d with
  | none => exact h
  | some d =>
    intro t u ht
    simp only [Ab.put] at ht
    have hlt := hd d rfl
    simp only [Act.put]
    by_cases e1 : t = d
    · subst e1
      rw [if_pos rfl] at ht
      cases ht
      simp [Array.getD, hlt]
      exact hv
    · rw [if_neg e1] at ht
      have := h t u ht
      have hx : (a.tmps.setIfInBounds d v').getD t undef = a.tmps.getD t undef := by
        simp [Array.getD_eq_getD_getElem?, Ne.symm e1]
      rw [hx]; exact this

theorem undef_rel (m : Map) : VRel m undef undef := by
  unfold undef
  exact .tuple [] [] rfl (by simp)

/-- The operand's value in an abstract frame. -/
def eo (e : Env) : Operand → Option Value
  | .tmp t => e t
  | .const v => if plain v then some v else none
  | .global _ => none
  | .func f => some (.func (.func f) #[] #[])

mutual
theorem VRel.rec_plain (m : Map) : ∀ (v : Value), plain v = true → VRel m v v
  | .bool _, _ => .bool _
  | .int _ _, _ => .int _ _
  | .string _, _ => .string _
  | .float _ _, h => by simp [plain] at h
  | .complex _ _ _, h => by simp [plain] at h
  | .pointer none, _ => .pnil
  | .pointer (some _), h => by simp [plain] at h
  | .slice none n c, h => by
    simp only [plain, Bool.and_eq_true, beq_iff_eq] at h
    obtain ⟨rfl, rfl⟩ := h
    exact .snil
  | .slice (some _) _ _, h => by simp [plain] at h
  | .map none, _ => .mapNil
  | .map (some _), h => by simp [plain] at h
  | .chan _, h => by simp [plain] at h
  | .nilFunc, _ => .nilFunc
  | .nilIface, _ => .nilIface
  | .func (.func g) ⟨xs⟩ ⟨ys⟩, h => by
    simp only [plain, plainA, Bool.and_eq_true] at h
    have a := VRel.rec_plainL m xs h.1
    have b := VRel.rec_plainL m ys h.2
    exact .func g _ _ _ _ rfl rfl a.2 b.2
  | .func (.method _) _ _, h => by simp [plain] at h
  | .func (.methodOf _ _) _ _, h => by simp [plain] at h
  | .func (.via _ _ _ _) _ _, h => by simp [plain] at h
  | .func (.yield _) _ _, h => by simp [plain] at h
  | .iface t v, h => by
    simp only [plain] at h
    exact .iface t v v (VRel.rec_plain m v h)
  | .agg ⟨cs⟩, h => by
    simp only [plain, plainA] at h
    exact .agg _ _ rfl (VRel.rec_plainL m cs h).2
  | .tuple ⟨cs⟩, h => by
    simp only [plain, plainA] at h
    exact .tuple _ _ rfl (VRel.rec_plainL m cs h).2
theorem VRel.rec_plainL (m : Map) : ∀ (l : List Value), plainL l = true → VRels m l l
  | [], _ => VRels.nil _
  | v :: r, h => by
    simp only [plainL, Bool.and_eq_true] at h
    exact VRels.cons (VRel.rec_plain m v h.1) (VRel.rec_plainL m r h.2)
end

theorem VRel.of_plain (m : Map) : ∀ (v : Value), plain v = true → VRel m v v := VRel.rec_plain m

theorem VRels.ext {m : Map} {xs xs' : List Value} (h : VRels m xs xs') (hp : ∀ v ∈ xs, ∀ v', VRel m v v' → v' = v) : xs' = xs := by
  refine List.ext_getElem? fun j => ?_
  cases hx : xs[j]? with
  | none =>
    have : xs'.length ≤ j := by have := h.1; have := List.getElem?_eq_none_iff.1 hx; omega
    exact List.getElem?_eq_none this
  | some v =>
    have hj : j < xs'.length := by have := h.1; have := (List.getElem?_eq_some_iff.1 hx).1; omega
    have h2 := h.2 j v xs'[j] hx (List.getElem?_eq_getElem hj)
    rw [List.getElem?_eq_getElem hj, hp v (List.mem_of_getElem? hx) _ h2]

theorem VRel.plain_eq {m : Map} {v v' : Value} (h : VRel m v v') : plain v = true → v' = v := by
  induction h with
  | ptr => intro hp; simp [plain] at hp
  | slice => intro hp; simp [plain] at hp
  | sliceNil => intro hp; simp [plain] at hp
  | slice0 => intro hp; simp [plain] at hp
  | mapRef => intro hp; simp [plain] at hp
  | bool => intro _; rfl
  | int => intro _; rfl
  | string => intro _; rfl
  | pnil => intro _; rfl
  | snil => intro _; rfl
  | mapNil => intro _; rfl
  | nilFunc => intro _; rfl
  | nilIface => intro _; rfl
  | yld => intro _; rfl
  | func f xs ys xs' ys' h1 h2 _ _ ih3 ih4 =>
    intro hp
    simp only [plain, plainA, Bool.and_eq_true, plainL_iff] at hp
    have e1 : xs' = xs := by
      refine List.ext_getElem? fun j => ?_
      cases hx : xs[j]? with
      | none => exact List.getElem?_eq_none (by have := List.getElem?_eq_none_iff.1 hx; omega)
      | some v =>
        have hj : j < xs'.length := by have := (List.getElem?_eq_some_iff.1 hx).1; omega
        rw [List.getElem?_eq_getElem hj, ih3 j v _ hx (List.getElem?_eq_getElem hj) (hp.1 v (List.mem_of_getElem? hx))]
    have e2 : ys' = ys := by
      refine List.ext_getElem? fun j => ?_
      cases hx : ys[j]? with
      | none => exact List.getElem?_eq_none (by have := List.getElem?_eq_none_iff.1 hx; omega)
      | some v =>
        have hj : j < ys'.length := by have := (List.getElem?_eq_some_iff.1 hx).1; omega
        rw [List.getElem?_eq_getElem hj, ih4 j v _ hx (List.getElem?_eq_getElem hj) (hp.2 v (List.mem_of_getElem? hx))]
    rw [e1, e2]
  | iface t v v' _ ih => intro hp; simp only [plain] at hp; rw [ih hp]
  | agg xs xs' h1 _ ih =>
    intro hp
    simp only [plain, plainA, plainL_iff] at hp
    have e1 : xs' = xs := by
      refine List.ext_getElem? fun j => ?_
      cases hx : xs[j]? with
      | none => exact List.getElem?_eq_none (by have := List.getElem?_eq_none_iff.1 hx; omega)
      | some v =>
        have hj : j < xs'.length := by have := (List.getElem?_eq_some_iff.1 hx).1; omega
        rw [List.getElem?_eq_getElem hj, ih j v _ hx (List.getElem?_eq_getElem hj) (hp v (List.mem_of_getElem? hx))]
    rw [e1]
  | tuple xs xs' h1 _ ih =>
    intro hp
    simp only [plain, plainA, plainL_iff] at hp
    have e1 : xs' = xs := by
      refine List.ext_getElem? fun j => ?_
      cases hx : xs[j]? with
      | none => exact List.getElem?_eq_none (by have := List.getElem?_eq_none_iff.1 hx; omega)
      | some v =>
        have hj : j < xs'.length := by have := (List.getElem?_eq_some_iff.1 hx).1; omega
        rw [List.getElem?_eq_getElem hj, ih j v _ hx (List.getElem?_eq_getElem hj) (hp v (List.mem_of_getElem? hx))]
    rw [e1]

theorem ERel.op {m : Map} {e : Env} {a : Act} (h : ERel m e a) {x : Operand} {v : Value} (hx : eo e x = some v) : VRel m v (a.eval x) := by
  cases x with
  | tmp t => exact h t v hx
  | const u =>
    simp only [eo] at hx
    split at hx
    · cases hx; exact VRel.of_plain m _ (by assumption)
    · cases hx
  | global g => simp [eo] at hx
  | func f => simp only [eo, Option.some.injEq] at hx; subst hx; exact .func f [] [] [] [] rfl rfl (by simp) (by simp)

-- reading
def readCells (h : Heap) (a : Addr) (n : Nat) : Option (List Value) :=
  match hblk h a.block with
  | some b => if a.spot = none ∧ a.off + n ≤ b.cells.length then some ((b.cells.drop a.off).take n) else none
  | none => none

theorem run_loadCellsFrom {P : Program} {w : World} {b sh : Nat} : ∀ (vs : List Value) (i : Nat) (acc : Array Value),
    (∀ (j : Nat) (v : Value), vs[j]? = some v → w.cell? ⟨b, sh + (i + j), none⟩ = some v) →
      (loadCellsFrom ⟨b, sh, none⟩ i vs.length acc).run P w = .ok (acc ++ vs.toArray) w := by
  intro vs
  induction vs with
  | nil => intro i acc _; simp [loadCellsFrom]
  | cons v r ih =>
    intro i acc hc
    have hadd : (⟨b, sh, none⟩ : Addr).add i = ⟨b, sh + i, none⟩ := by
      unfold Addr.add; split
      · subst_vars; rfl
      · rfl
    have h0 : w.cell? ⟨b, sh + i, none⟩ = some v := hc 0 v rfl
    simp only [List.length_cons, loadCellsFrom, Sem.run_bind, hadd, run_load, h0, Result.andThen_ok]
    rw [ih (i + 1) _ (fun j u hj => by have := hc (j + 1) u (by simpa using hj); rwa [show i + (j + 1) = i + 1 + j by omega] at this)]
    simp

theorem readCells_spec {h : Heap} {i o n : Nat} {vs : List Value} (hr : readCells h ⟨i, o, none⟩ n = some vs) :
    ∃ b, hblk h i = some b ∧ o + n ≤ b.cells.length ∧ vs = (b.cells.drop o).take n := by
  unfold readCells at hr
  cases hb : hblk h i with
  | none => simp [hb] at hr
  | some b =>
    simp only [hb] at hr
    split at hr
    case isFalse => cases hr
    case isTrue hc => cases hr; exact ⟨b, rfl, hc.2, rfl⟩

theorem readCells_run {P : Program} {m : Map} {h : Heap} {w : World} (r : Rel m h w) {i o n : Nat} {vs : List Value} (hr : readCells h ⟨i, o, none⟩ n = some vs)
    {L : Loc} (hL : mloc m i = some L) (hmp : L.mp = false) : ∃ vs' : List Value, (loadCells ⟨L.b, L.sh + o, none⟩ n).run P w = .ok vs'.toArray w ∧ VRels m vs vs' ∧ vs'.length = n ∧
      (∀ (j : Nat) (v : Value), vs'[j]? = some v → w.cell? ⟨L.b, L.sh + o + j, none⟩ = some v) := by
  obtain ⟨b, hb, hlen, rfl⟩ := readCells_spec hr
  obtain ⟨cs, el, fz, hw, hcells, _⟩ := (r.blk i b L hb hL).row hmp
  have hval : ∀ j, j < n → ∃ v', cs[L.sh + (o + j)]? = some v' := fun j hj => by
    obtain ⟨v', h1, _⟩ := hcells (o + j) (b.cells[o + j]'(by omega)) (List.getElem?_eq_getElem (by omega))
    exact ⟨v', h1⟩
  have hlen' : ((cs.toList.drop (L.sh + o)).take n).length = n := by
    cases n with
    | zero => simp
    | succ n =>
      obtain ⟨v', hv'⟩ := hval n (by omega)
      have hx := (Array.getElem?_eq_some_iff.1 hv').1
      simp only [List.length_take, List.length_drop, Array.length_toList]
      omega
  have hcell : ∀ (j : Nat) (v : Value), ((cs.toList.drop (L.sh + o)).take n)[j]? = some v → w.cell? ⟨L.b, L.sh + o + j, none⟩ = some v := by
    intro j v hj
    rw [List.getElem?_take] at hj
    split at hj
    case isFalse => cases hj
    case isTrue hjn =>
      rw [List.getElem?_drop] at hj
      simp only [World.cell?, hw, Option.isSome_none, Bool.false_eq_true, if_false]
      simpa using hj
  refine ⟨(cs.toList.drop (L.sh + o)).take n, ?_, ⟨by rw [hlen']; simp; omega, ?_⟩, hlen', hcell⟩
  · have := run_loadCellsFrom (P := P) (w := w) (b := L.b) (sh := L.sh + o) ((cs.toList.drop (L.sh + o)).take n) 0 #[] (fun j v hj => by rw [Nat.zero_add]; exact hcell j v hj)
    rw [hlen'] at this
    unfold loadCells
    rw [this]
    simp
  · intro j v v' h1 h2
    rw [List.getElem?_take] at h1 h2
    split at h1
    case isFalse => cases h1
    case isTrue hjn =>
      rw [if_pos hjn] at h2
      rw [List.getElem?_drop] at h1 h2
      obtain ⟨u, hu, hrel⟩ := hcells (o + j) v h1
      have : cs[L.sh + (o + j)]? = some v' := by
        rw [← Array.getElem?_toList, ← h2]; congr 1; omega
      rw [this] at hu; cases hu; exact hrel
end Go.Ab

namespace Go.Ab

theorem hblk_append_left {h x : Heap} {i : Nat} (hi : i < h.length) : hblk (h ++ x) i = hblk h i := by
  simp [hblk, List.getElem?_append_left hi]
theorem hblk_append_new {h : Heap} {b : Option Blk} {i : Nat} (hi : i = h.length) : hblk (h ++ [b]) i = b := by
  subst hi; simp [hblk]
theorem hblk_ge {h : Heap} {i : Nat} (hi : h.length ≤ i) : hblk h i = none := by simp [hblk, List.getElem?_eq_none hi]
theorem hblk_lt {h : Heap} {i : Nat} {b : Blk} (hb : hblk h i = some b) : i < h.length := by
  rcases Nat.lt_or_ge i h.length with h1 | h1
  · exact h1
  · rw [hblk_ge h1] at hb; cases hb
theorem mloc_append_left {m x : Map} {i : Nat} (hi : i < m.length) : mloc (m ++ x) i = mloc m i := by
  simp [mloc, List.getElem?_append_left hi]
theorem mloc_append_new {m : Map} {b : Option Loc} {i : Nat} (hi : i = m.length) : mloc (m ++ [b]) i = b := by
  subst hi; simp [mloc]
theorem mloc_ge {m : Map} {i : Nat} (hi : m.length ≤ i) : mloc m i = none := by simp [mloc, List.getElem?_eq_none hi]
theorem hblk_append_cases {h : Heap} {b : Option Blk} {i : Nat} {c : Blk} (hc : hblk (h ++ [b]) i = some c) : (i < h.length ∧ hblk h i = some c) ∨ (i = h.length ∧ b = some c) := by
  have hl := hblk_lt hc
  simp at hl
  rcases Nat.lt_or_ge i h.length with h1 | h1
  · left; exact ⟨h1, by rwa [hblk_append_left h1] at hc⟩
  · right; have : i = h.length := by omega
    exact ⟨this, by rwa [hblk_append_new this] at hc⟩

theorem take_append_of_le {α : Type} {l x : List α} {n : Nat} (h : n ≤ l.length) : (l ++ x).take n = l.take n := by
  rw [List.take_append_of_le_length h]

theorem flags_append {n0 : Nat} {h x : Heap} (hn : n0 ≤ h.length) : flags n0 (h ++ x) = flags n0 h := by
  simp [flags, take_append_of_le hn]

theorem BRel.lt {m : Map} {b : Blk} {L : Loc} {w : World} (r : BRel m b L w) : L.b < w.heap.size := by
  cases hp : L.mp with
  | false => obtain ⟨cs, el, fz, hw, _⟩ := r.row hp; exact (Array.getElem?_eq_some_iff.1 hw).1
  | true => obtain ⟨es, c, hw, _⟩ := r.tab hp; exact (Array.getElem?_eq_some_iff.1 hw).1

theorem BRel.mono {m m' : Map} {b : Blk} {L : Loc} {w w' : World} (hm : Map.le m m') (hw : w'.heap[L.b]? = w.heap[L.b]?) (r : BRel m b L w) : BRel m' b L w' := by
  refine ⟨fun hp => ?_, fun hp => ?_⟩
  · obtain ⟨es, c, hh, hr⟩ := r.tab hp
    exact ⟨es, c, hw.trans hh, hr.mono hm⟩
  · obtain ⟨cs, el, fz, hh, hc, ho⟩ := r.row hp
    exact ⟨cs, el, fz, hw.trans hh, fun j v hj => let ⟨v', h1, h2⟩ := hc j v hj; ⟨v', h1, h2.mono hm⟩, ho⟩

theorem St.n0m {n0 B0 : Nat} {m : Map} {h : Heap} {w : World} (s : St n0 B0 m h w) : n0 ≤ m.length := by rw [s.rel.len]; exact s.anch

theorem ab_alloc_old (w : World) (o : Obj) (i : Nat) (h : i < w.heap.size) : (w.alloc o).heap[i]? = w.heap[i]? := by
  show (w.heap.push o)[i]? = w.heap[i]?
  rw [Array.getElem?_push, if_neg (Nat.ne_of_lt h)]

/-- A new block. -/
theorem Tr.alloc {n0 B0 : Nat} {m : Map} {h : Heap} {w : World} (s : St n0 B0 m h w) {vs : List Value} {cs : Array Value} {el : TypeId} {ext : Nat} (own : Bool)
    (hv : ∀ (j : Nat) (v : Value), vs[j]? = some v → ∃ v', cs[j]? = some v' ∧ VRel m v v') (h1 : vs.length ≤ ext) (h2 : ext ≤ cs.size) :
    Tr n0 B0 m h w (m ++ [some ⟨w.heap.size, 0, ext, false⟩]) (h ++ [some ⟨vs, own⟩]) (w.alloc (.cells cs el (0, 0))) := by
  have hle : Map.le m (m ++ [some ⟨w.heap.size, 0, ext, false⟩]) := mloc_append _ _
  have hold : ∀ k, k < w.heap.size → (w.alloc (.cells cs el (0, 0))).heap[k]? = w.heap[k]? := fun k hk => ab_alloc_old _ _ _ hk
  have hlen := s.rel.len
  have newloc : ∀ {L : Loc}, mloc (m ++ [some ⟨w.heap.size, 0, ext, false⟩]) h.length = some L → L = ⟨w.heap.size, 0, ext, false⟩ := by
    intro L hL; rw [mloc_append_new (by omega)] at hL; cases hL; rfl
  refine ⟨⟨⟨by simp [hlen], ?_, ?_, ?_⟩, ?_, ?_, ?_⟩, ?_, ?_, ?_⟩
  · intro i b L hb hL
    rcases hblk_append_cases hb with ⟨hi, hb'⟩ | ⟨hi, hb'⟩
    · rw [mloc_append_left (by omega)] at hL
      have r := s.rel.blk i b L hb' hL
      exact r.mono hle (hold _ r.lt)
    · subst hi
      have := newloc hL; subst this
      cases hb'
      refine ⟨fun hp => (by cases hp), fun _ => ⟨cs, el, (0, 0), heap_alloc_new _ _, ?_, ?_⟩⟩
      · intro j v hj
        obtain ⟨v', a, b⟩ := hv j v hj
        exact ⟨v', by simpa using a, b.mono hle⟩
      · intro _; exact ⟨h1, by simpa using h2, by intro o _ _; simp⟩
  · intro i b hb hL
    rcases hblk_append_cases hb with ⟨hi, hb'⟩ | ⟨hi, hb'⟩
    · rw [mloc_append_left (by omega)] at hL; exact s.rel.dummy i b hb' hL
    · subst hi; rw [mloc_append_new (by omega)] at hL; cases hL
  · intro i j b b' L L' hij hb ho hb' hL hL'
    rcases hblk_append_cases hb with ⟨hi, hbb⟩ | ⟨hi, hbb⟩
    · rw [mloc_append_left (by omega)] at hL
      rcases hblk_append_cases hb' with ⟨hj, hbb'⟩ | ⟨hj, hbb'⟩
      · rw [mloc_append_left (by omega)] at hL'
        exact s.rel.dis i j b b' L L' hij hbb ho hbb' hL hL'
      · subst hj; have := newloc hL'; subst this
        have := (s.rel.blk i b L hbb hL).lt
        simp; omega
    · subst hi; have := newloc hL; subst this
      rcases hblk_append_cases hb' with ⟨hj, hbb'⟩ | ⟨hj, hbb'⟩
      · rw [mloc_append_left (by omega)] at hL'
        have := (s.rel.blk j b' L' hbb' hL').lt
        simp; omega
      · omega
  · have := s.base; simp; omega
  · intro i b L hn hb hL
    rcases hblk_append_cases hb with ⟨hi, hbb⟩ | ⟨hi, hbb⟩
    · rw [mloc_append_left (by omega)] at hL; exact s.fresh i b L hn hbb hL
    · subst hi; have := newloc hL; subst this; exact s.base
  · have := s.anch; simp; omega
  · exact take_append_of_le s.n0m
  · exact flags_append s.anch
  · exact ⟨rfl, rfl, rfl, by simp, fun k hk _ => hold k (by have := s.base; omega), fun k o hk _ => (hold k (Array.getElem?_eq_some_iff.1 hk).1).trans hk⟩

def putA (cs : Array Value) (o : Nat) : List Value → Array Value
  | [] => cs
  | v :: r => putA (cs.setIfInBounds o v) (o + 1) r

theorem putA_size (vs : List Value) : ∀ (cs : Array Value) (o : Nat), (putA cs o vs).size = cs.size := by
  induction vs with
  | nil => intro cs o; rfl
  | cons v r ih => intro cs o; simp [putA, ih]

theorem putA_get (vs : List Value) : ∀ (cs : Array Value) (o j : Nat), o + vs.length ≤ cs.size →
    (putA cs o vs)[j]? = if o ≤ j ∧ j < o + vs.length then vs[j - o]? else cs[j]? := by
  induction vs with
  | nil => intro cs o j _; simp [putA]; omega
  | cons v r ih =>
    intro cs o j hle
    simp only [List.length_cons] at hle ⊢
    rw [putA, ih _ _ _ (by simp; omega)]
    by_cases h1 : j = o
    · subst h1
      rw [if_neg (by omega), if_pos (by omega)]
      have hj : j < cs.size := by omega
      simp [hj]
    · by_cases h2 : o + 1 ≤ j ∧ j < o + 1 + r.length
      · rw [if_pos h2, if_pos (by omega)]
        obtain ⟨d, rfl⟩ : ∃ d, j = o + 1 + d := ⟨j - (o + 1), by omega⟩
        rw [show o + 1 + d - (o + 1) = d by omega, show o + 1 + d - o = d + 1 by omega]
        simp
      · rw [if_neg h2, if_neg (by omega), Array.getElem?_setIfInBounds_ne (by omega)]

theorem run_storeCells {P : Program} {b sh : Nat} {el : TypeId} {fz : Nat × Nat} : ∀ (vs : List Value) (i : Nat) (w : World) (cs : Array Value),
    w.heap[b]? = some (.cells cs el fz) → sh + i + vs.length ≤ cs.size → (∀ o, sh + i ≤ o → o < sh + i + vs.length → ¬ (fz.1 ≤ o ∧ o < fz.2)) → (∀ v ∈ vs, v.oneCell' = true) →
      ∃ w', (storeCells ⟨b, sh, none⟩ vs i).run P w = .ok () w' ∧ w'.heap[b]? = some (.cells (putA cs (sh + i) vs) el fz) ∧ (∀ k, k ≠ b → w'.heap[k]? = w.heap[k]?) ∧
        w'.heap.size = w.heap.size ∧ w'.os = w.os ∧ w'.tape = w.tape ∧ w'.output = w.output := by
  intro vs
  induction vs with
  | nil => intro i w cs hw _ _ _; exact ⟨w, by simp [storeCells], hw, fun _ _ => rfl, rfl, rfl, rfl, rfl⟩
  | cons v r ih =>
    intro i w cs hw hle hfz hone
    simp only [List.length_cons] at hle hfz
    have hadd : (⟨b, sh, none⟩ : Addr).add i = ⟨b, sh + i, none⟩ := by
      unfold Addr.add; split
      · subst_vars; rfl
      · rfl
    have hcell : w.cell? ⟨b, sh + i, none⟩ = some cs[sh + i] := by
      simp [World.cell?, hw]
    have hfro : w.frozen? ⟨b, sh + i, none⟩ = false := by
      have := hfz (sh + i) (by omega) (by omega)
      simp [World.frozen?, hw]; omega
    have hset : (w.setCell ⟨b, sh + i, none⟩ v).heap[b]? = some (.cells (cs.setIfInBounds (sh + i) v) el fz) := by
      simp only [World.setCell, Array.getElem?_modify, hw]
      simp
    obtain ⟨w', h1, h2, h3, h4, h5, h6, h7⟩ := ih (i + 1) (w.setCell ⟨b, sh + i, none⟩ v) (cs.setIfInBounds (sh + i) v) hset (by simp; omega)
      (fun o ho1 ho2 => hfz o (by omega) (by omega)) (fun u hu => hone u (List.mem_cons_of_mem _ hu))
    refine ⟨w', ?_, ?_, ?_, by rw [h4]; simp, by rw [h5]; rfl, by rw [h6]; rfl, by rw [h7]; rfl⟩
    · simp only [storeCells, Sem.run_bind, hadd]
      rw [run_store P w _ v _ (hone v (List.mem_cons_self ..))]
      simp only [hcell, hfro, Bool.false_eq_true, if_false, Result.andThen_ok]
      exact h1
    · rw [h2, putA, show sh + (i + 1) = sh + i + 1 by omega]
    · intro k hk; rw [h3 k hk, heap_setCell_other _ _ _ _ (by simpa using hk)]

def splice (cs : List Value) (o : Nat) (vs : List Value) : List Value := cs.take o ++ vs ++ cs.drop (o + vs.length)

theorem splice_length {cs vs : List Value} {o : Nat} (h : o + vs.length ≤ cs.length) : (splice cs o vs).length = cs.length := by simp [splice]; omega

theorem splice_get {cs vs : List Value} {o j : Nat} (h : o + vs.length ≤ cs.length) :
    (splice cs o vs)[j]? = if o ≤ j ∧ j < o + vs.length then vs[j - o]? else cs[j]? := by
  unfold splice
  by_cases h1 : j < o
  · rw [if_neg (by omega), List.append_assoc, List.getElem?_append_left (by simp; omega), List.getElem?_take, if_pos h1]
  · by_cases h2 : j < o + vs.length
    · rw [if_pos ⟨by omega, h2⟩, List.getElem?_append_left (by simp; omega), List.getElem?_append_right (by simp; omega)]
      simp; congr 1; omega
    · rw [if_neg (by omega), List.getElem?_append_right (by simp; omega), List.getElem?_drop]
      congr 1; simp; omega

theorem hblk_set_same {h : Heap} {i : Nat} {b : Option Blk} (hi : i < h.length) : hblk (h.set i b) i = b := by simp [hblk, hi]
theorem hblk_set_other {h : Heap} {i j : Nat} {b : Option Blk} (hij : i ≠ j) : hblk (h.set i b) j = hblk h j := by simp [hblk, hij]

theorem flags_set {n0 i : Nat} {h : Heap} {b b' : Blk} (hb : hblk h i = some b) (ho : b'.own = b.own) : flags n0 (h.set i (some b')) = flags n0 h := by
  unfold flags
  apply List.ext_getElem?
  intro j
  simp only [List.getElem?_map, List.getElem?_take]
  split
  · by_cases hij : i = j
    · subst hij
      have hi := hblk_lt hb
      have hx : h[i]? = some (some b) := by
        unfold hblk at hb
        cases hq : h[i]? with
        | none => simp [hq] at hb
        | some y => simp [hq] at hb; rw [hb]
      rw [List.getElem?_set_self hi, hx]
      simp [isOwn, ho]
    · rw [List.getElem?_set_ne hij]
  · rfl

theorem anchOwn_mk {n0 i : Nat} {m : Map} {h : Heap} {b : Blk} {L : Loc} (hi : i < n0) (hb : hblk h i = some b) (ho : b.own = true) (hL : mloc m i = some L) : AnchOwn n0 m h L.b := by
  refine ⟨i, L, ?_, ?_, rfl⟩
  · have hx : h[i]? = some (some b) := by
      unfold hblk at hb
      cases hq : h[i]? with
      | none => simp [hq] at hb
      | some y => simp [hq] at hb; rw [hb]
    simp [flags, hi, hx, isOwn, ho]
  · simpa [mloc, List.getElem?_take, hi] using hL

/-- A store into an owned block. -/
theorem Tr.store {P : Program} {n0 B0 : Nat} {m : Map} {h : Heap} {w : World} (s : St n0 B0 m h w) {i o : Nat} {b : Blk} {L : Loc} {vs vs' : List Value}
    (hb : hblk h i = some b) (ho : b.own = true) (hL : mloc m i = some L) (hlen : o + vs.length ≤ b.cells.length) (hv : VRels m vs vs') (hone : ∀ v ∈ vs', v.oneCell' = true) (hmp : L.mp = false) :
    ∃ w', (storeCells ⟨L.b, L.sh + o, none⟩ vs' 0).run P w = .ok () w' ∧ Tr n0 B0 m h w m (h.set i (some ⟨splice b.cells o vs, b.own⟩)) w' := by
  obtain ⟨cs, el, fz, hw, hcells, hown⟩ := (s.rel.blk i b L hb hL).row hmp
  obtain ⟨o1, o2, o3⟩ := hown ho
  have hvl := hv.1
  obtain ⟨w', h1, h2, h3, h4, h5, h6, h7⟩ := run_storeCells (P := P) (b := L.b) (sh := L.sh + o) (el := el) (fz := fz) vs' 0 w cs hw (by omega)
    (fun q hq1 hq2 => o3 q (by omega) (by omega)) hone
  have hi := hblk_lt hb
  refine ⟨w', h1, ⟨⟨⟨by simp [s.rel.len], ?_, ?_, ?_⟩, by rw [h4]; exact s.base, ?_, by simpa using s.anch⟩, rfl, flags_set hb rfl, ⟨h5, h6, h7, by omega, ?_, fun k o hk hc => (h3 k fun e => by subst e; rw [hw] at hk; cases hk; cases hc).trans hk⟩⟩⟩
  · intro j c L' hc hL'
    by_cases hij : i = j
    · subst hij
      rw [hblk_set_same hi] at hc; cases hc
      rw [hL] at hL'; cases hL'
      refine ⟨fun hp => absurd (hmp.symm.trans hp) (by simp), fun _ => ⟨putA cs (L.sh + o + 0) vs', el, fz, h2, ?_, ?_⟩⟩
      · intro j v hj
        simp only at hj
        rw [splice_get hlen] at hj
        rw [putA_get _ _ _ _ (by omega)]
        by_cases hr : o ≤ j ∧ j < o + vs.length
        · rw [if_pos hr] at hj
          rw [if_pos (by omega)]
          have hj2 : j - o < vs'.length := by omega
          refine ⟨vs'[j - o], ?_, hv.2 _ _ _ hj (List.getElem?_eq_getElem hj2)⟩
          rw [show L.sh + j - (L.sh + o + 0) = j - o by omega]
          exact List.getElem?_eq_getElem hj2
        · rw [if_neg hr] at hj
          rw [if_neg (by omega)]
          exact hcells j v hj
      · intro _
        rw [putA_size, splice_length hlen]
        exact ⟨o1, o2, o3⟩
    · rw [hblk_set_other hij] at hc
      have r := s.rel.blk j c L' hc hL'
      exact r.mono (fun _ _ x => x) (h3 _ (Ne.symm (s.rel.dis i j b c L L' hij hb ho hc hL hL')))
  · intro j c hc hL'
    by_cases hij : i = j
    · subst hij; rw [hL] at hL'; cases hL'
    · rw [hblk_set_other hij] at hc; exact s.rel.dummy j c hc hL'
  · intro p q c c' Lp Lq hpq hc hco hc' hLp hLq
    by_cases hip : i = p
    · subst hip
      rw [hblk_set_other hpq] at hc'
      exact s.rel.dis i q b c' Lp Lq hpq hb ho hc' hLp hLq
    · rw [hblk_set_other hip] at hc
      by_cases hiq : i = q
      · subst hiq
        exact s.rel.dis p i c b Lp Lq hpq hc hco hb hLp hLq
      · rw [hblk_set_other hiq] at hc'
        exact s.rel.dis p q c c' Lp Lq hpq hc hco hc' hLp hLq
  · intro j c L' hn hc hL'
    by_cases hij : i = j
    · subst hij; exact s.fresh i b L' hn hb hL'
    · rw [hblk_set_other hij] at hc; exact s.fresh j c L' hn hc hL'
  · intro k hk hA
    refine h3 k fun e => ?_
    subst e
    rcases Nat.lt_or_ge i n0 with hlt | hge
    · exact hA (anchOwn_mk hlt hb ho hL)
    · have := s.fresh i b L hge hb hL; omega

/-- A block is forgotten. -/
theorem St.kill {n0 B0 : Nat} {m : Map} {h : Heap} {w : World} (s : St n0 B0 m h w) {i : Nat} (hi : n0 ≤ i) : Tr n0 B0 m h w m (h.set i none) w := by
  have hc : ∀ {j : Nat} {c : Blk}, hblk (h.set i none) j = some c → hblk h j = some c := by
    intro j c hc
    by_cases hij : i = j
    · subst hij
      have hl : i < h.length := by simpa using hblk_lt hc
      rw [hblk_set_same hl] at hc; cases hc
    · rwa [hblk_set_other hij] at hc
  refine ⟨⟨⟨by simp [s.rel.len], fun j c L a b => s.rel.blk j c L (hc a) b, fun j c a b => s.rel.dummy j c (hc a) b, fun p q c c' L L' a b d e f g => s.rel.dis p q c c' L L' a (hc b) d (hc e) f g⟩,
    s.base, fun j c L a b d => s.fresh j c L a (hc b) d, by simpa using s.anch⟩, rfl, ?_, Fr.refl _ _ _⟩
  unfold flags
  rw [List.take_set_of_le hi]

end Go.Ab

namespace Go.Ab

inductive TD where
  | bool
  | int (k : IntKind)
  | str
  | ptr
  | slice (elem : TypeId)
  | arr (n : Nat) (elem : TypeId)
  | struct (fs : List (Nat × TypeId))
  | iface
  | func
  | other

/-- The kinds of the cells of a type whose equality is that of its cells, one by one. -/
inductive SK where
  | int
  | bool
  | str

structure TI where
  size : Nat
  bytes : Nat
  zv : Value
  d : TD
  flat : Option (List SK) := none

abbrev TT := TypeId → Option TI

def TD.ok (P : Program) (t : TypeId) : TD → Prop
  | .bool => P.underlying t = some .bool
  | .int k => P.underlying t = some (.int k)
  | .str => P.underlying t = some .string
  | .ptr => ∃ e, P.underlying t = some (.pointer e)
  | .slice e => P.underlying t = some (.slice e)
  | .arr n e => P.underlying t = some (.array n e)
  | .struct fs => ∃ fields : Array Field, P.underlying t = some (.struct fields) ∧ fields.toList.map (fun f => (f.offset, f.type)) = fs
  | .iface => ∃ ms, P.underlying t = some (.interface ms)
  | .func => ∃ a b c, P.underlying t = some (.func a b c)
  | .other => True

def flatFs (g : TypeId → Option (List SK)) (sz : TypeId → Nat) : List Field → List SK → Option (List SK)
  | [], acc => some acc
  | f :: fs, acc => if f.offset = acc.length ∧ f.name ≠ "_" then (g f.type).bind fun ks => if sz f.type = ks.length then flatFs g sz fs (acc ++ ks) else none else none

def flatK (P : Program) : Nat → TypeId → Option (List SK)
  | 0, _ => none
  | d + 1, t =>
    match P.underlying t with
    | some (.int _) => if P.cellsOf t = 1 then some [.int] else none
    | some .bool => if P.cellsOf t = 1 then some [.bool] else none
    | some .string => if P.cellsOf t = 1 then some [.str] else none
    | some (.array n e) => (flatK P d e).bind fun ks => if P.cellsOf e = ks.length ∧ P.cellsOf t = n * ks.length then some (List.replicate n ks).flatten else none
    | some (.struct fields) => if P.stoodInHeld t = true then none else (flatFs (flatK P d) P.cellsOf fields.toList []).bind fun ks => if P.cellsOf t = ks.length then some ks else none
    | _ => none

def scEq : SK → Value → Value → Option Bool
  | .int, .int k a, .int k' b => if k = k' then some (a == b) else none
  | .bool, .bool a, .bool b => some (a == b)
  | .str, .string a, .string b => some (a == b)
  | _, _, _ => none

def listEq : List SK → List Value → List Value → Option Bool
  | [], [], [] => some true
  | k :: ks, a :: x, b :: y => (scEq k a b).bind fun p => (listEq ks x y).map fun q => p && q
  | _, _, _ => none

structure TI.ok (P : Program) (t : TypeId) (i : TI) : Prop where
  info : ∃ inf, P.info? t = some inf ∧ inf.size = i.size ∧ inf.bytes = i.bytes ∧ inf.zero = some i.zv
  zc : i.zv.cells.size = i.size
  zp : plain i.zv = true
  d : i.d.ok P t
  fl : ∀ ks, i.flat = some ks → flatK P 10000 t = some ks ∧ P.eqGuardType P.depth t = false

def TT.ok (P : Program) (T : TT) : Prop := ∀ t i, T t = some i → i.ok P t

def TD.isAgg : TD → Bool
  | .arr .. | .struct _ => true
  | _ => false

/-- A value out of cells, of a type. -/
def ofCells (i : TI) (cs : List Value) : Option Value :=
  match i.d with
  | .arr .. | .struct _ => some (.agg cs.toArray)
  | .other => none
  | _ => match cs with | [v] => some v | _ => none

def aLoad (T : TT) (t : TypeId) (v : Value) (h : Heap) : Option Value :=
  (T t).bind fun i =>
    match v with
    | .pointer (some a) => (readCells h a i.size).bind fun cs => ofCells i cs
    | _ => none

def writeCells (h : Heap) (a : Addr) (vs : List Value) : Option Heap :=
  match hblk h a.block with
  | some b => if b.own = true ∧ a.spot = none ∧ a.off + vs.length ≤ b.cells.length then some (h.set a.block (some ⟨splice b.cells a.off vs, b.own⟩)) else none
  | none => none

def aStore (T : TT) (t : TypeId) (p v : Value) (h : Heap) : Option Heap :=
  (T t).bind fun i =>
    match p with
    | .pointer (some a) => if v.cells.size = i.size ∧ v.cells.toList.all Value.oneCell' = true then writeCells h a v.cells.toList else none
    | _ => none

def allocB (h : Heap) (vs : List Value) : Value × Heap := (.pointer (some ⟨h.length, 0, none⟩), h ++ [some ⟨vs, true⟩])

def aField (T : TT) (s : TypeId) (p : Value) (f : Nat) : Option Value :=
  (T s).bind fun i =>
    match i.d, p with
    | .struct fs, .pointer (some a) => (fs[f]?).bind fun x => (T x.2).bind fun j => if a.spot = none ∧ j.size ≠ 0 then some (.pointer (some ⟨a.block, a.off + x.1, none⟩)) else none
    | _, _ => none

def aIndexAddr (T : TT) (t : TypeId) (x ix : Value) : Option Value :=
  (T t).bind fun i =>
    match i.d, x, ix with
    | .slice e, .slice (some a) n z, .int _ k => (T e).bind fun j => if a.spot = none ∧ 0 ≤ k ∧ k < n ∧ z = j.size then some (.pointer (some ⟨a.block, a.off + k.toNat * j.size, none⟩)) else none
    | .arr n e, .pointer (some a), .int _ k => (T e).bind fun j => if a.spot = none ∧ 0 ≤ k ∧ k < n then some (.pointer (some ⟨a.block, a.off + k.toNat * j.size, none⟩)) else none
    | _, _, _ => none

/-- Comparing numbers, by their form. -/
def ilt : Int → Int → Bool
  | .ofNat a, .ofNat b => Nat.blt a b
  | .negSucc _, .ofNat _ => true
  | .ofNat _, .negSucc _ => false
  | .negSucc a, .negSucc b => Nat.blt b a

theorem blt_dec (a b : Nat) : Nat.blt a b = decide (a < b) := by
  rw [Bool.eq_iff_iff, Nat.blt_eq, decide_eq_true_eq]

theorem ilt_eq (x y : Int) : ilt x y = decide (x < y) := by
  cases x with
  | ofNat a =>
    cases y with
    | ofNat b => simp only [ilt]; rw [blt_dec]; congr 1; simp
    | negSucc b => simp only [ilt]; symm; rw [decide_eq_false_iff_not]; have : (Int.ofNat a) = (a : Int) := rfl; omega
  | negSucc a =>
    cases y with
    | ofNat b => simp only [ilt]; symm; rw [decide_eq_true_eq]; have : (Int.ofNat b) = (b : Int) := rfl; omega
    | negSucc b => simp only [ilt]; rw [blt_dec]; congr 1; rw [eq_iff_iff]; omega

def ile (x y : Int) : Bool := !ilt y x
theorem ile_eq (x y : Int) : ile x y = decide (x ≤ y) := by
  unfold ile; rw [ilt_eq]; by_cases h : y < x
  · simp [h]
  · simp [h]; omega

def aIntOp (op : BinOp) (k : IntKind) (x y : Int) : Option Value :=
  match op with
  | .add => some (.int k (k.wrap (x + y)))
  | .sub => some (.int k (k.wrap (x - y)))
  | .mul => some (.int k (k.wrap (x * y)))
  | .quo => if y ≠ 0 then some (.int k (k.wrap (x.tdiv y))) else none
  | .rem => if y ≠ 0 then some (.int k (x.tmod y)) else none
  | .eql => some (.bool (x == y))
  | .neq => some (.bool (x != y))
  | .lss => some (.bool (ilt x y))
  | .leq => some (.bool (ile x y))
  | .gtr => some (.bool (ilt y x))
  | .geq => some (.bool (ile y x))
  | .and => some (.int k (k.wrap (BitVec.ofInt k.bits x &&& BitVec.ofInt k.bits y).toNat))
  | .or => some (.int k (k.wrap (BitVec.ofInt k.bits x ||| BitVec.ofInt k.bits y).toNat))
  | .xor => some (.int k (k.wrap (BitVec.ofInt k.bits x ^^^ BitVec.ofInt k.bits y).toNat))
  | _ => none

def isCst : Operand → Bool
  | .const _ => true
  | _ => false

def aBin (T : TT) (c : Bool) (op : BinOp) (t : TypeId) (x y : Value) : Option Value :=
  match op, x, y with
  | .shl, .int k a, .int _ b => if 0 ≤ b then some (.int k (k.wrap (a * 2 ^ (min b.toNat k.bits)))) else none
  | .shr, .int k a, .int _ b => if 0 ≤ b then some (.int k (a.fdiv (2 ^ (min b.toNat k.bits)))) else none
  | op, .int k a, .int k' b => if k = k' then aIntOp op k a b else none
  | .add, .string a, .string b => if ((a.size + b.size : Nat) : Int) ≤ IntKind.i64.max then some (.string (a ++ b)) else none
  | .eql, .string a, .string b => some (.bool (a.toList == b.toList))
  | .neq, .string a, .string b => some (.bool (!(a.toList == b.toList)))
  | .lss, .string a, .string b => some (.bool (Op.bytesLess a.toList b.toList))
  | .leq, .string a, .string b => some (.bool (Op.bytesLess a.toList b.toList || a.toList == b.toList))
  | .gtr, .string a, .string b => some (.bool (!(Op.bytesLess a.toList b.toList || a.toList == b.toList)))
  | .geq, .string a, .string b => some (.bool (!(Op.bytesLess a.toList b.toList)))
  | .eql, .bool a, .bool b => (T t).bind fun i => match i.d with | .bool => some (.bool (a == b)) | _ => none
  | .neq, .bool a, .bool b => (T t).bind fun i => match i.d with | .bool => some (.bool (!(a == b))) | _ => none
  | .eql, .agg xs, .agg ys => (T t).bind fun i => if i.d.isAgg = true then i.flat.bind fun ks => (listEq ks xs.toList ys.toList).map .bool else none
  | .neq, .agg xs, .agg ys => (T t).bind fun i => if i.d.isAgg = true then i.flat.bind fun ks => (listEq ks xs.toList ys.toList).map fun b => .bool (!b) else none
  | .eql, .slice (some _) n _, .slice none _ _ => (T t).bind fun i => match i.d with | .slice _ => if 0 < n then some (.bool false) else none | _ => none
  | .neq, .slice (some _) n _, .slice none _ _ => (T t).bind fun i => match i.d with | .slice _ => if 0 < n then some (.bool true) else none | _ => none
  | .eql, .slice none _ _, .slice none _ _ => (T t).bind fun i => match i.d with | .slice _ => some (.bool true) | _ => none
  | .neq, .slice none _ _, .slice none _ _ => (T t).bind fun i => match i.d with | .slice _ => some (.bool false) | _ => none
  | .eql, .nilIface, .nilIface => if c = true then (T t).bind fun i => match i.d with | .iface => some (.bool true) | _ => none else none
  | .neq, .nilIface, .nilIface => if c = true then (T t).bind fun i => match i.d with | .iface => some (.bool false) | _ => none else none
  | .eql, .iface _ _, .nilIface => (T t).bind fun i => match i.d with | .iface => some (.bool false) | _ => none
  | .neq, .iface _ _, .nilIface => (T t).bind fun i => match i.d with | .iface => some (.bool true) | _ => none
  | _, _, _ => none

def aUn (op : UnOp) (x : Value) : Option Value :=
  match op, x with
  | .neg, .int k n => some (.int k (k.wrap (0 - n)))
  | .not, .bool b => some (.bool !b)
  | _, _ => none

def aLen (x : Value) : Option Value :=
  match x with
  | .string s => some (.int .i64 s.size)
  | .slice _ n _ => some (.int .i64 n)
  | _ => none


def eParts (e : Env) : List (Nat × Operand) → Option (List (Nat × Value))
  | [] => some []
  | (i, x) :: r => (eo e x).bind fun v => (eParts e r).map fun vs => (i, v) :: vs

def eOps (e : Env) : List Operand → Option (List Value)
  | [] => some []
  | x :: r => (eo e x).bind fun v => (eOps e r).map fun vs => v :: vs

def oOpt (e : Env) : Option Operand → Option (Option Value)
  | none => some none
  | some x => (eo e x).map some

def aFill (place : Nat → Option (Nat × Nat)) (cells : List Value) : List (Nat × Value) → Option (List Value)
  | [] => some cells
  | (i, v) :: rest => (place i).bind fun p => if v.cells.size = p.2 ∧ p.1 + v.cells.size ≤ cells.length then aFill place (splice cells p.1 v.cells.toList) rest else none

def aBuild (T : TT) (t : TypeId) (ps : List (Nat × Value)) : Option Value :=
  (T t).bind fun i =>
    match i.d with
    | .struct fs => if fs.all (fun x => (T x.2).isSome) = true then (aFill (fun j => (fs[j]?).bind fun x => (T x.2).map fun q => (x.1, q.size)) i.zv.cells.toList ps).map fun cs => .agg cs.toArray else none
    | .arr _ el => (T el).bind fun q => (aFill (fun j => some (j * q.size, q.size)) i.zv.cells.toList ps).map fun cs => .agg cs.toArray
    | _ => none

/-- n zero values side by side. -/
def zcells (zc : List Value) (n : Nat) : List Value := (List.range (n * zc.length)).map fun i => zc.getD (i % zc.length) undef

def aBuildSlice (T : TT) (t : TypeId) (len : Nat) (ps : List (Nat × Value)) (h : Heap) : Option (Value × Heap) :=
  (T t).bind fun i =>
    match i.d with
    | .slice el => (T el).bind fun q => if 0 < q.size ∧ len * q.size ≤ 2 ^ 24 then
        (aFill (fun j => some (j * q.size, q.size)) (zcells q.zv.cells.toList len) ps).map fun cs => (.slice (some ⟨h.length, 0, none⟩) len q.size, h ++ [some ⟨cs, true⟩]) else none
    | _ => none

def aMakeSlice (T : TT) (t : TypeId) (l c : Value) (h : Heap) : Option (Value × Heap) :=
  (T t).bind fun i =>
    match i.d, l, c with
    | .slice el, .int _ l, .int _ c => (T el).bind fun q => if 0 < q.size ∧ 0 < q.bytes ∧ 0 ≤ l ∧ l ≤ c ∧ c * q.bytes ≤ 2 ^ 47 then
        some (.slice (some ⟨h.length, 0, none⟩) l.toNat q.size, h ++ [some ⟨zcells q.zv.cells.toList l.toNat, true⟩]) else none
    | _, _, _ => none

def aSliceOf (T : TT) (t : TypeId) (x : Value) (lo hi mx : Option Value) : Option Value :=
  (T t).bind fun i =>
    match i.d, x, mx with
    | .str, .string s, none =>
      match lo, hi with
      | none, none => some (.string (s.extract 0 s.size))
      | some (.int _ l), none => if 0 ≤ l ∧ l ≤ s.size then some (.string (s.extract l.toNat s.size)) else none
      | none, some (.int _ u) => if 0 ≤ u ∧ u ≤ s.size then some (.string (s.extract 0 u.toNat)) else none
      | some (.int _ l), some (.int _ u) => if 0 ≤ l ∧ l ≤ u ∧ u ≤ s.size then some (.string (s.extract l.toNat u.toNat)) else none
      | _, _ => none
    | .slice el, .slice (some a) n z, none => (T el).bind fun q => if a.spot = none ∧ z = q.size then
      match lo, hi with
      | none, none => some (.slice (some a) n z)
      | some (.int _ l), none => if 0 ≤ l ∧ l ≤ n then some (.slice (some ⟨a.block, a.off + l.toNat * z, none⟩) (n - l.toNat) z) else none
      | none, some (.int _ u) => if 0 ≤ u ∧ u ≤ n then some (.slice (some a) u.toNat z) else none
      | some (.int _ l), some (.int _ u) => if 0 ≤ l ∧ l ≤ u ∧ u ≤ n then some (.slice (some ⟨a.block, a.off + l.toNat * z, none⟩) (u.toNat - l.toNat) z) else none
      | _, _ => none else none
    | .slice el, .slice (some a) _ _, some (.int _ 0) => (T el).bind fun _ => if a.spot = none then
      match lo, hi with
      | none, some (.int _ 0) => some (.slice (some a) 0 0)
      | some (.int _ 0), some (.int _ 0) => some (.slice (some a) 0 0)
      | _, _ => none else none
    | _, _, _ => none

def aPart (i : TI) (cs : List Value) (off : Nat) : Option Value :=
  match i.d with
  | .arr .. | .struct _ => some (.agg ((cs.drop off).take i.size).toArray)
  | .other => none
  | _ => cs[off]?

def aIndex (T : TT) (t : TypeId) (x ix : Value) : Option Value :=
  (T t).bind fun i =>
    match i.d, x, ix with
    | .arr n el, .agg cs, .int _ k => (T el).bind fun q => if 0 ≤ k ∧ k < n then aPart q cs.toList (k.toNat * q.size) else none
    | .str, .string s, .int _ k => if 0 ≤ k then (s.data.toList[k.toNat]?).map fun b => .int .u8 b.toNat else none
    | _, _, _ => none

def aFieldV (T : TT) (t : TypeId) (x : Value) (f : Nat) : Option Value :=
  (T t).bind fun i =>
    match i.d, x with
    | .struct fs, .agg cs => (fs[f]?).bind fun y => (T y.2).bind fun q => aPart q cs.toList y.1
    | _, _ => none

def aAssert (T : TT) (x : Value) (t : TypeId) (ok : Bool) : Option Value :=
  (T t).bind fun i =>
    match i.d, x with
    | .iface, _ | .other, _ => none
    | _, .iface u v => if u = t then some (if ok then .tuple #[v, .bool true] else v) else if ok then some (.tuple #[i.zv, .bool false]) else none
    | _, .nilIface => if ok then some (.tuple #[i.zv, .bool false]) else none
    | _, _ => none

def aConv (T : TT) (src dst : TypeId) (x : Value) : Option Value :=
  (T src).bind fun i => (T dst).bind fun j =>
    match i.d, j.d, x with
    | .int _, .int k, .int _ n => some (.int k (k.wrap n))
    | .str, .str, .string s => some (.string s)
    | _, _, _ => none

def cellsOf (h : Heap) (q : Nat) : Value → Option (List Value)
  | .slice none _ _ => some []
  | .slice (some a) n z => if n = 0 then some [] else if z = q ∧ a.spot = none then readCells h a (n * q) else none
  | .string s => some (s.data.toList.map fun b => .int .u8 b.toNat)
  | _ => none

def isStr : Value → Bool
  | .string _ => true
  | _ => false

/-- append: the old block is forgotten, the new one has a number of its own. -/
def aAppend (T : TT) (n0 : Nat) (t u : TypeId) (s x : Value) (h : Heap) : Option (Value × Heap) :=
  (T t).bind fun i => (T u).bind fun ui =>
    match i.d, ui.d with
    | .slice _, .int _ => none
    | .slice _, .other => none
    | .slice el, _ => (T el).bind fun q => if 0 < q.size ∧ 0 < q.bytes ∧ q.bytes ≤ 2 ^ 20 then
      (cellsOf h q.size x).bind fun xs => if xs.length % q.size = 0 ∧ (isStr x = true → q.size = 1) ∧ xs.all Value.oneCell' = true then
        match s with
        | .slice none _ _ => if xs.length = 0 then some (s, h) else
            if xs.length / q.size * q.bytes ≤ 2 ^ 46 then some (.slice (some ⟨h.length, 0, none⟩) (xs.length / q.size) q.size, h ++ [some ⟨xs, true⟩]) else none
        | .slice (some a) n z =>
            if z = 0 ∧ n = 0 then
              if xs.length = 0 then some (s, h) else
              if xs.length / q.size * q.bytes ≤ 2 ^ 46 then some (.slice (some ⟨h.length, 0, none⟩) (xs.length / q.size) q.size, h ++ [some ⟨xs, true⟩]) else none
            else
              match hblk h a.block with
              | some b => if b.own = true ∧ n0 ≤ a.block ∧ a.spot = none ∧ z = q.size ∧ a.off + n * q.size = b.cells.length ∧ (n + xs.length / q.size) * q.bytes ≤ 2 ^ 46 then
                  some (.slice (some ⟨h.length, 0, none⟩) (n + xs.length / q.size) q.size, h.set a.block none ++ [some ⟨b.cells.drop a.off ++ xs, true⟩]) else none
              | none => none
        | _ => none
      else none else none
    | _, _ => none

/-- The value of an operation that draws nothing, calls nothing; and the heap behind it. -/
def aOp (T : TT) (n0 : Nat) (e : Env) (h : Heap) : Op → Option (Value × Heap)
  | .move x => (eo e x).map fun v => (v, h)
  | .assign x => (eo e x).map fun v => (v, h)
  | .pick c a b => (eo e c).bind fun cv => match cv with | .bool t => if t then (eo e a).map fun v => (v, h) else (eo e b).map fun v => (v, h) | _ => none
  | .alloc t => (T t).map fun i => allocB h i.zv.cells.toList
  | .box _ x => (eo e x).map fun v => allocB h v.cells.toList
  | .load t x => (eo e x).bind fun p => (aLoad T t p h).map fun v => (v, h)
  | .store t x y => (eo e x).bind fun p => (eo e y).bind fun v => (aStore T t p v h).map fun h' => (undef, h')
  | .nilCheck x => (eo e x).bind fun p => match p with | .pointer (some a) => some (.pointer (some a), h) | .func (.func f) xs ys => some (.func (.func f) xs ys, h) | _ => none
  | .binOp op t x y _ => (eo e x).bind fun a => (eo e y).bind fun b => (aBin T (isCst x || isCst y) op t a b).map fun v => (v, h)
  | .unOp op _ x => (eo e x).bind fun a => (aUn op a).map fun v => (v, h)
  | .fieldAddr s x f => (eo e x).bind fun p => (aField T s p f).map fun v => (v, h)
  | .indexAddr t x ix => (eo e x).bind fun p => (eo e ix).bind fun k => (aIndexAddr T t p k).map fun v => (v, h)
  | .makeInterface t x => (eo e x).bind fun v => (T t).bind fun i => match i.d with | .iface | .other => none | _ => some (.iface t v, h)
  | .extract x k => (eo e x).bind fun v => match v with | .tuple vs => (vs.toList[k]?).map fun u => (u, h) | _ => none
  | .call { callee := .builtin .len, args, argTypes } =>
    match args.toList, argTypes.toList with
    | [x], [t] => (eo e x).bind fun v => (T t).bind fun i => match i.d, v with
      | .str, .string s => some (.int .i64 s.size, h)
      | .slice _, .slice _ n _ => some (.int .i64 n, h)
      | _, _ => none
    | _, _ => none
  | .build t ps => (eParts e ps.toList).bind fun vs => (aBuild T t vs).map fun v => (v, h)
  | .buildSlice t n ps => (eParts e ps.toList).bind fun vs => aBuildSlice T t n vs h
  | .makeSlice t l c => (eo e l).bind fun l => (eo e c).bind fun c => aMakeSlice T t l c h
  | .slice t x lo hi mx => (eo e x).bind fun x =>
    (oOpt e lo).bind fun lo => (oOpt e hi).bind fun hi => (oOpt e mx).bind fun mx => (aSliceOf T t x lo hi mx).map fun v => (v, h)
  | .index t x ix => (eo e x).bind fun x => (eo e ix).bind fun k => (aIndex T t x k).map fun v => (v, h)
  | .field t x f => (eo e x).bind fun x => (aFieldV T t x f).map fun v => (v, h)
  | .typeAssert x _ t ok => (eo e x).bind fun x => (aAssert T x t ok).map fun v => (v, h)
  | .convert s d x => (eo e x).bind fun x => (aConv T s d x).map fun v => (v, h)
  | .makeFunc (.func f) xs ys => (eOps e xs.toList).bind fun xs => (eOps e ys.toList).map fun ys => (.func (.func f) xs.toArray ys.toArray, h)
  | .call { callee := .builtin .append, args, argTypes } =>
    match args.toList, argTypes.toList with
    | [s, x], [t, u] => (eo e s).bind fun s => (eo e x).bind fun x => aAppend T n0 t u s x h
    | _, _ => none
  | .call { callee := .builtin .max, args, .. } =>
    match args.toList with
    | [x, y] => (eo e x).bind fun x => (eo e y).bind fun y => match x, y with | .int k a, .int k' b => if k = k' then some (.int k (if b > a then b else a), h) else none | _, _ => none
    | _ => none
  | .call { callee := .builtin .min, args, .. } =>
    match args.toList with
    | [x, y] => (eo e x).bind fun x => (eo e y).bind fun y => match x, y with | .int k a, .int k' b => if k = k' then some (.int k (if b < a then b else a), h) else none | _, _ => none
    | _ => none
  | _ => none

end Go.Ab

namespace Go.Ab

theorem r_typeInfo {P : Program} {w : World} {t : TypeId} {i : TypeInfo} (h : P.info? t = some i) : (typeInfo t).run P w = .ok i w := by simp [typeInfo, h]
theorem r_underlying {P : Program} {w : World} {t : TypeId} {d : TypeDesc} (h : P.underlying t = some d) : (underlying t).run P w = .ok d w := by simp [underlying, h]
theorem r_sizeOf {P : Program} {w : World} {t : TypeId} {i : TI} (h : i.ok P t) : (sizeOf t).run P w = .ok i.size w := by
  obtain ⟨inf, h1, h2, _⟩ := h.info
  simp [sizeOf, r_typeInfo h1, h2]
theorem r_zero {P : Program} {w : World} {t : TypeId} {i : TI} (h : i.ok P t) : (zeroValue t).run P w = .ok i.zv w := by
  obtain ⟨inf, h1, _, _, h4⟩ := h.info
  simp [zeroValue, r_typeInfo h1, h4]
theorem r_isAgg {P : Program} {w : World} {t : TypeId} {i : TI} (h : i.ok P t) (ho : i.d.isAgg = true) : (isAgg t).run P w = .ok true w := by
  have := h.d
  cases hd : i.d <;> rw [hd] at ho this <;> simp [TD.isAgg] at ho
  · simp [isAgg, r_underlying this]
  · obtain ⟨fields, hf, _⟩ := this
    simp [isAgg, r_underlying hf]
theorem r_isAgg_no {P : Program} {w : World} {t : TypeId} {i : TI} (h : i.ok P t) (ho : i.d.isAgg = false) (hx : ∀ (_ : i.d = .other), False) : (isAgg t).run P w = .ok false w := by
  have := h.d
  cases hd : i.d <;> rw [hd] at ho this <;> simp [TD.isAgg] at ho
  case other => exact (hx hd).elim
  case bool => simp [isAgg, r_underlying (show P.underlying t = some .bool from this)]
  case int k => simp [isAgg, r_underlying (show P.underlying t = some (.int k) from this)]
  case str => simp [isAgg, r_underlying (show P.underlying t = some .string from this)]
  case ptr => obtain ⟨e, he⟩ := this; simp [isAgg, r_underlying he]
  case slice e => simp [isAgg, r_underlying (show P.underlying t = some (.slice e) from this)]
  case iface => obtain ⟨e, he⟩ := this; simp [isAgg, r_underlying he]
  case func => obtain ⟨x, y, z, he⟩ := this; simp [isAgg, r_underlying he]

/-- What an operation comes to. -/
def OpOut (n0 B0 : Nat) (m : Map) (h : Heap) (w : World) (r : Result Next) (v : Value) (h' : Heap) : Prop :=
  ∃ m' v' w', (r = .ok (.value v') w' ∨ (r = .ok .skip w' ∧ v' = undef)) ∧ VRel m' v v' ∧ Map.le m m' ∧ Tr n0 B0 m h w m' h' w'

theorem OpOut.same {n0 B0 : Nat} {m : Map} {h : Heap} {w : World} {r : Result Next} {v v' : Value} (s : St n0 B0 m h w) (hr : r = .ok (.value v') w) (hv : VRel m v v') : OpOut n0 B0 m h w r v h :=
  ⟨m, v', w, .inl hr, hv, fun _ _ x => x, Tr.refl s⟩

section
variable {P : Program} {T : TT} {n0 B0 : Nat} {m : Map} {h h' : Heap} {w : World} {e : Env} {a : Act} {v : Value}

theorem VRels.of_cells {v v' : Value} (hv : VRel m v v') : VRels m v.cells.toList v'.cells.toList := by
  cases hv with
  | agg xs xs' h1 h2 => exact ⟨h1, h2⟩
  | bool b => exact VRels.cons (.bool b) (VRels.nil _)
  | int k n => exact VRels.cons (.int k n) (VRels.nil _)
  | string s => exact VRels.cons (.string s) (VRels.nil _)
  | pnil => exact VRels.cons .pnil (VRels.nil _)
  | ptr i o L hL hp => exact VRels.cons (.ptr i o L hL hp) (VRels.nil _)
  | snil => exact VRels.cons .snil (VRels.nil _)
  | slice i o n z c L hL hn hz hc hp => exact VRels.cons (.slice i o n z c L hL hn hz hc hp) (VRels.nil _)
  | sliceNil i o z => exact VRels.cons (.sliceNil i o z) (VRels.nil _)
  | slice0 i o z a => exact VRels.cons (.slice0 i o z a) (VRels.nil _)
  | mapNil => exact VRels.cons .mapNil (VRels.nil _)
  | mapRef i L hL hp => exact VRels.cons (.mapRef i L hL hp) (VRels.nil _)
  | nilFunc => exact VRels.cons .nilFunc (VRels.nil _)
  | nilIface => exact VRels.cons .nilIface (VRels.nil _)
  | yld l => exact VRels.cons (.yld l) (VRels.nil _)
  | func f xs ys xs' ys' h1 h2 h3 h4 => exact VRels.cons (.func f xs ys xs' ys' h1 h2 h3 h4) (VRels.nil _)
  | iface t v v' h => exact VRels.cons (.iface t v v' h) (VRels.nil _)
  | tuple xs xs' h1 h2 => exact VRels.cons (.tuple xs xs' h1 h2) (VRels.nil _)

theorem VRel.cells_size {v v' : Value} (hv : VRel m v v') : v'.cells.size = v.cells.size := by
  have := (VRels.of_cells hv).1; simpa using this.symm

theorem VRel.one {v v' : Value} (hv : VRel m v v') : v'.oneCell' = v.oneCell' := by cases hv <;> rfl

theorem VRels.get {xs xs' : List Value} (hv : VRels m xs xs') {j : Nat} {v : Value} (hj : xs[j]? = some v) : ∃ v', xs'[j]? = some v' ∧ VRel m v v' := by
  have h1 := (List.getElem?_eq_some_iff.1 hj).1
  have h2 : j < xs'.length := by rw [← hv.1]; exact h1
  exact ⟨xs'[j], List.getElem?_eq_getElem h2, hv.2 j v _ hj (List.getElem?_eq_getElem h2)⟩

/-- A new block, of the cells that a list is related to. -/
theorem Tr.allocL (s : St n0 B0 m h w) {vs vs' : List Value} (hv : VRels m vs vs') (el : TypeId) (own : Bool := true) :
    Tr n0 B0 m h w (m ++ [some ⟨w.heap.size, 0, vs.length, false⟩]) (h ++ [some ⟨vs, own⟩]) (w.alloc (.cells vs'.toArray el (0, 0))) :=
  Tr.alloc s own (fun j v hj => by obtain ⟨v', a, b⟩ := hv.get hj; exact ⟨v', by simpa using a, b⟩) (Nat.le_refl _) (by simp [hv.1])

theorem ptr_new (s : St n0 B0 m h w) (ext : Nat) : VRel (m ++ [some ⟨w.heap.size, 0, ext, false⟩]) (.pointer (some ⟨h.length, 0, none⟩)) (.pointer (some ⟨w.heap.size, 0, none⟩)) := by
  have := VRel.ptr (m := m ++ [some ⟨w.heap.size, 0, ext, false⟩]) h.length 0 ⟨w.heap.size, 0, ext, false⟩ (mloc_append_new s.rel.len.symm) rfl
  simpa using this

theorem sound_box (s : St n0 B0 m h w) (he : ERel m e a) {t : TypeId} {x : Operand} {o : Oper} (ho : o.op = .box t x) (hx : eo e x = some v) :
    OpOut n0 B0 m h w ((execOp a.eval o).run P w) (allocB h v.cells.toList).1 (allocB h v.cells.toList).2 := by
  have hv := VRels.of_cells (he.op hx)
  refine ⟨_, .pointer (some ⟨w.heap.size, 0, none⟩), _, .inl ?_, ptr_new s v.cells.toList.length, mloc_append _ _, Tr.allocL s hv t⟩
  simp [execOp, ho, Instr.box, newVar, newRow]

theorem sound_alloc (hT : TT.ok P T) (s : St n0 B0 m h w) {t : TypeId} {i : TI} {o : Oper} (ho : o.op = .alloc t) (hi : T t = some i) :
    OpOut n0 B0 m h w ((execOp a.eval o).run P w) (allocB h i.zv.cells.toList).1 (allocB h i.zv.cells.toList).2 := by
  have hk := hT t i hi
  have hv := VRels.of_cells (VRel.of_plain m i.zv hk.zp)
  refine ⟨_, .pointer (some ⟨w.heap.size, 0, none⟩), _, .inl ?_, ptr_new s i.zv.cells.toList.length, mloc_append _ _, Tr.allocL s hv t⟩
  simp [execOp, ho, Instr.alloc, newVar, newRow, r_zero hk]

theorem VRel.ptr_inv {i o : Nat} {sp : Option Nat} {v' : Value} (hv : VRel m (.pointer (some ⟨i, o, sp⟩)) v') : ∃ L, mloc m i = some L ∧ sp = none ∧ v' = .pointer (some ⟨L.b, L.sh + o, none⟩) ∧ L.mp = false := by
  cases hv with
  | ptr i o L hL hp => exact ⟨L, hL, rfl, rfl, hp⟩

theorem sound_load (hT : TT.ok P T) (s : St n0 B0 m h w) (he : ERel m e a) {t : TypeId} {x : Operand} {o : Oper} {p : Value} (ho : o.op = .load t x) (hx : eo e x = some p)
    (hl : aLoad T t p h = some v) : OpOut n0 B0 m h w ((execOp a.eval o).run P w) v h := by
  unfold aLoad at hl
  obtain ⟨i, hi, hl⟩ := Option.bind_eq_some_iff.1 hl
  have hk := hT t i hi
  obtain ⟨q, rfl⟩ : ∃ q, p = .pointer q := by cases p <;> first | exact ⟨_, rfl⟩ | (simp at hl; done)
  cases q with
  | none => simp at hl
  | some ad =>
    simp only at hl
    obtain ⟨cs, hr, hc⟩ := Option.bind_eq_some_iff.1 hl
    obtain ⟨ib, io, isp⟩ := ad
    obtain ⟨L, hL, rfl, hev, hmp⟩ := (he.op hx).ptr_inv
    obtain ⟨vs', hrun, hrel, hlen, hcell⟩ := readCells_run (P := P) s.rel hr hL hmp
    unfold ofCells at hc
    by_cases hagg : i.d.isAgg = true
    · refine OpOut.same (v' := .agg vs'.toArray) s ?_ ?_
      · simp only [execOp, ho, Instr.loadAt, hev, Instr.sureAddr, loadVar, Sem.run_bind, Sem.run_pure, Result.andThen_ok, r_isAgg hk hagg, r_sizeOf hk, if_true, hrun]
      · have : v = .agg cs.toArray := by cases hd : i.d <;> rw [hd] at hc hagg <;> simp [TD.isAgg] at hagg <;> simpa using hc.symm
        subst this
        exact .agg _ _ hrel.1 hrel.2
    · have hagg' : i.d.isAgg = false := by simpa using hagg
      have hno : ∀ (_ : i.d = .other), False := fun hd => by rw [hd] at hc; simp at hc
      have hone : cs = [v] := by
        cases hd : i.d <;> rw [hd] at hc hagg' <;> simp [TD.isAgg] at hagg' <;> first | (simp at hc; done) | (rcases cs with _ | ⟨c, _ | ⟨d, r⟩⟩ <;> first | (simp at hc; done) | (simp at hc; rw [hc]))
      subst hone
      obtain ⟨v', r', rfl, hv1, hv2⟩ := hrel.cons_inv
      have := hv2.nil_inv
      subst this
      refine OpOut.same (v' := v') s ?_ hv1
      have hcell0 := hcell 0 v' rfl
      simp only [execOp, ho, Instr.loadAt, hev, Instr.sureAddr, loadVar, Sem.run_bind, Sem.run_pure, Result.andThen_ok, r_isAgg_no hk hagg' hno, Bool.false_eq_true, if_false, run_load]
      rw [Nat.add_zero] at hcell0
      simp [hcell0]

theorem sound_store (hT : TT.ok P T) (s : St n0 B0 m h w) (he : ERel m e a) {t : TypeId} {x y : Operand} {o : Oper} {p u : Value} (ho : o.op = .store t x y) (hx : eo e x = some p) (hy : eo e y = some u)
    (hl : aStore T t p u h = some h') : OpOut n0 B0 m h w ((execOp a.eval o).run P w) undef h' := by
  unfold aStore at hl
  obtain ⟨i, hi, hl⟩ := Option.bind_eq_some_iff.1 hl
  have hk := hT t i hi
  obtain ⟨q, rfl⟩ : ∃ q, p = .pointer q := by cases p <;> first | exact ⟨_, rfl⟩ | (simp at hl; done)
  cases q with
  | none => simp at hl
  | some ad =>
    simp only at hl
    split at hl
    case isFalse => cases hl
    case isTrue hc =>
      obtain ⟨hsz, hone⟩ := hc
      obtain ⟨ib, io, isp⟩ := ad
      obtain ⟨L, hL, rfl, hev, hmp⟩ := (he.op hx).ptr_inv
      have hu := he.op hy
      have hus := VRels.of_cells hu
      unfold writeCells at hl
      simp only at hl
      cases hb : hblk h ib with
      | none => simp [hb] at hl
      | some b =>
        simp only [hb] at hl
        split at hl
        case isFalse => cases hl
        case isTrue hd =>
          cases hl
          obtain ⟨d1, _, d3⟩ := hd
          have hone' : ∀ v ∈ (a.eval y).cells.toList, v.oneCell' = true := by
            intro v hv
            obtain ⟨j, hj⟩ := List.mem_iff_getElem?.1 hv
            have hjl : j < u.cells.toList.length := by rw [hus.1]; exact (List.getElem?_eq_some_iff.1 hj).1
            have h2 := hus.2 j _ _ (List.getElem?_eq_getElem hjl) hj
            rw [h2.one]
            exact List.all_eq_true.1 hone _ (List.getElem_mem hjl)
          obtain ⟨w', hrun, htr⟩ := Tr.store (P := P) s hb d1 hL d3 hus hone' hmp
          refine ⟨m, undef, w', .inr ⟨?_, rfl⟩, undef_rel _, fun _ _ x => x, htr⟩
          have hsz' : (a.eval y).cells.size = i.size := by rw [hu.cells_size, hsz]
          simp only [execOp, ho, Instr.storeAt, hev, Instr.sureAddr, storeVar, Sem.run_bind, Sem.run_pure, Result.andThen_ok, r_sizeOf hk, hsz', ne_eq, not_true_eq_false, if_false, hrun]

theorem addr_add (b o n : Nat) : (⟨b, o, none⟩ : Addr).add n = ⟨b, o + n, none⟩ := by
  unfold Addr.add; split
  · subst_vars; rfl
  · rfl

theorem sound_field (hT : TT.ok P T) (s : St n0 B0 m h w) (he : ERel m e a) {t : TypeId} {x : Operand} {f : Nat} {o : Oper} {p : Value} (ho : o.op = .fieldAddr t x f) (hx : eo e x = some p)
    (hl : aField T t p f = some v) : OpOut n0 B0 m h w ((execOp a.eval o).run P w) v h := by
  unfold aField at hl
  obtain ⟨i, hi, hl⟩ := Option.bind_eq_some_iff.1 hl
  have hk := hT t i hi
  cases hd : i.d <;> rw [hd] at hl <;> try (simp at hl; done)
  rename_i fs
  obtain ⟨q, rfl⟩ : ∃ q, p = .pointer q := by cases p <;> first | exact ⟨_, rfl⟩ | (simp at hl; done)
  cases q with
  | none => simp at hl
  | some ad =>
    simp only at hl
    obtain ⟨y, hf, hl⟩ := Option.bind_eq_some_iff.1 hl
    obtain ⟨j, hj, hl⟩ := Option.bind_eq_some_iff.1 hl
    split at hl
    case isFalse => cases hl
    case isTrue hc =>
      cases hl
      obtain ⟨ib, io, isp⟩ := ad
      obtain ⟨L, hL, rfl, hev, hmp⟩ := (he.op hx).ptr_inv
      have hdd := hk.d
      rw [hd] at hdd
      obtain ⟨fields, hu, hmap⟩ := hdd
      rw [← hmap, List.getElem?_map] at hf
      obtain ⟨fd, hfd, rfl⟩ := Option.map_eq_some_iff.1 hf
      have hkj := hT _ j hj
      have hfa : fields[f]? = some fd := by simpa using hfd
      refine OpOut.same (v' := .pointer (some ⟨L.b, L.sh + (io + fd.offset), none⟩)) s ?_ (.ptr _ _ L hL hmp)
      have hne : ¬ j.size = 0 := hc.2
      simp [execOp, ho, Instr.fieldAt, hev, Instr.sureAddr, r_underlying hu, hfa, fieldPlace, r_sizeOf hkj, hne, addr_add, Nat.add_assoc]

theorem sound_indexAddr (hT : TT.ok P T) (s : St n0 B0 m h w) (he : ERel m e a) {t : TypeId} {x y : Operand} {o : Oper} {p k : Value} (ho : o.op = .indexAddr t x y) (hx : eo e x = some p) (hy : eo e y = some k)
    (hl : aIndexAddr T t p k = some v) : OpOut n0 B0 m h w ((execOp a.eval o).run P w) v h := by
  unfold aIndexAddr at hl
  obtain ⟨i, hi, hl⟩ := Option.bind_eq_some_iff.1 hl
  have hk := hT t i hi
  have hdd := hk.d
  cases hd : i.d <;> rw [hd] at hl hdd <;> try (simp at hl; done)
  case slice el =>
    obtain ⟨q, n, z, rfl⟩ : ∃ q n z, p = .slice q n z := by cases p <;> first | exact ⟨_, _, _, rfl⟩ | (simp at hl; done)
    cases q with
    | none => simp at hl
    | some ad =>
      obtain ⟨kk, kn, rfl⟩ : ∃ kk kn, k = .int kk kn := by cases k <;> first | exact ⟨_, _, rfl⟩ | (simp at hl; done)
      simp only at hl
      obtain ⟨j, hj, hl⟩ := Option.bind_eq_some_iff.1 hl
      split at hl
      case isFalse => cases hl
      case isTrue hc =>
        cases hl
        obtain ⟨c1, c2, c3, c4⟩ := hc
        obtain ⟨ib, io, isp⟩ := ad
        simp only at c1; subst c1
        have hv := he.op hx
        have hkv := he.op hy
        have hkj := hT _ j hj
        generalize hxe : a.eval x = X at hv
        generalize hye : a.eval y = Y at hkv
        cases hkv
        cases hv with
        | slice i o n z c L hL hn hz hcc hmp =>
          refine OpOut.same (v' := .pointer (some ⟨L.b, L.sh + (io + kn.toNat * j.size), none⟩)) s ?_ (.ptr _ _ L hL hmp)
          have c3' : kn < (n : Int) := c3
          simp [execOp, ho, Instr.indexAt, hxe, hye, asIntOf, r_underlying (show P.underlying t = some (.slice el) from hdd), r_sizeOf hkj, c2, c3', addr_add, Nat.add_assoc]
        | sliceNil => omega
        | slice0 => omega
  case arr len el =>
    obtain ⟨q, rfl⟩ : ∃ q, p = .pointer q := by cases p <;> first | exact ⟨_, rfl⟩ | (simp at hl; done)
    cases q with
    | none => simp at hl
    | some ad =>
      obtain ⟨kk, kn, rfl⟩ : ∃ kk kn, k = .int kk kn := by cases k <;> first | exact ⟨_, _, rfl⟩ | (simp at hl; done)
      simp only at hl
      obtain ⟨j, hj, hl⟩ := Option.bind_eq_some_iff.1 hl
      split at hl
      case isFalse => cases hl
      case isTrue hc =>
        cases hl
        obtain ⟨c1, c2, c3⟩ := hc
        obtain ⟨ib, io, isp⟩ := ad
        obtain ⟨L, hL, rfl, hev, hmp⟩ := (he.op hx).ptr_inv
        have hkv := he.op hy
        have hkj := hT _ j hj
        generalize hye : a.eval y = Y at hkv
        cases hkv
        refine OpOut.same (v' := .pointer (some ⟨L.b, L.sh + (io + kn.toNat * j.size), none⟩)) s ?_ (.ptr _ _ L hL hmp)
        simp [execOp, ho, Instr.indexAt, hev, hye, asIntOf, Instr.sureAddr, r_underlying (show P.underlying t = some (.array len el) from hdd), r_sizeOf hkj, c2, c3, addr_add, Nat.add_assoc]

end
end Go.Ab

namespace Go.Ab

def valOf (P : Program) (t : TypeId) (cs : List Value) : Value :=
  match P.underlying t with
  | some (.struct _) | some (.array _ _) => .agg cs.toArray
  | _ => cs.headD undef

theorem listEq_len : ∀ (ks : List SK) (xs ys : List Value) (b : Bool), listEq ks xs ys = some b → xs.length = ks.length ∧ ys.length = ks.length := by
  intro ks
  induction ks with
  | nil => intro xs ys b h; cases xs <;> cases ys <;> simp [listEq] at h ⊢
  | cons k ks ih =>
    intro xs ys b h
    cases xs with
    | nil => simp [listEq] at h
    | cons x xs =>
      cases ys with
      | nil => simp [listEq] at h
      | cons y ys =>
        simp only [listEq] at h
        obtain ⟨p, _, h⟩ := Option.bind_eq_some_iff.1 h
        obtain ⟨q, hq, _⟩ := Option.map_eq_some_iff.1 h
        have := ih xs ys q hq
        simp; omega

theorem listEq_append : ∀ (k1 k2 : List SK) (xs ys : List Value) (b : Bool), listEq (k1 ++ k2) xs ys = some b →
    ∃ p q, listEq k1 (xs.take k1.length) (ys.take k1.length) = some p ∧ listEq k2 (xs.drop k1.length) (ys.drop k1.length) = some q ∧ b = (p && q) := by
  intro k1
  induction k1 with
  | nil => intro k2 xs ys b h; exact ⟨true, b, by simp [listEq], by simpa using h, by simp⟩
  | cons k k1 ih =>
    intro k2 xs ys b h
    cases xs with
    | nil => simp [listEq] at h
    | cons x xs =>
      cases ys with
      | nil => simp [listEq] at h
      | cons y ys =>
        simp only [List.cons_append, listEq] at h
        obtain ⟨p, hp, h⟩ := Option.bind_eq_some_iff.1 h
        obtain ⟨q, hq, rfl⟩ := Option.map_eq_some_iff.1 h
        obtain ⟨p', q', h1, h2, rfl⟩ := ih k2 xs ys q hq
        exact ⟨p && p', q', by simp [listEq, hp, h1], by simpa using h2, by simp [Bool.and_assoc]⟩

section
variable {P : Program}

theorem flatK_len {d : Nat} {t : TypeId} {ks : List SK} (hf : flatK P d t = some ks) : P.cellsOf t = ks.length := by
  cases d with
  | zero => simp [flatK] at hf
  | succ d =>
    cases hu : P.underlying t with
    | none => simp [flatK, hu] at hf
    | some u =>
      cases u <;> simp only [flatK, hu] at hf
      case bool => split at hf <;> simp at hf; subst hf; simpa
      case int => split at hf <;> simp at hf; subst hf; simpa
      case string => split at hf <;> simp at hf; subst hf; simpa
      case array n e =>
        obtain ⟨k', _, hf⟩ := Option.bind_eq_some_iff.1 hf
        split at hf
        · rename_i hc; cases hf; simp [hc.2]
        · cases hf
      case struct fields =>
        split at hf
        · cases hf
        · obtain ⟨k', _, hf⟩ := Option.bind_eq_some_iff.1 hf
          split at hf
          · cases hf; assumption
          · cases hf
      all_goals (simp at hf)

theorem r_part {d : Nat} {w : World} {t : TypeId} {ks : List SK} (hf : flatK P d t = some ks) {xs : List Value} {off : Nat} (hl : off + ks.length ≤ xs.length) :
    (part t xs.toArray off).run P w = .ok (valOf P t ((xs.drop off).take ks.length)) w := by
  have hk := flatK_len hf
  cases d with
  | zero => simp [flatK] at hf
  | succ d =>
    cases hu : P.underlying t with
    | none => simp [flatK, hu] at hf
    | some u =>
      obtain ⟨i, hi⟩ := info_of_underlying hu
      have hone : ks.length = 1 → (xs.toArray[off]? = some ((xs.drop off).headD undef)) ∧ ((xs.drop off).take 1).headD undef = (xs.drop off).headD undef := by
        intro h1
        have : off < xs.length := by omega
        constructor
        · simp [List.headD_eq_head?_getD, List.head?_drop, this]
        · cases xs.drop off <;> rfl
      cases u <;> simp only [flatK, hu] at hf
      case bool =>
        split at hf <;> simp at hf
        subst hf
        obtain ⟨a1, a2⟩ := hone rfl
        simp only [part, isAgg, Sem.run_bind, run_underlying hu, Result.andThen_ok, Sem.run_pure, Bool.false_eq_true, if_false, a1, valOf, hu, List.length_cons, List.length_nil, Nat.zero_add, a2]
      case int =>
        split at hf <;> simp at hf
        subst hf
        obtain ⟨a1, a2⟩ := hone rfl
        simp only [part, isAgg, Sem.run_bind, run_underlying hu, Result.andThen_ok, Sem.run_pure, Bool.false_eq_true, if_false, a1, valOf, hu, List.length_cons, List.length_nil, Nat.zero_add, a2]
      case string =>
        split at hf <;> simp at hf
        subst hf
        obtain ⟨a1, a2⟩ := hone rfl
        simp only [part, isAgg, Sem.run_bind, run_underlying hu, Result.andThen_ok, Sem.run_pure, Bool.false_eq_true, if_false, a1, valOf, hu, List.length_cons, List.length_nil, Nat.zero_add, a2]
      case array =>
        simp only [part, isAgg, Sem.run_bind, run_underlying hu, Result.andThen_ok, Sem.run_pure, if_true, run_sizeOf w hi, valOf, hu, hk]
        congr 2
        apply Array.ext'
        simp [List.extract_eq_take_drop]
      case struct =>
        simp only [part, isAgg, Sem.run_bind, run_underlying hu, Result.andThen_ok, Sem.run_pure, if_true, run_sizeOf w hi, valOf, hu, hk]
        congr 2
        apply Array.ext'
        simp [List.extract_eq_take_drop]
      all_goals (simp at hf)

/-- The fields, one behind the other. -/
theorem eqFields_flat {d : Nat} (ih : ∀ (t : TypeId) (ks : List SK) (xs ys : List Value) (b : Bool), flatK P d t = some ks → listEq ks xs ys = some b → ∀ w, (Op.equalIn d t (valOf P t xs) (valOf P t ys)).run P w = .ok b w)
    (xs ys : List Value) (w : World) : ∀ (fs : List Field) (acc ks : List SK) (b : Bool), flatFs (flatK P d) P.cellsOf fs acc = some ks → listEq (ks.drop acc.length) (xs.drop acc.length) (ys.drop acc.length) = some b →
      acc.length ≤ ks.length ∧ (ks.take acc.length = acc → xs.length = ks.length → ys.length = ks.length → (Op.eqFields d xs.toArray ys.toArray fs).run P w = .ok b w) := by
  intro fs
  induction fs with
  | nil =>
    intro acc ks b hf he
    simp only [flatFs, Option.some.injEq] at hf
    subst hf
    refine ⟨Nat.le_refl _, fun _ hx hy => ?_⟩
    rw [List.drop_length] at he
    have h1 : xs.drop acc.length = [] := by apply List.drop_eq_nil_of_le; omega
    have h2 : ys.drop acc.length = [] := by apply List.drop_eq_nil_of_le; omega
    rw [h1, h2] at he
    simp [listEq] at he
    subst he
    simp [Op.eqFields]
  | cons f fs ihf =>
    intro acc ks b hf he
    simp only [flatFs] at hf
    split at hf
    case isFalse => cases hf
    case isTrue hc =>
      obtain ⟨k1, hk1, hf⟩ := Option.bind_eq_some_iff.1 hf
      split at hf
      case isFalse => cases hf
      case isTrue hsz =>
        -- what the rest of the fields makes begins with acc ++ k1
        have pre : ∀ (fs : List Field) (acc ks : List SK), flatFs (flatK P d) P.cellsOf fs acc = some ks → ∃ r, ks = acc ++ r := by
          intro fs
          induction fs with
          | nil => intro acc ks h; simp only [flatFs, Option.some.injEq] at h; exact ⟨[], by simp [h]⟩
          | cons g gs ihg =>
            intro acc ks h
            simp only [flatFs] at h
            split at h
            · obtain ⟨k2, _, h⟩ := Option.bind_eq_some_iff.1 h
              split at h
              · obtain ⟨r, rfl⟩ := ihg _ _ h; exact ⟨k2 ++ r, by simp⟩
              · cases h
            · cases h
        obtain ⟨r, rfl⟩ := pre _ _ _ hf
        simp only [List.append_assoc, List.drop_left] at he
        obtain ⟨p, q, e1, e2, rfl⟩ := listEq_append k1 r _ _ b he
        have hrec := ihf (acc ++ k1) (acc ++ k1 ++ r) q hf (by simpa [List.drop_drop] using e2)
        refine ⟨by simp, fun _ hx hy => ?_⟩
        have hrec' := hrec.2 List.take_left hx hy
        simp only [List.length_append] at hx hy
        simp only [Op.eqFields, hc.1]
        have p1 := r_part (w := w) hk1 (xs := xs) (off := acc.length) (by omega)
        have p2 := r_part (w := w) hk1 (xs := ys) (off := acc.length) (by omega)
        have p3 := ih f.type k1 _ _ p hk1 e1 w
        simp only [ne_eq, hc.2, not_false_eq_true, if_true, Sem.run_bind, p1, p2, p3, Result.andThen_ok]
        cases p
        · simp
        · simpa using hrec'

theorem forIn_flat {d : Nat} (ih : ∀ (t : TypeId) (ks : List SK) (xs ys : List Value) (b : Bool), flatK P d t = some ks → listEq ks xs ys = some b → ∀ w, (Op.equalIn d t (valOf P t xs) (valOf P t ys)).run P w = .ok b w)
    (el : TypeId) (ks : List SK) (hk : flatK P d el = some ks) (xs ys : List Value) (w : World) : ∀ (n s : Nat) (b : Bool), xs.length = (s + n) * ks.length → ys.length = (s + n) * ks.length →
      listEq (List.replicate n ks).flatten (xs.drop (s * ks.length)) (ys.drop (s * ks.length)) = some b →
      ∃ r, (forIn (m := Sem) (List.range' s n) ((none : Option Bool), ()) fun i _ => do
        if !(← Op.equalIn d el (← part el xs.toArray (i * ks.length)) (← part el ys.toArray (i * ks.length))) then pure (ForInStep.done (some false, ())) else pure (ForInStep.yield (none, ()))).run P w = .ok r w ∧ (match r.1 with | none => true | some a => a) = b ∧ (r.1 = none ∨ r.1 = some false) := by
  intro n
  induction n with
  | zero =>
    intro s b hx hy he
    simp only [List.replicate_zero, List.flatten_nil] at he
    rw [List.drop_eq_nil_of_le (by simp [hx]), List.drop_eq_nil_of_le (by simp [hy])] at he
    simp [listEq] at he
    subst he
    exact ⟨(none, ()), by simp, rfl, .inl rfl⟩
  | succ n ihn =>
    intro s b hx hy he
    rw [List.replicate_succ, List.flatten_cons] at he
    obtain ⟨p, q, e1, e2, rfl⟩ := listEq_append ks _ _ _ b he
    have hb : s * ks.length + ks.length ≤ (s + (n + 1)) * ks.length := by
      rw [show s * ks.length + ks.length = (s + 1) * ks.length by rw [Nat.add_mul]; omega]
      exact Nat.mul_le_mul_right _ (by omega)
    have p1 := r_part (w := w) hk (xs := xs) (off := s * ks.length) (by omega)
    have p2 := r_part (w := w) hk (xs := ys) (off := s * ks.length) (by omega)
    have p3 := ih el ks _ _ p hk e1 w
    have hmul : s * ks.length + ks.length = (s + 1) * ks.length := by rw [Nat.add_mul]; omega
    rw [List.drop_drop, List.drop_drop, hmul] at e2
    obtain ⟨r, hr, hrb, hrn⟩ := ihn (s + 1) q (by rw [hx]; congr 1; omega) (by rw [hy]; congr 1; omega) e2
    cases p
    · refine ⟨(some false, ()), ?_, by simp, .inr rfl⟩
      simp only [List.range'_succ, List.forIn_cons, Sem.run_bind, p1, p2, p3, Result.andThen_ok]
      simp
    · refine ⟨r, ?_, by simpa using hrb, hrn⟩
      simp only [List.range'_succ, List.forIn_cons, Sem.run_bind, p1, p2, p3, Result.andThen_ok]
      simpa using hr

theorem equalIn_flat : ∀ (d : Nat) (t : TypeId) (ks : List SK) (xs ys : List Value) (b : Bool), flatK P d t = some ks → listEq ks xs ys = some b →
    ∀ w, (Op.equalIn d t (valOf P t xs) (valOf P t ys)).run P w = .ok b w := by
  intro d
  induction d with
  | zero => intro t ks xs ys b hf; simp [flatK] at hf
  | succ d ih =>
    intro t ks xs ys b hf he w
    cases hu : P.underlying t with
    | none => simp [flatK, hu] at hf
    | some u =>
      obtain ⟨i, hi⟩ := info_of_underlying hu
      have hlen := listEq_len _ _ _ _ he
      have hone : ∀ k, ks = [k] → ∃ x y, xs = [x] ∧ ys = [y] ∧ scEq k x y = some b := by
        intro k hk
        subst hk
        obtain ⟨x, rfl⟩ := List.length_eq_one_iff.1 hlen.1
        obtain ⟨y, rfl⟩ := List.length_eq_one_iff.1 hlen.2
        refine ⟨x, y, rfl, rfl, ?_⟩
        simp only [listEq] at he
        cases hs : scEq k x y <;> simp [hs] at he
        rw [he]
      cases u <;> simp only [flatK, hu] at hf
      case bool =>
        split at hf <;> simp at hf
        obtain ⟨x, y, rfl, rfl, hs⟩ := hone _ hf.symm
        cases x <;> cases y <;> simp [scEq] at hs
        subst hs
        simp [valOf, hu, Op.equalIn, run_underlying hu]
      case int =>
        split at hf <;> simp at hf
        obtain ⟨x, y, rfl, rfl, hs⟩ := hone _ hf.symm
        cases x <;> cases y <;> simp [scEq] at hs
        obtain ⟨rfl, hs⟩ := hs
        subst hs
        simp [valOf, hu, Op.equalIn, run_underlying hu]
      case string =>
        split at hf <;> simp at hf
        obtain ⟨x, y, rfl, rfl, hs⟩ := hone _ hf.symm
        cases x <;> cases y <;> simp [scEq] at hs
        subst hs
        simp [valOf, hu, Op.equalIn, run_underlying hu]
      case array n el =>
        obtain ⟨k', hk', hf⟩ := Option.bind_eq_some_iff.1 hf
        split at hf
        case isFalse => cases hf
        case isTrue hc =>
          cases hf
          obtain ⟨i2, hi2⟩ : ∃ i2, P.info? el = some i2 := by
            cases d with
            | zero => simp [flatK] at hk'
            | succ d =>
              cases hu2 : P.underlying el with
              | none => simp [flatK, hu2] at hk'
              | some u2 => exact info_of_underlying hu2
          have hx : xs.length = n * k'.length := by rw [hlen.1]; simp
          have hy : ys.length = n * k'.length := by rw [hlen.2]; simp
          obtain ⟨r, hr, hrb, hrn⟩ := forIn_flat ih el k' hk' xs ys w n 0 b (by simpa using hx) (by simpa using hy) (by simpa using he)
          simp only [valOf, hu, Op.equalIn, Sem.run_bind, run_underlying hu, Result.andThen_ok, run_sizeOf w hi2, hc.1, Std.Legacy.Range.forIn_eq_forIn_range', Std.Legacy.Range.size, Nat.sub_zero, Nat.add_sub_cancel, Nat.div_one]
          rw [hr]
          simp only [Result.andThen_ok]
          rcases hrn with h1 | h1 <;> rw [h1] at hrb ⊢ <;> simp at hrb ⊢ <;> exact hrb
      case struct fields =>
        split at hf
        case isTrue => cases hf
        case isFalse hst =>
          obtain ⟨k', hk', hf⟩ := Option.bind_eq_some_iff.1 hf
          split at hf
          case isFalse => cases hf
          case isTrue hc =>
            cases hf
            have hfo : P.fieldsOf t = fields := by simp [Program.fieldsOf, hu]
            have hst' : P.stoodInHeld t = false := by simpa using hst
            have := run_equalIn_struct (P := P) w d t xs.toArray ys.toArray (by rw [hfo]; exact hu) hst'
            simp only [valOf, hu]
            rw [this, hfo]
            have h0 := eqFields_flat ih xs ys w fields.toList [] _ b hk' (by simpa using he)
            exact h0.2 rfl hlen.1 hlen.2
      all_goals (simp at hf)
end
end Go.Ab

namespace Go.Ab

section
variable {P : Program} {T : TT} {n0 B0 : Nat} {m : Map} {h h' : Heap} {w : World} {e : Env} {a : Act} {v : Value}

theorem listEq_plain : ∀ (ks : List SK) (xs ys : List Value) (b : Bool), listEq ks xs ys = some b → plainL xs = true ∧ plainL ys = true := by
  intro ks
  induction ks with
  | nil => intro xs ys b h; cases xs <;> cases ys <;> simp [listEq] at h ⊢ <;> simp [plainL]
  | cons k ks ih =>
    intro xs ys b h
    cases xs with
    | nil => simp [listEq] at h
    | cons x xs =>
      cases ys with
      | nil => simp [listEq] at h
      | cons y ys =>
        simp only [listEq] at h
        obtain ⟨p, hp, h⟩ := Option.bind_eq_some_iff.1 h
        obtain ⟨q, hq, _⟩ := Option.map_eq_some_iff.1 h
        have := ih xs ys q hq
        have h2 : plain x = true ∧ plain y = true := by cases k <;> cases x <;> cases y <;> simp [scEq] at hp <;> simp [plain]
        simp [plainL, this, h2]

theorem run_intOp (op : BinOp) (k : IntKind) (x y : Int) (t : TypeId) (hs : op ≠ .shl) (hs' : op ≠ .shr) (hv : aIntOp op k x y = some v) :
    (binOp op t (.int k x) (.int k y)).run P w = .ok v w := by
  cases op <;> simp [aIntOp, ilt_eq, ile_eq] at hv hs hs' <;> first
    | (subst hv; simp [binOp, Op.intArith, Op.intCmp, Op.intBits]; done)
    | (obtain ⟨h1, rfl⟩ := hv; simp [binOp, Op.intDiv, h1])

theorem guard_no {op : BinOp} {t : TypeId} {x y : Operand} {va vb : Value} (h1 : va ≠ .nilIface) (h2 : ∀ cs, va ≠ .agg cs) : (eqGuard op t x y va vb).run P w = .ok () w := by
  unfold eqGuard
  cases va <;> first | exact absurd rfl h1 | exact absurd rfl (h2 _) | (cases op <;> simp)

theorem binOp_eql_flat (hT : TT.ok P T) {t : TypeId} {i : TI} {ks : List SK} (hi : T t = some i) (ha : i.d.isAgg = true) (hf : i.flat = some ks) {xs ys : Array Value} {b : Bool} (hl : listEq ks xs.toList ys.toList = some b) {x y : Operand} (op : BinOp) :
    (eqGuard op t x y (.agg xs) (.agg ys)).run P w = .ok () w ∧ (binOp .eql t (.agg xs) (.agg ys)).run P w = .ok (.bool b) w ∧ (binOp .neq t (.agg xs) (.agg ys)).run P w = .ok (.bool (!b)) w := by
  have hk := hT t i hi
  obtain ⟨f1, f2⟩ := hk.fl ks hf
  have he := equalIn_flat 10000 t ks xs.toList ys.toList b f1 hl w
  have hval : ∀ zs : Array Value, valOf P t zs.toList = .agg zs := by
    intro zs
    have := hk.d
    cases hd : i.d <;> rw [hd] at ha this <;> simp [TD.isAgg] at ha
    · simp [valOf, show P.underlying t = some (.array _ _) from this]
    · obtain ⟨fields, hu, _⟩ := this; simp [valOf, hu]
  rw [hval, hval] at he
  refine ⟨run_eqGuard_agg w op t x y xs ys f2, ?_, ?_⟩
  · rw [run_eql_struct, he]; rfl
  · rw [run_neq_struct, he]; rfl

theorem equal_slice (d : Nat) {t el : TypeId} (ht : P.underlying t = some (.slice el)) (b : Addr) (n c k z : Nat) : (Op.equalIn (d + 1) t (.slice (some b) n c) (.slice none k z)).run P w = .ok false w := by
  simp only [Op.equalIn, Sem.run_bind, run_underlying ht, Result.andThen_ok, Sem.run_pure]
theorem equal_sliceN (d : Nat) {t el : TypeId} (ht : P.underlying t = some (.slice el)) (n c k z : Nat) : (Op.equalIn (d + 1) t (.slice none n c) (.slice none k z)).run P w = .ok true w := by
  simp only [Op.equalIn, Sem.run_bind, run_underlying ht, Result.andThen_ok, Sem.run_pure, Option.isNone_none]
theorem equal_iface0 (d : Nat) {t : TypeId} {ms : Array (String × TypeId)} (ht : P.underlying t = some (.interface ms)) : (Op.equalIn (d + 1) t .nilIface .nilIface).run P w = .ok true w := by
  simp only [Op.equalIn, Sem.run_bind, run_underlying ht, Result.andThen_ok, Sem.run_pure]
theorem equal_iface1 (d : Nat) {t : TypeId} {ms : Array (String × TypeId)} (ht : P.underlying t = some (.interface ms)) (u : TypeId) (x : Value) : (Op.equalIn (d + 1) t (.iface u x) .nilIface).run P w = .ok false w := by
  simp only [Op.equalIn, Sem.run_bind, run_underlying ht, Result.andThen_ok, Sem.run_pure]
theorem guard_cst {op : BinOp} {t : TypeId} {x y : Operand} (hc : (isCst x || isCst y) = true) : (eqGuard op t x y .nilIface .nilIface).run P w = .ok () w := by
  unfold eqGuard
  cases op <;> simp <;> cases x <;> cases y <;> simp [isCst] at hc ⊢

theorem sound_bin (hT : TT.ok P T) (s : St n0 B0 m h w) (he : ERel m e a) {op : BinOp} {t u : TypeId} {x y : Operand} {o : Oper} {va vb : Value} (ho : o.op = .binOp op t x y u) (hx : eo e x = some va) (hy : eo e y = some vb)
    (hl : aBin T (isCst x || isCst y) op t va vb = some v) : OpOut n0 B0 m h w ((execOp a.eval o).run P w) v h := by
  have hva := he.op hx
  have hvb := he.op hy
  have key : ∀ (v1 v2 : Value), a.eval x = v1 → a.eval y = v2 → (eqGuard op t x y v1 v2).run P w = .ok () w → (binOp op t v1 v2).run P w = .ok v w → plain v = true → OpOut n0 B0 m h w ((execOp a.eval o).run P w) v h := by
    intro v1 v2 e1 e2 hg hb hp
    refine OpOut.same (v' := v) s ?_ (VRel.of_plain m v hp)
    simp [execOp, ho, e1, e2, hg, hb]
  have ints : ∀ k p q, va = .int k p → vb = .int k q → op ≠ .shl → op ≠ .shr → aIntOp op k p q = some v → OpOut n0 B0 m h w ((execOp a.eval o).run P w) v h := by
    intro k p q e1 e2 h1 h2 h3
    subst e1; subst e2
    have ea := hva.plain_eq rfl
    have eb := hvb.plain_eq rfl
    refine key _ _ ea eb (guard_no (by simp) (by simp)) (run_intOp op k p q t h1 h2 h3) ?_
    cases op <;> simp [aIntOp] at h3 <;> first | (subst h3; rfl) | (obtain ⟨_, rfl⟩ := h3; rfl)
  unfold aBin at hl
  split at hl
  · rename_i k p k' q
    split at hl
    case isFalse => cases hl
    case isTrue hc =>
      cases hl
      have ea := hva.plain_eq rfl
      have eb := hvb.plain_eq rfl
      refine key _ _ ea eb (guard_no (by simp) (by simp)) ?_ rfl
      simp [binOp, Op.shift]; omega
  · rename_i k p k' q
    split at hl
    case isFalse => cases hl
    case isTrue hc =>
      cases hl
      have ea := hva.plain_eq rfl
      have eb := hvb.plain_eq rfl
      refine key _ _ ea eb (guard_no (by simp) (by simp)) ?_ rfl
      simp [binOp, Op.shift]; omega
  · rename_i k p k' q h1 h2
    split at hl
    case isFalse => cases hl
    case isTrue hc =>
      subst hc
      exact ints k p q rfl rfl (fun e1 => h1 e1) (fun e1 => h2 e1) hl
  · rename_i p q
    split at hl
    case isFalse => cases hl
    case isTrue hc =>
      cases hl
      refine key _ _ (hva.plain_eq rfl) (hvb.plain_eq rfl) (guard_no (by simp) (by simp)) ?_ rfl
      have hc' : ¬ (((p.size + q.size : Nat) : Int) > IntKind.i64.max) := by omega
      simp only [binOp, Op.stringOp, if_neg hc', Sem.run_pure]
  · cases hl; exact key _ _ (hva.plain_eq rfl) (hvb.plain_eq rfl) (guard_no (by simp) (by simp)) (by simp [binOp, Op.stringOp]) rfl
  · cases hl; exact key _ _ (hva.plain_eq rfl) (hvb.plain_eq rfl) (guard_no (by simp) (by simp)) (by simp [binOp, Op.stringOp]) rfl
  · cases hl; exact key _ _ (hva.plain_eq rfl) (hvb.plain_eq rfl) (guard_no (by simp) (by simp)) (by simp [binOp, Op.stringOp]) rfl
  · cases hl; exact key _ _ (hva.plain_eq rfl) (hvb.plain_eq rfl) (guard_no (by simp) (by simp)) (by simp [binOp, Op.stringOp]) rfl
  · cases hl; exact key _ _ (hva.plain_eq rfl) (hvb.plain_eq rfl) (guard_no (by simp) (by simp)) (by simp [binOp, Op.stringOp]) rfl
  · cases hl; exact key _ _ (hva.plain_eq rfl) (hvb.plain_eq rfl) (guard_no (by simp) (by simp)) (by simp [binOp, Op.stringOp]) rfl
  · rename_i p q
    obtain ⟨i, hi, hl⟩ := Option.bind_eq_some_iff.1 hl
    have hk := (hT t i hi).d
    cases hd : i.d <;> rw [hd] at hl hk <;> simp at hl
    subst hl
    refine key _ _ (hva.plain_eq rfl) (hvb.plain_eq rfl) (guard_no (by simp) (by simp)) ?_ rfl
    simp [binOp, Op.equal, Op.maxDepth, run_equalIn_bool' w 9999 t p q hk]
  · rename_i p q
    obtain ⟨i, hi, hl⟩ := Option.bind_eq_some_iff.1 hl
    have hk := (hT t i hi).d
    cases hd : i.d <;> rw [hd] at hl hk <;> simp at hl
    subst hl
    refine key _ _ (hva.plain_eq rfl) (hvb.plain_eq rfl) (guard_no (by simp) (by simp)) ?_ rfl
    simp [binOp, Op.equal, Op.maxDepth, run_equalIn_bool' w 9999 t p q hk]
  · rename_i xs ys
    obtain ⟨i, hi, hl⟩ := Option.bind_eq_some_iff.1 hl
    split at hl
    case isFalse => cases hl
    case isTrue hc =>
      obtain ⟨ks, hks, hl⟩ := Option.bind_eq_some_iff.1 hl
      obtain ⟨b, hb, rfl⟩ := Option.map_eq_some_iff.1 hl
      obtain ⟨p1, p2⟩ := listEq_plain _ _ _ _ hb
      obtain ⟨g, q1, q2⟩ := binOp_eql_flat (w := w) hT hi hc hks hb (x := x) (y := y) .eql
      exact key _ _ (hva.plain_eq (by obtain ⟨l⟩ := xs; simpa [plain, plainA] using p1)) (hvb.plain_eq (by obtain ⟨l⟩ := ys; simpa [plain, plainA] using p2)) g q1 rfl
  · rename_i xs ys
    obtain ⟨i, hi, hl⟩ := Option.bind_eq_some_iff.1 hl
    split at hl
    case isFalse => cases hl
    case isTrue hc =>
      obtain ⟨ks, hks, hl⟩ := Option.bind_eq_some_iff.1 hl
      obtain ⟨b, hb, rfl⟩ := Option.map_eq_some_iff.1 hl
      obtain ⟨p1, p2⟩ := listEq_plain _ _ _ _ hb
      obtain ⟨g, q1, q2⟩ := binOp_eql_flat (w := w) hT hi hc hks hb (x := x) (y := y) .neq
      exact key _ _ (hva.plain_eq (by obtain ⟨l⟩ := xs; simpa [plain, plainA] using p1)) (hvb.plain_eq (by obtain ⟨l⟩ := ys; simpa [plain, plainA] using p2)) g q2 rfl
  all_goals try (cases hl; done)
  · rename_i b n z k yy
    obtain ⟨i, hi, hl⟩ := Option.bind_eq_some_iff.1 hl
    have hk := (hT t i hi).d
    cases hd : i.d <;> rw [hd] at hl hk <;> simp at hl
    obtain ⟨hn, rfl⟩ := hl
    generalize a.eval x = X at hva key
    generalize a.eval y = Y at hvb key
    cases hvb
    cases hva with
    | slice => exact key _ _ rfl rfl (guard_no (by simp) (by simp)) (by simp [binOp, Op.equal, Op.maxDepth, equal_slice 9999 (show P.underlying t = _ from hk)]) rfl
    | sliceNil => omega
    | slice0 => omega
  · rename_i b n z k yy
    obtain ⟨i, hi, hl⟩ := Option.bind_eq_some_iff.1 hl
    have hk := (hT t i hi).d
    cases hd : i.d <;> rw [hd] at hl hk <;> simp at hl
    obtain ⟨hn, rfl⟩ := hl
    generalize a.eval x = X at hva key
    generalize a.eval y = Y at hvb key
    cases hvb
    cases hva with
    | slice => exact key _ _ rfl rfl (guard_no (by simp) (by simp)) (by simp [binOp, Op.equal, Op.maxDepth, equal_slice 9999 (show P.underlying t = _ from hk)]) rfl
    | sliceNil => omega
    | slice0 => omega
  · obtain ⟨i, hi, hl⟩ := Option.bind_eq_some_iff.1 hl
    have hk := (hT t i hi).d
    cases hd : i.d <;> rw [hd] at hl hk <;> simp at hl
    subst hl
    generalize a.eval x = X at hva key
    generalize a.eval y = Y at hvb key
    cases hvb
    cases hva
    exact key _ _ rfl rfl (guard_no (by simp) (by simp)) (by simp [binOp, Op.equal, Op.maxDepth, equal_sliceN 9999 (show P.underlying t = _ from hk)]) rfl
  · obtain ⟨i, hi, hl⟩ := Option.bind_eq_some_iff.1 hl
    have hk := (hT t i hi).d
    cases hd : i.d <;> rw [hd] at hl hk <;> simp at hl
    subst hl
    generalize a.eval x = X at hva key
    generalize a.eval y = Y at hvb key
    cases hvb
    cases hva
    exact key _ _ rfl rfl (guard_no (by simp) (by simp)) (by simp [binOp, Op.equal, Op.maxDepth, equal_sliceN 9999 (show P.underlying t = _ from hk)]) rfl
  · split at hl
    · rename_i hc
      obtain ⟨i, hi, hl⟩ := Option.bind_eq_some_iff.1 hl
      have hk := (hT t i hi).d
      cases hd : i.d <;> rw [hd] at hl hk <;> simp at hl
      subst hl
      obtain ⟨ms, hk⟩ := hk
      exact key _ _ (hva.plain_eq rfl) (hvb.plain_eq rfl) (guard_cst hc) (by simp [binOp, Op.equal, Op.maxDepth, equal_iface0 9999 hk]) rfl
    · cases hl
  · split at hl
    · rename_i hc
      obtain ⟨i, hi, hl⟩ := Option.bind_eq_some_iff.1 hl
      have hk := (hT t i hi).d
      cases hd : i.d <;> rw [hd] at hl hk <;> simp at hl
      subst hl
      obtain ⟨ms, hk⟩ := hk
      exact key _ _ (hva.plain_eq rfl) (hvb.plain_eq rfl) (guard_cst hc) (by simp [binOp, Op.equal, Op.maxDepth, equal_iface0 9999 hk]) rfl
    · cases hl
  · obtain ⟨i, hi, hl⟩ := Option.bind_eq_some_iff.1 hl
    have hk := (hT t i hi).d
    cases hd : i.d <;> rw [hd] at hl hk <;> simp at hl
    subst hl
    obtain ⟨ms, hk⟩ := hk
    generalize a.eval x = X at hva key
    generalize a.eval y = Y at hvb key
    cases hvb
    cases hva
    exact key _ _ rfl rfl (guard_no (by simp) (by simp)) (by simp [binOp, Op.equal, Op.maxDepth, equal_iface1 9999 hk]) rfl
  · obtain ⟨i, hi, hl⟩ := Option.bind_eq_some_iff.1 hl
    have hk := (hT t i hi).d
    cases hd : i.d <;> rw [hd] at hl hk <;> simp at hl
    subst hl
    obtain ⟨ms, hk⟩ := hk
    generalize a.eval x = X at hva key
    generalize a.eval y = Y at hvb key
    cases hvb
    cases hva
    exact key _ _ rfl rfl (guard_no (by simp) (by simp)) (by simp [binOp, Op.equal, Op.maxDepth, equal_iface1 9999 hk]) rfl

theorem sound_un (s : St n0 B0 m h w) (he : ERel m e a) {op : UnOp} {t : TypeId} {x : Operand} {o : Oper} {va : Value} (ho : o.op = .unOp op t x) (hx : eo e x = some va)
    (hl : aUn op va = some v) : OpOut n0 B0 m h w ((execOp a.eval o).run P w) v h := by
  have hva := he.op hx
  unfold aUn at hl
  split at hl
  · cases hl
    have ea := hva.plain_eq rfl
    exact OpOut.same s (by simp [execOp, ho, ea, Op.unary, Op.intArith]; done) (.int _ _)
  · cases hl
    have ea := hva.plain_eq rfl
    exact OpOut.same s (by simp [execOp, ho, ea, Op.unary]; done) (.bool _)
  · cases hl

theorem VRels.arr {xs : List Value} {f : FuncId} {ys : List Value} {v' : Value} (h : VRel m (.func (.func f) ⟨xs⟩ ⟨ys⟩) v') : ∃ xs' ys', v' = .func (.func f) ⟨xs'⟩ ⟨ys'⟩ ∧ VRels m xs xs' ∧ VRels m ys ys' := by
  cases h with
  | func f xs ys xs' ys' h1 h2 h3 h4 => exact ⟨xs', ys', rfl, ⟨h1, h3⟩, ⟨h2, h4⟩⟩

theorem sound_nilCheck (s : St n0 B0 m h w) (he : ERel m e a) {x : Operand} {o : Oper} {va : Value} (ho : o.op = .nilCheck x) (hx : eo e x = some va)
    (hv : (∃ ad, va = .pointer (some ad)) ∨ (∃ f xs ys, va = .func (.func f) xs ys)) : OpOut n0 B0 m h w ((execOp a.eval o).run P w) va h := by
  have hva := he.op hx
  rcases hv with ⟨⟨i, q, sp⟩, rfl⟩ | ⟨f, ⟨xs⟩, ⟨ys⟩, rfl⟩
  · obtain ⟨L, hL, rfl, hev, hmp⟩ := hva.ptr_inv
    exact OpOut.same s (by simp [execOp, ho, hev]; done) (.ptr _ _ L hL hmp)
  · obtain ⟨xs', ys', hev, h1, h2⟩ := VRels.arr hva
    exact OpOut.same s (by simp [execOp, ho, hev]; done) (hev ▸ hva)

theorem eOps_rel (he : ERel m e a) : ∀ (xs : List Operand) (vs : List Value), eOps e xs = some vs → VRels m vs (xs.map a.eval) := by
  intro xs
  induction xs with
  | nil => intro vs h; simp [eOps] at h; subst h; exact VRels.nil _
  | cons x r ih =>
    intro vs h
    simp only [eOps] at h
    obtain ⟨v, hv, h⟩ := Option.bind_eq_some_iff.1 h
    obtain ⟨us, hu, rfl⟩ := Option.map_eq_some_iff.1 h
    exact VRels.cons (he.op hv) (ih us hu)

theorem sound_makeFunc (s : St n0 B0 m h w) (he : ERel m e a) {f : FuncId} {xs ys : Array Operand} {o : Oper} {us vs : List Value} (ho : o.op = .makeFunc (.func f) xs ys) (hx : eOps e xs.toList = some us) (hy : eOps e ys.toList = some vs) :
    OpOut n0 B0 m h w ((execOp a.eval o).run P w) (.func (.func f) us.toArray vs.toArray) h := by
  have h1 := eOps_rel he _ _ hx
  have h2 := eOps_rel he _ _ hy
  refine OpOut.same (v' := .func (.func f) (xs.map a.eval) (ys.map a.eval)) s (by simp [execOp, ho, Instr.makeFunc]) ?_
  have e1 : xs.map a.eval = (xs.toList.map a.eval).toArray := Array.ext' (by rw [Array.toList_map])
  have e2 : ys.map a.eval = (ys.toList.map a.eval).toArray := Array.ext' (by rw [Array.toList_map])
  rw [e1, e2]
  exact .func f _ _ _ _ h1.1 h2.1 h1.2 h2.2

theorem sound_makeIface (hT : TT.ok P T) (s : St n0 B0 m h w) (he : ERel m e a) {t : TypeId} {x : Operand} {o : Oper} {va : Value} {i : TI} (ho : o.op = .makeInterface t x) (hx : eo e x = some va) (hi : T t = some i)
    (h1 : i.d ≠ .iface) (h2 : i.d ≠ .other) : OpOut n0 B0 m h w ((execOp a.eval o).run P w) (.iface t va) h := by
  have hva := he.op hx
  have hk := (hT t i hi).d
  refine OpOut.same (v' := .iface t (a.eval x)) s ?_ (.iface t _ _ hva)
  cases hd : i.d <;> rw [hd] at hk h1 h2 <;> first | exact absurd rfl h1 | exact absurd rfl h2 | skip
  case bool => simp [execOp, ho, Instr.makeInterface, r_underlying (show P.underlying t = some .bool from hk)]
  case int k => simp [execOp, ho, Instr.makeInterface, r_underlying (show P.underlying t = some (.int k) from hk)]
  case str => simp [execOp, ho, Instr.makeInterface, r_underlying (show P.underlying t = some .string from hk)]
  case ptr => obtain ⟨q, hq⟩ := hk; simp [execOp, ho, Instr.makeInterface, r_underlying hq]
  case slice q => simp [execOp, ho, Instr.makeInterface, r_underlying (show P.underlying t = some (.slice q) from hk)]
  case arr n q => simp [execOp, ho, Instr.makeInterface, r_underlying (show P.underlying t = some (.array n q) from hk)]
  case struct fs => obtain ⟨q, hq, _⟩ := hk; simp [execOp, ho, Instr.makeInterface, r_underlying hq]
  case func => obtain ⟨x1, y1, z1, hq⟩ := hk; simp [execOp, ho, Instr.makeInterface, r_underlying hq]

theorem sound_extract (s : St n0 B0 m h w) (he : ERel m e a) {x : Operand} {k : Nat} {o : Oper} {vs : Array Value} (ho : o.op = .extract x k) (hx : eo e x = some (.tuple vs)) (hv : vs.toList[k]? = some v) :
    OpOut n0 B0 m h w ((execOp a.eval o).run P w) v h := by
  have hva := he.op hx
  obtain ⟨vs⟩ := vs
  generalize hev : a.eval x = X at hva
  cases hva with
  | tuple xs xs' h1 h2 =>
    obtain ⟨v', hv', hr⟩ := VRels.get (m := m) ⟨h1, h2⟩ hv
    exact OpOut.same s (by simp [execOp, ho, hev, Instr.extract, hv']; done) hr

theorem sound_len (hT : TT.ok P T) (s : St n0 B0 m h w) (he : ERel m e a) {o : Oper} {x : Operand} {t : TypeId} {va : Value} {i : TI} (ho : o.op = .call { callee := .builtin .len, args := #[x], argTypes := #[t] }) (hx : eo e x = some va) (hi : T t = some i)
    (hl : (i.d = .str ∧ ∃ b, va = .string b ∧ v = .int .i64 b.size) ∨ (∃ el q n z, i.d = .slice el ∧ va = .slice q n z ∧ v = .int .i64 n)) :
    OpOut n0 B0 m h w ((execOp a.eval o).run P w) v h := by
  have hva := he.op hx
  have hk := (hT t i hi).d
  rcases hl with ⟨hd, b, rfl, rfl⟩ | ⟨el, q, n, z, hd, rfl, rfl⟩
  · rw [hd] at hk
    have ea := hva.plain_eq rfl
    exact OpOut.same s (by simp [execOp, ho, resolve, invoke, builtin, Builtin.len_, ea, r_underlying (show P.underlying t = some .string from hk), goInt]; done) (.int _ _)
  · rw [hd] at hk
    have hex : ∃ q' c, a.eval x = .slice q' n c := by
      generalize a.eval x = X at hva
      cases hva <;> exact ⟨_, _, rfl⟩
    obtain ⟨q', c, ea⟩ := hex
    exact OpOut.same s (by simp [execOp, ho, resolve, invoke, builtin, Builtin.len_, ea, r_underlying (show P.underlying t = some (.slice el) from hk), goInt]; done) (.int _ _)
end
end Go.Ab

namespace Go.Ab

section
variable {P : Program} {T : TT} {n0 B0 : Nat} {m : Map} {h h' : Heap} {w : World} {e : Env} {a : Act} {v : Value}

-- filling cells
theorem foldl_putA : ∀ (l : List Value) (k off : Nat) (cs : Array Value), (l.zipIdx k).foldl (fun cs (p : Value × Nat) => cs.setIfInBounds (off + p.2) p.1) cs = putA cs (off + k) l := by
  intro l
  induction l with
  | nil => intro k off cs; rfl
  | cons x r ih =>
    intro k off cs
    simp only [List.zipIdx_cons, List.foldl_cons, putA]
    rw [ih (k + 1) off]
    congr 1

theorem VRels.putA {cs : List Value} {cs' : Array Value} {vs vs' : List Value} {o : Nat} (h1 : VRels m cs cs'.toList) (h2 : VRels m vs vs') (hl : o + vs.length ≤ cs.length) :
    VRels m (splice cs o vs) (putA cs' o vs').toList := by
  have hs : cs'.size = cs.length := by have := h1.1; simpa using this.symm
  refine ⟨by rw [splice_length hl]; simp [putA_size, hs], ?_⟩
  intro j v v' hv hv'
  rw [splice_get hl] at hv
  rw [Array.getElem?_toList, putA_get _ _ _ _ (by rw [hs, ← h2.1]; exact hl)] at hv'
  by_cases hj : o ≤ j ∧ j < o + vs.length
  · rw [if_pos hj] at hv
    rw [if_pos (by rw [← h2.1]; exact hj)] at hv'
    exact h2.2 _ _ _ hv hv'
  · rw [if_neg hj] at hv
    rw [if_neg (by rw [← h2.1]; exact hj)] at hv'
    exact h1.2 _ _ _ hv (by simpa using hv')

theorem fill_rel {place place' : Nat → Option (Nat × Nat)} (hp : ∀ i p, place i = some p → place' i = some p) : ∀ (ps : List (Nat × Value)) (ps' : List (Nat × Value)) (cells cs : List Value) (cells' : Array Value),
    ps.length = ps'.length → (∀ (j : Nat) (x x' : Nat × Value), ps[j]? = some x → ps'[j]? = some x' → x.1 = x'.1 ∧ VRel m x.2 x'.2) → VRels m cells cells'.toList → aFill place cells ps = some cs →
      ∃ cs', Instr.fill place' cells' ps' = some cs' ∧ VRels m cs cs'.toList := by
  intro ps
  induction ps with
  | nil =>
    intro ps' cells cs cells' hl _ hc hf
    cases ps' with
    | nil => simp only [aFill, Option.some.injEq] at hf; subst hf; exact ⟨cells', rfl, hc⟩
    | cons _ _ => simp at hl
  | cons x r ih =>
    intro ps' cells cs cells' hl hv hc hf
    cases ps' with
    | nil => simp at hl
    | cons x' r' =>
      obtain ⟨i, v⟩ := x
      obtain ⟨i', v'⟩ := x'
      obtain ⟨rfl, hvv⟩ := hv 0 _ _ rfl rfl
      simp only [aFill] at hf
      obtain ⟨p, hpl, hf⟩ := Option.bind_eq_some_iff.1 hf
      split at hf
      case isFalse => cases hf
      case isTrue hcd =>
        have hcs := VRels.of_cells hvv
        have hsz : v'.cells.size = v.cells.size := hvv.cells_size
        have hnew := VRels.putA (o := p.1) hc hcs (by simpa using hcd.2)
        obtain ⟨cs', hf', hr'⟩ := ih r' _ cs _ (by simpa using hl) (fun j x x' a b => hv (j + 1) x x' (by simpa using a) (by simpa using b)) hnew hf
        refine ⟨cs', ?_, hr'⟩
        have hlen' : cells'.size = cells.length := by have := hc.1; simpa using this.symm
        simp only [Instr.fill, hp _ _ hpl]
        rw [if_neg (by simp [hsz, hcd.1]; omega)]
        have := foldl_putA v'.cells.toList 0 p.1 cells'
        rw [Nat.add_zero] at this
        rw [← this] at hf'
        rw [← hf']
        congr 1
        rw [← Array.foldl_toList, Array.toList_zipIdx]

theorem eParts_rel (he : ERel m e a) : ∀ (ps : List (Nat × Operand)) (vs : List (Nat × Value)), eParts e ps = some vs →
    vs.length = (ps.map fun x => (x.1, a.eval x.2)).length ∧ ∀ (j : Nat) (x x' : Nat × Value), vs[j]? = some x → (ps.map fun x => (x.1, a.eval x.2))[j]? = some x' → x.1 = x'.1 ∧ VRel m x.2 x'.2 := by
  intro ps
  induction ps with
  | nil => intro vs hv; simp [eParts] at hv; subst hv; exact ⟨rfl, by simp⟩
  | cons p r ih =>
    intro vs hv
    obtain ⟨i, x⟩ := p
    simp only [eParts] at hv
    obtain ⟨v, hx, hv⟩ := Option.bind_eq_some_iff.1 hv
    obtain ⟨us, hu, rfl⟩ := Option.map_eq_some_iff.1 hv
    obtain ⟨h1, h2⟩ := ih us hu
    refine ⟨by simpa using h1, ?_⟩
    intro j y y' hy hy'
    cases j with
    | zero => simp at hy hy'; subst hy; subst hy'; exact ⟨rfl, he.op hx⟩
    | succ j => exact h2 j y y' (by simpa using hy) (by simpa using hy')

theorem r_places (hT : TT.ok P T) : ∀ (fs : List Field), (fs.map fun f => (f.offset, f.type)).all (fun x => (T x.2).isSome) = true →
    (fs.mapM (m := Sem) fun f => do pure (f.offset, ← sizeOf f.type)).run P w = .ok (fs.map fun f => (f.offset, P.cellsOf f.type)) w := by
  intro fs
  induction fs with
  | nil => intro _; simp
  | cons f fs ih =>
    intro hall
    simp only [List.map_cons, List.all_cons, Bool.and_eq_true] at hall
    obtain ⟨i, hi⟩ := Option.isSome_iff_exists.1 hall.1
    have hk := hT _ i hi
    have hc : P.cellsOf f.type = i.size := by obtain ⟨inf, h1, h2, _⟩ := hk.info; simp [Program.cellsOf, h1, h2]
    simp only [List.mapM_cons, Sem.run_bind, r_sizeOf hk, Result.andThen_ok, Sem.run_pure, ih hall.2, List.map_cons, hc]

theorem cellsOf_ok {t : TypeId} {i : TI} (hk : i.ok P t) : P.cellsOf t = i.size := by obtain ⟨inf, h1, h2, _⟩ := hk.info; simp [Program.cellsOf, h1, h2]

theorem sound_build (hT : TT.ok P T) (s : St n0 B0 m h w) (he : ERel m e a) {t : TypeId} {ps : Array (Nat × Operand)} {vs : List (Nat × Value)} {o : Oper} (ho : o.op = .build t ps) (hv : eParts e ps.toList = some vs)
    (hl : aBuild T t vs = some v) : OpOut n0 B0 m h w ((execOp a.eval o).run P w) v h := by
  unfold aBuild at hl
  obtain ⟨i, hi, hl⟩ := Option.bind_eq_some_iff.1 hl
  have hk := hT t i hi
  have hd0 := hk.d
  obtain ⟨q1, q2⟩ := eParts_rel he ps.toList vs hv
  have hz := VRels.of_cells (VRel.of_plain m i.zv hk.zp)
  have hmap : (ps.map fun x => (x.1, a.eval x.2)).toList = ps.toList.map fun x => (x.1, a.eval x.2) := by simp
  cases hd : i.d <;> rw [hd] at hl hd0 <;> try (simp at hl; done)
  case struct fs =>
    simp only at hl
    obtain ⟨fields, hu, hfm⟩ := hd0
    split at hl
    case isFalse => cases hl
    case isTrue hall =>
      obtain ⟨cs, hf, rfl⟩ := Option.map_eq_some_iff.1 hl
      have hplaces := r_places (w := w) hT fields.toList (by rw [hfm]; exact hall)
      obtain ⟨cs', hf', hr⟩ := fill_rel (m := m) (place' := fun j => (fields.map fun f => (f.offset, P.cellsOf f.type))[j]?) (by
        intro j p hp
        obtain ⟨x, hx, hp⟩ := Option.bind_eq_some_iff.1 hp
        obtain ⟨q, hq, rfl⟩ := Option.map_eq_some_iff.1 hp
        rw [← hfm, List.getElem?_map] at hx
        obtain ⟨f, hfd, rfl⟩ := Option.map_eq_some_iff.1 hx
        have hfa : fields[j]? = some f := by simpa using hfd
        simp only [Array.getElem?_map, hfa, Option.map_some]
        rw [cellsOf_ok (hT _ q hq)]) vs _ i.zv.cells.toList cs i.zv.cells q1 q2 hz hf
      refine OpOut.same (v' := .agg cs') s ?_ ?_
      · have hmm : (fields.mapM (m := Sem) fun f => do pure (f.offset, ← sizeOf f.type)).run P w = .ok (fields.map fun f => (f.offset, P.cellsOf f.type)) w := by
          rw [Array.mapM_eq_mapM_toList]
          simp only [Sem.run_map, hplaces, Result.andThen_ok]
          congr 1
          apply Array.ext'
          simp
        simp only [execOp, ho, Instr.build, Sem.run_bind, r_zero hk, Result.andThen_ok, r_underlying hu, hmm]
        rw [show (ps.map fun x => (x.1, a.eval x.2)).toList = ps.toList.map (fun x => (x.1, a.eval x.2)) from hmap]
        rw [hf']
        simp
      · obtain ⟨l⟩ := cs'
        exact .agg _ _ hr.1 hr.2
  case arr n el =>
    simp only at hl
    obtain ⟨q, hq, hl⟩ := Option.bind_eq_some_iff.1 hl
    obtain ⟨cs, hf, rfl⟩ := Option.map_eq_some_iff.1 hl
    have hkq := hT _ q hq
    obtain ⟨cs', hf', hr⟩ := fill_rel (m := m) (place' := fun j => some (j * q.size, q.size)) (fun _ _ x => x) vs _ i.zv.cells.toList cs i.zv.cells q1 q2 hz hf
    refine OpOut.same (v' := .agg cs') s ?_ ?_
    · simp only [execOp, ho, Instr.build, Sem.run_bind, r_zero hk, Result.andThen_ok, r_underlying (show P.underlying t = some (.array n el) from hd0), r_sizeOf hkq]
      rw [show (ps.map fun x => (x.1, a.eval x.2)).toList = ps.toList.map (fun x => (x.1, a.eval x.2)) from hmap]
      rw [hf']
      simp
    · obtain ⟨l⟩ := cs'
      exact .agg _ _ hr.1 hr.2

theorem zcells_length (zc : List Value) (n : Nat) : (zcells zc n).length = n * zc.length := by simp [zcells]

/-- The cells that the model makes out of a zero value, and ours. -/
theorem zcells_rel {i : TI} {t : TypeId} (hk : i.ok P t) (hp : 0 < i.size) (n N : Nat) (hN : n * i.size ≤ N) : ∀ (j : Nat) (v : Value), (zcells i.zv.cells.toList n)[j]? = some v →
    ∃ v', ((Array.range N).map (i.zv.cells[· % i.zv.cells.size]!))[j]? = some v' ∧ VRel m v v' := by
  intro j v hj
  have hsz := hk.zc
  have hj2 : j < n * i.size := by have := (List.getElem?_eq_some_iff.1 hj).1; rw [zcells_length] at this; simpa [hsz] using this
  have hmod : j % i.size < i.zv.cells.size := by rw [hsz]; exact Nat.mod_lt _ hp
  have hv : v = i.zv.cells[j % i.size] := by
    simp only [zcells, List.getElem?_map, Array.length_toList, hsz] at hj
    rw [List.getElem?_range hj2] at hj
    simp only [Option.map_some, Option.some.injEq] at hj
    rw [← hj]
    simp [List.getD_eq_getElem?_getD, hmod]
  have hplain : plain v = true := by
    have hz := hk.zp
    have hmem : v ∈ i.zv.cells.toList := by rw [hv]; simp
    cases hzv : i.zv <;> rw [hzv] at hz hmem <;> simp [Value.cells] at hmem <;> first
      | (subst hmem; exact hz)
      | (rename_i cs; obtain ⟨l⟩ := cs; simp [plain, plainA] at hz; exact plainL_iff.1 hz v (by simpa using hmem))
  refine ⟨v, ?_, VRel.of_plain m v hplain⟩
  rw [Array.getElem?_map, Array.getElem?_range, if_pos (by omega)]
  simp only [Option.map_some, Option.some.injEq]
  rw [hv, hsz]
  simp [hmod]

theorem sl_new (s : St n0 B0 m h w) {ext n z c : Nat} (hn : n ≤ c) (hz : 0 < z) (hc : c * z ≤ ext) : VRel (m ++ [some ⟨w.heap.size, 0, ext, false⟩]) (.slice (some ⟨h.length, 0, none⟩) n z) (.slice (some ⟨w.heap.size, 0, none⟩) n c) := by
  have := VRel.slice (m := m ++ [some ⟨w.heap.size, 0, ext, false⟩]) h.length 0 n z c ⟨w.heap.size, 0, ext, false⟩ (mloc_append_new s.rel.len.symm) hn hz (by simpa using hc)
  simpa using this

theorem sound_buildSlice (hT : TT.ok P T) (s : St n0 B0 m h w) (he : ERel m e a) {t : TypeId} {len : Nat} {ps : Array (Nat × Operand)} {vs : List (Nat × Value)} {o : Oper} (ho : o.op = .buildSlice t len ps) (hv : eParts e ps.toList = some vs)
    (hl : aBuildSlice T t len vs h = some (v, h')) : OpOut n0 B0 m h w ((execOp a.eval o).run P w) v h' := by
  unfold aBuildSlice at hl
  obtain ⟨i, hi, hl⟩ := Option.bind_eq_some_iff.1 hl
  have hk := hT t i hi
  have hd0 := hk.d
  obtain ⟨q1, q2⟩ := eParts_rel he ps.toList vs hv
  have hmap : (ps.map fun x => (x.1, a.eval x.2)).toList = ps.toList.map fun x => (x.1, a.eval x.2) := by simp
  cases hd : i.d <;> rw [hd] at hl hd0 <;> try (simp at hl; done)
  rename_i el
  simp only at hl
  obtain ⟨q, hq, hl⟩ := Option.bind_eq_some_iff.1 hl
  have hkq := hT _ q hq
  split at hl
  case isFalse => cases hl
  case isTrue hc =>
    obtain ⟨cs, hf, hl⟩ := Option.map_eq_some_iff.1 hl
    cases hl
    obtain ⟨c1, c2⟩ := hc
    have hzr := zcells_rel (m := m) hkq c1 len (len * q.size) (Nat.le_refl _)
    have hz : VRels m (zcells q.zv.cells.toList len) (((Array.range (len * q.size)).map (q.zv.cells[· % q.zv.cells.size]!))).toList := by
      refine ⟨by rw [zcells_length]; simp [hkq.zc], ?_⟩
      intro j v v' h1 h2
      obtain ⟨u, hu, hr⟩ := hzr j v h1
      rw [Array.getElem?_toList] at h2
      rw [hu] at h2; cases h2; exact hr
    obtain ⟨cs', hf', hr⟩ := fill_rel (m := m) (place' := fun j => some (j * q.size, q.size)) (fun _ _ x => x) vs _ _ cs _ q1 q2 hz hf
    have hcl : ∀ (ps : List (Nat × Value)) (cells cs : List Value) pl, aFill pl cells ps = some cs → cs.length = cells.length := by
      intro ps
      induction ps with
      | nil => intro cells cs pl h; simp [aFill] at h; rw [h]
      | cons x r ih =>
        intro cells cs pl h
        simp only [aFill] at h
        obtain ⟨p, _, h⟩ := Option.bind_eq_some_iff.1 h
        split at h
        · rename_i hq; rw [ih _ _ _ h, splice_length (by simpa using hq.2)]
        · cases h
    have hlen : cs.length = len * q.size := by rw [hcl _ _ _ _ hf, zcells_length]; simp [hkq.zc]
    refine ⟨_, .slice (some ⟨w.heap.size, 0, none⟩) len len, _, .inl ?_, sl_new s (ext := cs.length) (Nat.le_refl _) c1 (by omega), mloc_append _ _, Tr.allocL s hr el⟩
    have hlim : ¬ (2 ^ 24 < len * q.size) := by omega
    by_cases h0 : len * q.size = 0
    · simp only [execOp, ho, Instr.buildSlice, Sem.run_bind, r_underlying (show P.underlying t = some (.slice el) from hd0), Result.andThen_ok, r_sizeOf hkq, gt_iff_lt, if_neg hlim, if_pos h0, Sem.run_pure]
      have e1 : (Array.range (len * q.size)).map ((#[] : Array Value)[· % (#[] : Array Value).size]!) = (Array.range (len * q.size)).map (q.zv.cells[· % q.zv.cells.size]!) := by rw [h0]; simp
      rw [e1, show (ps.map fun x => (x.1, a.eval x.2)).toList = ps.toList.map (fun x => (x.1, a.eval x.2)) from hmap]
      rw [hf']
      simp [newRow]
    · simp only [execOp, ho, Instr.buildSlice, Sem.run_bind, r_underlying (show P.underlying t = some (.slice el) from hd0), Result.andThen_ok, r_sizeOf hkq, gt_iff_lt, if_neg hlim, if_neg h0, Sem.run_pure, r_zero hkq]
      rw [show (ps.map fun x => (x.1, a.eval x.2)).toList = ps.toList.map (fun x => (x.1, a.eval x.2)) from hmap]
      rw [hf']
      simp [newRow]

theorem sound_makeSlice (hT : TT.ok P T) (s : St n0 B0 m h w) (he : ERel m e a) {t : TypeId} {x y : Operand} {l c : Value} {o : Oper} (ho : o.op = .makeSlice t x y) (hx : eo e x = some l) (hy : eo e y = some c)
    (hl : aMakeSlice T t l c h = some (v, h')) : OpOut n0 B0 m h w ((execOp a.eval o).run P w) v h' := by
  unfold aMakeSlice at hl
  obtain ⟨i, hi, hl⟩ := Option.bind_eq_some_iff.1 hl
  have hk := hT t i hi
  have hd0 := hk.d
  cases hd : i.d <;> rw [hd] at hl hd0 <;> try (simp at hl; done)
  rename_i el
  obtain ⟨kl, l, rfl⟩ : ∃ k n, l = .int k n := by cases l <;> first | exact ⟨_, _, rfl⟩ | (simp at hl; done)
  obtain ⟨kc, c, rfl⟩ : ∃ k n, c = .int k n := by cases c <;> first | exact ⟨_, _, rfl⟩ | (simp at hl; done)
  simp only at hl
  obtain ⟨q, hq, hl⟩ := Option.bind_eq_some_iff.1 hl
  have hkq := hT _ q hq
  split at hl
  case isFalse => cases hl
  case isTrue hc =>
    cases hl
    obtain ⟨c1, c2, c3, c4, c5⟩ := hc
    have ex := (he.op hx).plain_eq rfl
    have ey := (he.op hy).plain_eq rfl
    obtain ⟨inf, i1, i2, i3, i4⟩ := hkq.info
    have hle : l.toNat ≤ c.toNat := by omega
    have hb1 : (q.bytes : Int) * c ≤ 2 ^ 47 := by rw [Int.mul_comm]; exact c5
    have hc63 : c ≤ 2 ^ 47 := by
      have h1 : (1 : Int) * c ≤ (q.bytes : Int) * c := Int.mul_le_mul_of_nonneg_right (by omega) (by omega)
      omega
    have hr := run_make (P := P) w t el inf q.zv (show P.underlying t = some (.slice el) from hd0) i1 i4 kl kc l c c3 c4 (by rw [i3]; omega) (by omega)
    rw [i2] at hr
    have hzr := zcells_rel (m := m) hkq c1 l.toNat (c.toNat * q.size) (Nat.mul_le_mul_right _ hle)
    have hzl : (zcells q.zv.cells.toList l.toNat).length = l.toNat * q.size := by rw [zcells_length]; simp [hkq.zc]
    refine ⟨_, .slice (some ⟨w.heap.size, 0, none⟩) l.toNat c.toNat, _, .inl ?_, sl_new s (ext := c.toNat * q.size) hle c1 (Nat.le_refl _), mloc_append _ _,
      Tr.alloc s (el := el) (cs := madeCells q.zv.cells (c.toNat * q.size)) true hzr (by rw [hzl]; exact Nat.mul_le_mul_right _ hle) (by simp [size_madeCells])⟩
    simp only [execOp, ho, ex, ey, Sem.run_bind, hr, Result.andThen_ok, Sem.run_pure]
end
end Go.Ab

namespace Go.Ab

section
variable {P : Program} {T : TT} {n0 B0 : Nat} {m : Map} {h h' : Heap} {w : World} {e : Env} {a : Act} {v : Value}

/-- A bound that is there, or not. -/
def Bd (x : Option Value) (dflt q : Nat) : Prop := (x = none ∧ q = dflt) ∨ ∃ k, x = some (.int k (q : Int))

theorem r_bounds {b : Bool} {n c l u : Nat} {lo hi : Option Value} (hlo : Bd lo 0 l) (hhi : Bd hi n u) (h1 : l ≤ u) (h2 : u ≤ c) :
    (Instr.sliceBounds b n c lo hi none).run P w = .ok (l, u, c) w := by
  have h1' : (l : Int) ≤ (u : Int) := by omega
  have h2' : (u : Int) ≤ (c : Int) := by omega
  rcases hlo with ⟨rfl, rfl⟩ | ⟨k, rfl⟩ <;> rcases hhi with ⟨rfl, rfl⟩ | ⟨k', rfl⟩ <;> simp [Instr.sliceBounds, Instr.sliceBound, asIntOf, h1, h2]

def oEval (a : Act) (x : Option Operand) : Option Value := x.map a.eval

theorem opt_eval (he : ERel m e a) {x : Option Operand} {y : Option Value} (hx : oOpt e x = some y) :
    (y = none ∧ oEval a x = none) ∨ ∃ u u', y = some u ∧ oEval a x = some u' ∧ VRel m u u' := by
  cases x with
  | none => simp [oOpt] at hx; exact .inl ⟨hx.symm, rfl⟩
  | some o =>
    simp only [oOpt] at hx
    obtain ⟨u, hu, rfl⟩ := Option.map_eq_some_iff.1 hx
    exact .inr ⟨u, _, rfl, rfl, he.op hu⟩

theorem bd_none {x : Option Operand} (h0 : oEval a x = none) (d : Nat) : Bd (oEval a x) d d := .inl ⟨h0, rfl⟩
theorem bd_int {x : Option Operand} {k : IntKind} {q : Int} {u' : Value} (h0 : oEval a x = some u') (hr : VRel m (.int k q) u') (d : Nat) (hq : 0 ≤ q) : Bd (oEval a x) d q.toNat := by
  have := hr.plain_eq rfl
  subst this
  refine .inr ⟨k, ?_⟩
  rw [h0, Int.toNat_of_nonneg hq]

theorem run_slice_str {t : TypeId} (hk : P.underlying t = some .string) {s : ByteArray} {l u : Nat} {lo hi : Option Value} (hlo : Bd lo 0 l) (hhi : Bd hi s.size u) (h1 : l ≤ u) (h2 : u ≤ s.size) :
    (Instr.sliceAt t (.string s) lo hi none).run P w = .ok (.string (s.extract l u)) w := by
  simp [Instr.sliceAt, Instr.slice, run_underlying hk, r_bounds hlo hhi h1 h2]

theorem run_slice_sl {t el : TypeId} {q : TI} (hk : P.underlying t = some (.slice el)) (hq : q.ok P el) {ad : Option Addr} {n c l u : Nat} {lo hi : Option Value} (hlo : Bd lo 0 l) (hhi : Bd hi n u) (h1 : l ≤ u) (h2 : u ≤ c) :
    (Instr.sliceAt t (.slice ad n c) lo hi none).run P w = .ok (.slice (if c = l then ad else ad.map (·.add (l * q.size))) (u - l) (c - l)) w := by
  simp [Instr.sliceAt, Instr.slice, run_underlying hk, r_bounds hlo hhi h1 h2, r_sizeOf hq]

/-- A piece of a slice, whatever its bounds. -/
theorem piece {t el : TypeId} {q : TI} (hk : P.underlying t = some (.slice el)) (hq : q.ok P el) {i o n z : Nat} {X : Value} (hX : VRel m (.slice (some ⟨i, o, none⟩) n z) X) (hz : z = q.size)
    {l u : Nat} {lo hi : Option Value} (hlo : Bd lo 0 l) (hhi : Bd hi n u) (h1 : l ≤ u) (h2 : u ≤ n) :
    ∃ X', (Instr.sliceAt t X lo hi none).run P w = .ok X' w ∧ VRel m (.slice (some ⟨i, o + l * z, none⟩) (u - l) z) X' := by
  subst hz
  cases hX with
  | slice i o n z c L hL hn hzz hc hmp =>
    refine ⟨_, run_slice_sl hk hq hlo hhi h1 (by omega), ?_⟩
    by_cases hcl : c = l
    · have : u - l = 0 := by omega
      rw [this, if_pos hcl, show c - l = 0 by omega]
      exact .slice0 _ _ _ _
    · rw [if_neg hcl]
      simp only [Option.map_some, addr_add]
      have := VRel.slice (m := m) i (o + l * q.size) (u - l) q.size (c - l) L hL (by omega) hzz (by rw [Nat.sub_mul]; have := Nat.mul_le_mul_right q.size (show l ≤ c by omega); omega) hmp
      rwa [← Nat.add_assoc] at this
  | sliceNil =>
    have hu0 : u = 0 := by omega
    have hl0 : l = 0 := by omega
    subst hu0; subst hl0
    exact ⟨_, run_slice_sl hk hq hlo hhi h1 (by omega), by simpa using VRel.sliceNil _ _ _⟩
  | slice0 _ _ _ ad =>
    have hu0 : u = 0 := by omega
    have hl0 : l = 0 := by omega
    subst hu0; subst hl0
    exact ⟨_, run_slice_sl hk hq hlo hhi h1 (by omega), by simpa using VRel.slice0 _ _ _ _⟩

theorem sound_slice (hT : TT.ok P T) (s : St n0 B0 m h w) (he : ERel m e a) {t : TypeId} {x : Operand} {lo hi mx : Option Operand} {xv : Value} {lov hiv mxv : Option Value} {o : Oper} (ho : o.op = .slice t x lo hi mx) (hx : eo e x = some xv)
    (hlo : oOpt e lo = some lov) (hhi : oOpt e hi = some hiv) (hmx : oOpt e mx = some mxv)
    (hl : aSliceOf T t xv lov hiv mxv = some v) : OpOut n0 B0 m h w ((execOp a.eval o).run P w) v h := by
  have hX := he.op hx
  have elo := opt_eval he hlo
  have ehi := opt_eval he hhi
  have emx := opt_eval he hmx
  have hrun : ∀ X', (Instr.sliceAt t (a.eval x) (oEval a lo) (oEval a hi) (oEval a mx)).run P w = .ok X' w → VRel m v X' → OpOut n0 B0 m h w ((execOp a.eval o).run P w) v h := by
    intro X' hr hv
    exact OpOut.same s (by simp only [execOp, ho, Sem.run_bind]; rw [show lo.map a.eval = oEval a lo from rfl, show hi.map a.eval = oEval a hi from rfl, show mx.map a.eval = oEval a mx from rfl, hr]; rfl) hv
  unfold aSliceOf at hl
  obtain ⟨i, hi', hl⟩ := Option.bind_eq_some_iff.1 hl
  have hk := hT t i hi'
  have hd0 := hk.d
  split at hl
  · -- a string
    rename_i s' hd _
    rw [hd] at hd0
    have hu : P.underlying t = some .string := hd0
    have hX' := hX.plain_eq rfl
    rcases emx with ⟨_, emx⟩ | ⟨u, u', h1, _, _⟩
    case inr => cases h1
    rw [emx] at hrun
    have fin : ∀ l u : Nat, Bd (oEval a lo) 0 l → Bd (oEval a hi) s'.size u → l ≤ u → u ≤ s'.size → v = .string (s'.extract l u) → OpOut n0 B0 m h w ((execOp a.eval o).run P w) v h := by
      intro l u b1 b2 h1 h2 hv
      subst hv
      exact hrun _ (by rw [hX']; exact run_slice_str hu b1 b2 h1 h2) (.string _)
    split at hl
    · rcases elo with ⟨_, elo⟩ | ⟨_, _, h1, _, _⟩; case inr => cases h1
      rcases ehi with ⟨_, ehi⟩ | ⟨_, _, h1, _, _⟩; case inr => cases h1
      cases hl
      exact fin 0 s'.size (bd_none elo _) (bd_none ehi _) (by omega) (by omega) rfl
    · rcases elo with ⟨h1, _⟩ | ⟨_, _, h1, elo, rlo⟩; case inl => cases h1
      rcases ehi with ⟨_, ehi⟩ | ⟨_, _, h1, _, _⟩; case inr => cases h1
      cases h1
      split at hl
      case isFalse => cases hl
      case isTrue hc => cases hl; exact fin _ s'.size (bd_int elo rlo _ hc.1) (bd_none ehi _) (by omega) (by omega) rfl
    · rcases elo with ⟨_, elo⟩ | ⟨_, _, h1, _, _⟩; case inr => cases h1
      rcases ehi with ⟨h1, _⟩ | ⟨_, _, h1, ehi, rhi⟩; case inl => cases h1
      cases h1
      split at hl
      case isFalse => cases hl
      case isTrue hc => cases hl; exact fin 0 _ (bd_none elo _) (bd_int ehi rhi _ hc.1) (by omega) (by omega) rfl
    · rcases elo with ⟨h1, _⟩ | ⟨_, _, h1, elo, rlo⟩; case inl => cases h1
      rcases ehi with ⟨h1', _⟩ | ⟨_, _, h1', ehi, rhi⟩; case inl => cases h1'
      cases h1; cases h1'
      split at hl
      case isFalse => cases hl
      case isTrue hc => cases hl; exact fin _ _ (bd_int elo rlo _ hc.1) (bd_int ehi rhi _ (by omega)) (by omega) (by omega) rfl
    · cases hl
  · -- a slice
    rename_i el ad n z hd _
    rw [hd] at hd0
    have hu : P.underlying t = some (.slice el) := hd0
    obtain ⟨q, hq, hl⟩ := Option.bind_eq_some_iff.1 hl
    have hkq := hT _ q hq
    split at hl
    case isFalse => cases hl
    case isTrue hcc =>
      obtain ⟨ab, ao, asp⟩ := ad
      obtain ⟨c1, c2⟩ := hcc
      simp only at c1
      subst c1
      rcases emx with ⟨_, emx⟩ | ⟨u, u', h1, _, _⟩
      case inr => cases h1
      rw [emx] at hrun
      have fin : ∀ l u : Nat, Bd (oEval a lo) 0 l → Bd (oEval a hi) n u → l ≤ u → u ≤ n → v = .slice (some ⟨ab, ao + l * z, none⟩) (u - l) z → OpOut n0 B0 m h w ((execOp a.eval o).run P w) v h := by
        intro l u b1 b2 h1 h2 hv
        subst hv
        obtain ⟨X', hr, hv⟩ := piece (w := w) hu hkq hX c2 b1 b2 h1 h2
        exact hrun X' hr hv
      split at hl
      · rcases elo with ⟨_, elo⟩ | ⟨_, _, h1, _, _⟩; case inr => cases h1
        rcases ehi with ⟨_, ehi⟩ | ⟨_, _, h1, _, _⟩; case inr => cases h1
        cases hl
        exact fin 0 n (bd_none elo _) (bd_none ehi _) (by omega) (by omega) (by simp)
      · rcases elo with ⟨h1, _⟩ | ⟨_, _, h1, elo, rlo⟩; case inl => cases h1
        rcases ehi with ⟨_, ehi⟩ | ⟨_, _, h1, _, _⟩; case inr => cases h1
        cases h1
        split at hl
        case isFalse => cases hl
        case isTrue hc => cases hl; exact fin _ n (bd_int elo rlo _ hc.1) (bd_none ehi _) (by omega) (by omega) rfl
      · rcases elo with ⟨_, elo⟩ | ⟨_, _, h1, _, _⟩; case inr => cases h1
        rcases ehi with ⟨h1, _⟩ | ⟨_, _, h1, ehi, rhi⟩; case inl => cases h1
        cases h1
        split at hl
        case isFalse => cases hl
        case isTrue hc => cases hl; exact fin 0 _ (bd_none elo _) (bd_int ehi rhi _ hc.1) (by omega) (by omega) (by simp)
      · rcases elo with ⟨h1, _⟩ | ⟨_, _, h1, elo, rlo⟩; case inl => cases h1
        rcases ehi with ⟨h1', _⟩ | ⟨_, _, h1', ehi, rhi⟩; case inl => cases h1'
        cases h1; cases h1'
        split at hl
        case isFalse => cases hl
        case isTrue hc => cases hl; exact fin _ _ (bd_int elo rlo _ hc.1) (bd_int ehi rhi _ (by omega)) (by omega) (by omega) rfl
      · cases hl
  · -- [:0:0]
    rename_i el ad n z k hd _
    rw [hd] at hd0
    have hu : P.underlying t = some (.slice el) := hd0
    obtain ⟨q, hq, hl⟩ := Option.bind_eq_some_iff.1 hl
    have hkq := hT _ q hq
    split at hl
    case isFalse => cases hl
    case isTrue hcc =>
      obtain ⟨ab, ao, asp⟩ := ad
      simp only at hcc
      subst hcc
      rcases emx with ⟨h1, _⟩ | ⟨_, _, h1, emx, rmx⟩; case inl => cases h1
      cases h1
      have emx' := rmx.plain_eq rfl
      subst emx'
      have main : (oEval a lo = none ∨ ∃ k, oEval a lo = some (.int k 0)) → (∃ k, oEval a hi = some (.int k 0)) → v = .slice (some ⟨ab, ao, none⟩) 0 0 → OpOut n0 B0 m h w ((execOp a.eval o).run P w) v h := by
        rintro b1 ⟨k2, b2⟩ hv
        subst hv
        rw [emx] at hrun
        generalize hXe : a.eval x = X at hX hrun
        have hex : ∃ q' n' c, X = .slice q' n' c := by cases hX <;> exact ⟨_, _, _, rfl⟩
        obtain ⟨q', n', c, rfl⟩ := hex
        refine hrun (.slice (if (0 : Nat) = 0 then q' else q'.map (·.add (0 * q.size))) 0 0) ?_ ?_
        · rcases b1 with b1 | ⟨k1, b1⟩ <;> rw [b1, b2] <;> simp [Instr.sliceAt, Instr.slice, run_underlying hu, Instr.sliceBounds, Instr.sliceBound, asIntOf, r_sizeOf hkq]
        · simp only [if_pos]
          cases hX with
          | slice => exact .slice0 _ _ _ _
          | sliceNil => exact .sliceNil _ _ _
          | slice0 => exact .slice0 _ _ _ _
      split at hl
      · rcases elo with ⟨_, elo⟩ | ⟨_, _, h1, _, _⟩; case inr => cases h1
        rcases ehi with ⟨h1, _⟩ | ⟨_, _, h1, ehi, rhi⟩; case inl => cases h1
        cases h1
        cases hl
        have := rhi.plain_eq rfl
        subst this
        exact main (.inl elo) ⟨_, ehi⟩ rfl
      · rcases elo with ⟨h1, _⟩ | ⟨_, _, h1, elo, rlo⟩; case inl => cases h1
        rcases ehi with ⟨h1', _⟩ | ⟨_, _, h1', ehi, rhi⟩; case inl => cases h1'
        cases h1; cases h1'
        cases hl
        have := rhi.plain_eq rfl
        subst this
        have := rlo.plain_eq rfl
        subst this
        exact main (.inr ⟨_, elo⟩) ⟨_, ehi⟩ rfl
      · cases hl
  · cases hl

theorem part_rel {t : TypeId} {i : TI} (hk : i.ok P t) {xs xs' : List Value} (hr : VRels m xs xs') {off : Nat} (hl : aPart i xs off = some v) : ∃ v', (part t xs'.toArray off).run P w = .ok v' w ∧ VRel m v v' := by
  unfold aPart at hl
  by_cases hagg : i.d.isAgg = true
  · have hv : v = .agg ((xs.drop off).take i.size).toArray := by cases hd : i.d <;> rw [hd] at hl hagg <;> simp [TD.isAgg] at hagg <;> simpa using hl.symm
    refine ⟨.agg (xs'.toArray.extract off (off + i.size)), by simp only [part, Sem.run_bind, r_isAgg hk hagg, Result.andThen_ok, if_true, r_sizeOf hk, Sem.run_pure], ?_⟩
    subst hv
    have he : xs'.toArray.extract off (off + i.size) = ((xs'.drop off).take i.size).toArray := by
      apply Array.ext'
      simp [List.extract_eq_take_drop]
    rw [he]
    refine .agg _ _ (by simp [hr.1]) ?_
    intro j y y' h1 h2
    rw [List.getElem?_take] at h1 h2
    split at h1
    case isFalse => cases h1
    case isTrue hj =>
      rw [if_pos hj] at h2
      rw [List.getElem?_drop] at h1 h2
      exact hr.2 _ _ _ h1 h2
  · have hagg' : i.d.isAgg = false := by simpa using hagg
    have hno : ∀ (_ : i.d = .other), False := fun hd => by rw [hd] at hl; simp at hl
    have hg : xs[off]? = some v := by cases hd : i.d <;> rw [hd] at hl hagg' <;> simp [TD.isAgg] at hagg' <;> first | (simp at hl; done) | simpa using hl
    obtain ⟨v', h1, h2⟩ := hr.get hg
    have h1' : xs'.toArray[off]? = some v' := by simpa using h1
    exact ⟨v', by simp only [part, Sem.run_bind, r_isAgg_no hk hagg' hno, Result.andThen_ok, Bool.false_eq_true, if_false, h1', Sem.run_pure], h2⟩

theorem sound_index (hT : TT.ok P T) (s : St n0 B0 m h w) (he : ERel m e a) {t : TypeId} {x y : Operand} {o : Oper} {p k : Value} (ho : o.op = .index t x y) (hx : eo e x = some p) (hy : eo e y = some k)
    (hl : aIndex T t p k = some v) : OpOut n0 B0 m h w ((execOp a.eval o).run P w) v h := by
  unfold aIndex at hl
  obtain ⟨i, hi, hl⟩ := Option.bind_eq_some_iff.1 hl
  have hk := hT t i hi
  have hdd := hk.d
  split at hl
  · rename_i n el cs kk kn hd _
    rw [hd] at hdd
    obtain ⟨q, hq, hl⟩ := Option.bind_eq_some_iff.1 hl
    have hkq := hT _ q hq
    split at hl
    case isFalse => cases hl
    case isTrue hc =>
      have ey := (he.op hy).plain_eq rfl
      have hX := he.op hx
      obtain ⟨cs⟩ := cs
      generalize hXe : a.eval x = X at hX
      cases hX with
      | agg xs xs' h1 h2 =>
        obtain ⟨v', hr, hv⟩ := part_rel (w := w) hkq ⟨h1, h2⟩ hl
        exact OpOut.same s (by simp [execOp, ho, Instr.index, hXe, ey, asIntOf, r_underlying (show P.underlying t = some (.array n el) from hdd), hc, r_sizeOf hkq, hr]; done) hv
  · rename_i s' kk kn hd _
    rw [hd] at hdd
    split at hl
    case isFalse => cases hl
    case isTrue hc =>
      obtain ⟨b, hb, rfl⟩ := Option.map_eq_some_iff.1 hl
      have ey := (he.op hy).plain_eq rfl
      have ex := (he.op hx).plain_eq rfl
      have hg : s'[kn.toNat]? = some b := by
        have hlt := (List.getElem?_eq_some_iff.1 hb)
        obtain ⟨h1, h2⟩ := hlt
        have h1' : kn.toNat < s'.size := by simpa using h1
        rw [getElem?_pos s' kn.toNat h1']
        congr 1
      exact OpOut.same s (by simp [execOp, ho, Instr.index, ex, ey, asIntOf, r_underlying (show P.underlying t = some .string from hdd), hc, hg]; done) (.int _ _)
  · cases hl

theorem sound_fieldV (hT : TT.ok P T) (s : St n0 B0 m h w) (he : ERel m e a) {t : TypeId} {x : Operand} {f : Nat} {o : Oper} {p : Value} (ho : o.op = .field t x f) (hx : eo e x = some p)
    (hl : aFieldV T t p f = some v) : OpOut n0 B0 m h w ((execOp a.eval o).run P w) v h := by
  unfold aFieldV at hl
  obtain ⟨i, hi, hl⟩ := Option.bind_eq_some_iff.1 hl
  have hk := hT t i hi
  have hdd := hk.d
  split at hl
  · rename_i fs cs hd _
    rw [hd] at hdd
    obtain ⟨fields, hu, hmap⟩ := hdd
    obtain ⟨y, hf, hl⟩ := Option.bind_eq_some_iff.1 hl
    obtain ⟨q, hq, hl⟩ := Option.bind_eq_some_iff.1 hl
    rw [← hmap, List.getElem?_map] at hf
    obtain ⟨fd, hfd, rfl⟩ := Option.map_eq_some_iff.1 hf
    have hfa : fields[f]? = some fd := by simpa using hfd
    have hkq := hT _ q hq
    have hX := he.op hx
    obtain ⟨cs⟩ := cs
    generalize hXe : a.eval x = X at hX
    cases hX with
    | agg xs xs' h1 h2 =>
      obtain ⟨v', hr, hv⟩ := part_rel (w := w) hkq ⟨h1, h2⟩ hl
      exact OpOut.same s (by simp [execOp, ho, Instr.field, hXe, r_underlying hu, hfa, asAgg, hr]; done) hv
  · cases hl

theorem sound_conv (hT : TT.ok P T) (s : St n0 B0 m h w) (he : ERel m e a) {t u : TypeId} {x : Operand} {o : Oper} {p : Value} (ho : o.op = .convert t u x) (hx : eo e x = some p)
    (hl : aConv T t u p = some v) : OpOut n0 B0 m h w ((execOp a.eval o).run P w) v h := by
  unfold aConv at hl
  obtain ⟨i, hi, hl⟩ := Option.bind_eq_some_iff.1 hl
  obtain ⟨j, hj, hl⟩ := Option.bind_eq_some_iff.1 hl
  have h1 := (hT t i hi).d
  have h2 := (hT u j hj).d
  split at hl
  · rename_i hd hd' _ _
    rw [hd] at h1; rw [hd'] at h2
    cases hl
    have ex := (he.op hx).plain_eq rfl
    exact OpOut.same s (by simp [execOp, ho, convert, ex, r_underlying h1, r_underlying h2, Conv.intToInt]; done) (.int _ _)
  · rename_i hd hd' _ _
    rw [hd] at h1; rw [hd'] at h2
    cases hl
    have ex := (he.op hx).plain_eq rfl
    exact OpOut.same s (by simp [execOp, ho, convert, ex, r_underlying h1, r_underlying h2]; done) (.string _)
  · cases hl
end
end Go.Ab

namespace Go.Ab

section
variable {P : Program} {T : TT} {n0 B0 : Nat} {m : Map} {h h' : Heap} {w w' : World} {e : Env} {a : Act} {v : Value}

/-- A block that nobody sees is written. -/
theorem St.touch (s : St n0 B0 m h w) {k : Nat} (hk : B0 ≤ k) (hno : ∀ i b L, hblk h i = some b → mloc m i = some L → L.b ≠ k)
    (hkeep : ∀ j, j ≠ k → w'.heap[j]? = w.heap[j]?) (hcl : ∀ o, w.heap[k]? = some o → o.isCells = true) (hs : w'.heap.size = w.heap.size) (h1 : w'.os = w.os) (h2 : w'.tape = w.tape) (h3 : w'.output = w.output) : Tr n0 B0 m h w m h w' :=
  ⟨⟨⟨s.rel.len, fun i b L hb hL => (s.rel.blk i b L hb hL).mono (fun _ _ x => x) (hkeep _ (hno i b L hb hL)), s.rel.dummy, s.rel.dis⟩, by rw [hs]; exact s.base, s.fresh, s.anch⟩, rfl, rfl,
    ⟨h1, h2, h3, by omega, fun j hj _ => hkeep j (by omega), fun j o hj ho => (hkeep j fun e => by subst e; exact absurd (hcl o hj) (by rw [fixed_cells ho]; simp)).trans hj⟩⟩

/-- A new number for a block that nobody sees. -/
theorem St.attach (s : St n0 B0 m h w) {L : Loc} {vs : List Value} (hr : BRel m ⟨vs, true⟩ L w) (hno : ∀ i b L', hblk h i = some b → mloc m i = some L' → L'.b ≠ L.b) (hB : B0 ≤ L.b) :
    Tr n0 B0 m h w (m ++ [some L]) (h ++ [some ⟨vs, true⟩]) w := by
  have hle : Map.le m (m ++ [some L]) := mloc_append _ _
  have hlen := s.rel.len
  have newloc : ∀ {L' : Loc}, mloc (m ++ [some L]) h.length = some L' → L' = L := by
    intro L' hL; rw [mloc_append_new (by omega)] at hL; cases hL; rfl
  refine ⟨⟨⟨by simp [hlen], ?_, ?_, ?_⟩, s.base, ?_, ?_⟩, take_append_of_le s.n0m, flags_append s.anch, Fr.refl _ _ _⟩
  · intro i b L' hb hL
    rcases hblk_append_cases hb with ⟨hi, hb'⟩ | ⟨hi, hb'⟩
    · rw [mloc_append_left (by omega)] at hL
      exact (s.rel.blk i b L' hb' hL).mono hle rfl
    · subst hi
      have := newloc hL; subst this
      cases hb'
      exact hr.mono hle rfl
  · intro i b hb hL
    rcases hblk_append_cases hb with ⟨hi, hb'⟩ | ⟨hi, hb'⟩
    · rw [mloc_append_left (by omega)] at hL; exact s.rel.dummy i b hb' hL
    · subst hi; rw [mloc_append_new (by omega)] at hL; cases hL
  · intro i j b b' L1 L2 hij hb ho hb' hL hL'
    rcases hblk_append_cases hb with ⟨hi, hbb⟩ | ⟨hi, hbb⟩
    · rw [mloc_append_left (by omega)] at hL
      rcases hblk_append_cases hb' with ⟨hj, hbb'⟩ | ⟨hj, hbb'⟩
      · rw [mloc_append_left (by omega)] at hL'
        exact s.rel.dis i j b b' L1 L2 hij hbb ho hbb' hL hL'
      · subst hj; have := newloc hL'; subst this
        exact hno i b L1 hbb hL
    · subst hi; have := newloc hL; subst this
      rcases hblk_append_cases hb' with ⟨hj, hbb'⟩ | ⟨hj, hbb'⟩
      · rw [mloc_append_left (by omega)] at hL'
        exact (hno j b' L2 hbb' hL').symm
      · omega
  · intro i b L' hn hb hL
    rcases hblk_append_cases hb with ⟨hi, hbb⟩ | ⟨hi, hbb⟩
    · rw [mloc_append_left (by omega)] at hL; exact s.fresh i b L' hn hbb hL
    · subst hi; have := newloc hL; subst this; exact hB
  · have := s.anch; simp; omega

/-- A new number for no block at all. -/
theorem St.attachNone (s : St n0 B0 m h w) (own : Bool) : Tr n0 B0 m h w (m ++ [none]) (h ++ [some ⟨[], own⟩]) w := by
  have hle : Map.le m (m ++ [none]) := mloc_append _ _
  have hlen := s.rel.len
  have newloc : mloc (m ++ [none]) h.length = none := mloc_append_new (by omega)
  refine ⟨⟨⟨by simp [hlen], ?_, ?_, ?_⟩, s.base, ?_, ?_⟩, take_append_of_le s.n0m, flags_append s.anch, Fr.refl _ _ _⟩
  · intro i b L' hb hL
    rcases hblk_append_cases hb with ⟨hi, hb'⟩ | ⟨hi, hb'⟩
    · rw [mloc_append_left (by omega)] at hL
      exact (s.rel.blk i b L' hb' hL).mono hle rfl
    · subst hi; rw [newloc] at hL; cases hL
  · intro i b hb hL
    rcases hblk_append_cases hb with ⟨hi, hb'⟩ | ⟨hi, hb'⟩
    · rw [mloc_append_left (by omega)] at hL; exact s.rel.dummy i b hb' hL
    · cases hb'; rfl
  · intro i j b b' L1 L2 hij hb ho hb' hL hL'
    rcases hblk_append_cases hb with ⟨hi, hbb⟩ | ⟨hi, hbb⟩
    · rw [mloc_append_left (by omega)] at hL
      rcases hblk_append_cases hb' with ⟨hj, hbb'⟩ | ⟨hj, hbb'⟩
      · rw [mloc_append_left (by omega)] at hL'
        exact s.rel.dis i j b b' L1 L2 hij hbb ho hbb' hL hL'
      · subst hj; rw [newloc] at hL'; cases hL'
    · subst hi; rw [newloc] at hL; cases hL
  · intro i b L' hn hb hL
    rcases hblk_append_cases hb with ⟨hi, hbb⟩ | ⟨hi, hbb⟩
    · rw [mloc_append_left (by omega)] at hL; exact s.fresh i b L' hn hbb hL
    · subst hi; rw [newloc] at hL; cases hL
  · have := s.anch; simp; omega

/-- What is appended. -/
theorem src_rel (s : Rel m h w) {q : TI} {el : TypeId} (_hq : q.ok P el) {x X : Value} {xs : List Value} (hX : VRel m x X) (hc : cellsOf h q.size x = some xs) (hstr : isStr x = true → q.size = 1) :
    ∃ n, (∀ W, (Builtin.lenOf X).run P W = .ok n W) ∧ (∀ W : World, W.heap = w.heap → ∃ news : List Value, (Builtin.firstCells q.size n X).run P W = .ok news.toArray W ∧ VRels m xs news) ∧ xs.length = n * q.size := by
  unfold cellsOf at hc
  split at hc
  · cases hc; cases hX
    exact ⟨0, fun W => by simp [Builtin.lenOf], fun W _ => ⟨[], by simp [Builtin.firstCells], VRels.nil _⟩, by simp⟩
  · rename_i ad n z
    split at hc
    case isTrue hn =>
      subst hn; cases hc
      cases hX with
      | slice i o n z c L hL hn hz hcc => exact ⟨0, fun W => by simp [Builtin.lenOf], fun W _ => ⟨[], by simp [Builtin.firstCells, loadCells, loadCellsFrom], VRels.nil _⟩, by simp⟩
      | sliceNil => exact ⟨0, fun W => by simp [Builtin.lenOf], fun W _ => ⟨[], by simp [Builtin.firstCells], VRels.nil _⟩, by simp⟩
      | slice0 => exact ⟨0, fun W => by simp [Builtin.lenOf], fun W _ => ⟨[], by simp [Builtin.firstCells, loadCells, loadCellsFrom], VRels.nil _⟩, by simp⟩
    case isFalse hn =>
      split at hc
      case isFalse => cases hc
      case isTrue hz =>
        obtain ⟨h1, h2⟩ := hz
        obtain ⟨ab, ao, asp⟩ := ad
        simp only at h2
        subst h2
        cases hX with
        | slice i o n z c L hL hn' hz' hcc hmp =>
          refine ⟨n, fun W => by simp [Builtin.lenOf], fun W hW => ?_, ?_⟩
          · have sW : Rel m h W := s.of_heap hW
            obtain ⟨vs', hrun, hrel, _, _⟩ := readCells_run (P := P) sW hc hL hmp
            exact ⟨vs', by simp only [Builtin.firstCells, hrun], hrel⟩
          · obtain ⟨b, hb, hlen, rfl⟩ := readCells_spec hc
            simp; omega
        | sliceNil => omega
        | slice0 => omega
  · rename_i str
    cases hc
    have hX' := hX.plain_eq rfl
    subst hX'
    have h1 := hstr rfl
    have hsize : str.size = str.data.toList.length := by simp
    refine ⟨str.size, fun W => by simp [Builtin.lenOf], fun W _ => ⟨str.data.toList.map fun b => .int .u8 b.toNat, ?_, VRel.rec_plainL m _ (plainL_iff.2 (by simp [plain]))⟩, by rw [h1]; simp⟩
    have : str.extract 0 str.size = str := by simp
    simp only [Builtin.firstCells, this, Sem.run_pure]
    congr 1
    apply Array.ext'
    simp
  · cases hc

theorem und_not_int {u : TypeId} {ui : TI} (hk : ui.ok P u) (h1 : ∀ k, ui.d ≠ .int k) (h2 : ui.d ≠ .other) : ∃ d, P.underlying u = some d ∧ ∀ k, d ≠ .int k := by
  have hd := hk.d
  cases hdd : ui.d <;> rw [hdd] at hd h1 h2
  case bool => exact ⟨_, hd, by simp⟩
  case int k => exact absurd rfl (h1 k)
  case str => exact ⟨_, hd, by simp⟩
  case ptr => obtain ⟨q, hq⟩ := hd; exact ⟨_, hq, by simp⟩
  case slice q => exact ⟨_, hd, by simp⟩
  case arr n q => exact ⟨_, hd, by simp⟩
  case struct => obtain ⟨q, hq, _⟩ := hd; exact ⟨_, hq, by simp⟩
  case iface => obtain ⟨q, hq⟩ := hd; exact ⟨_, hq, by simp⟩
  case func => obtain ⟨x, y, z, hq⟩ := hd; exact ⟨_, hq, by simp⟩
  case other => exact absurd rfl h2

/-- There is room. -/
theorem run_app_room {t u ty el : TypeId} {q : TI} {du : TypeDesc} (ht : P.underlying t = some (.slice el)) (hu : P.underlying u = some du) (hdu : ∀ k, du ≠ .int k) (hq : q.ok P el) {base : Option Addr} {sLen sCap n : Nat} {X : Value} {news : List Value}
    (hl : (Builtin.lenOf X).run P w = .ok n w) (hf : (Builtin.firstCells q.size n X).run P w = .ok news.toArray w) (hroom : sLen + n ≤ sCap)
    (hst : ∀ ad, base = some ad → (storeCells (ad.add (sLen * q.size)) news 0).run P w = .ok () w') (hno : base = none → w' = w) :
    (Builtin.append_ #[t, u] ty #[.slice base sLen sCap, X]).run P w = .ok (.slice base (sLen + n) sCap) w' := by
  have hz : (match du with | .int _ => true | _ => false) = false := by cases du <;> first | rfl | exact absurd rfl (hdu _)
  cases base with
  | none =>
    have := hno rfl; subst this
    simp [Builtin.append_, run_underlying ht, run_underlying hu, r_sizeOf hq, hl, hroom, hf]
    try (cases du <;> first | (simp [hl, hroom, hf]; done) | exact absurd rfl (hdu _))
  | some ad =>
    have h2 := hst ad rfl
    simp [Builtin.append_, run_underlying ht, run_underlying hu, r_sizeOf hq, hl, hroom, hf]
    try (cases du <;> first | (simp [h2]; done) | exact absurd rfl (hdu _))

/-- It grows. -/
theorem run_app_grow {t u ty el : TypeId} {q : TI} {du : TypeDesc} (ht : P.underlying t = some (.slice el)) (hu : P.underlying u = some du) (hdu : ∀ k, du ≠ .int k) (hq : q.ok P el) {base : Option Addr} {sLen sCap n : Nat} {X : Value} {olds news : List Value}
    (hl : (Builtin.lenOf X).run P w = .ok n w) (hf : (Builtin.firstCells q.size n X).run P w.drew = .ok news.toArray w.drew) (hfo : (Builtin.firstCells q.size sLen (.slice base sLen sCap)).run P w.drew = .ok olds.toArray w.drew) (hroom : sCap < sLen + n)
    (hb : 0 < q.bytes) (hfit : (sLen + n) * q.bytes ≤ 140737488355328) (hol : olds.length + news.length = (sLen + n) * q.size) :
    ∃ (c : Nat) (cs : Array Value), (Builtin.append_ #[t, u] ty #[.slice base sLen sCap, X]).run P w = .ok (.slice (some ⟨w.heap.size, 0, none⟩) (sLen + n) c) (w.drew.alloc (.cells cs el (0, 0))) ∧
      sLen + n ≤ c ∧ cs.size = c * q.size ∧ ∀ (j : Nat) (v : Value), (olds ++ news)[j]? = some v → cs[j]? = some v := by
  obtain ⟨inf, i1, i2, i3, i4⟩ := hq.info
  have hnr : ¬ (sLen + n ≤ sCap) := by omega
  have hgf := growslice_fits (bytes := q.bytes) hroom hfit
  have h48 : ¬ (281474976710656 < Builtin.nextslicecap (sLen + n) sCap * q.bytes) := by omega
  have hb0 : ¬ q.bytes = 0 := by omega
  have hcap := grownCap_ge w (sLen + n) sCap el
  have hzc : q.zv.cells.size = q.size := hq.zc
  refine ⟨grownCap w (sLen + n) sCap el, olds.toArray ++ news.toArray ++ Builtin.zeroCells q.zv.cells (grownCap w (sLen + n) sCap el - (sLen + n)), ?_, hcap, ?_, ?_⟩
  · simp [Builtin.append_, run_underlying ht, run_underlying hu, r_sizeOf hq]
    cases du <;> first
      | exact absurd rfl (hdu _)
      | (simp [hl, hnr, r_typeInfo i1, i3, hb0, h48, Question.forced, hf, hfo, r_zero hq, newRow, grownCap]; congr 2; apply Array.ext'; simp)
  · have : (grownCap w (sLen + n) sCap el - (sLen + n)) * q.size = grownCap w (sLen + n) sCap el * q.size - (sLen + n) * q.size := Nat.sub_mul _ _ _
    have h2 := Nat.mul_le_mul_right q.size hcap
    simp [size_zeroCells, hzc, this]; omega
  · intro j v hj
    have hlt := (List.getElem?_eq_some_iff.1 hj).1
    rw [Array.getElem?_append_left (by simpa using hlt)]
    rw [← hj, ← Array.getElem?_toList]
    simp

end
end Go.Ab

namespace Go.Ab

section
variable {P : Program} {T : TT} {n0 B0 : Nat} {m : Map} {h h' : Heap} {w w' : World} {e : Env} {a : Act} {v : Value}

theorem St.drewSt (s : St n0 B0 m h w) : St n0 B0 m h w.drew := (Tr.drew s).st

theorem nodup_none (s : St n0 B0 m h w) {i : Nat} {b : Blk} {L : Loc} (hb : hblk h i = some b) (ho : b.own = true) (hL : mloc m i = some L) :
    ∀ j c L', hblk (h.set i none) j = some c → mloc m j = some L' → L'.b ≠ L.b := by
  intro j c L' hc hL'
  have hi := hblk_lt hb
  by_cases hij : i = j
  · subst hij; rw [hblk_set_same hi] at hc; cases hc
  · rw [hblk_set_other hij] at hc
    exact (s.rel.dis i j b c L L' hij hb ho hc hL hL').symm

theorem run_callAppend {o : Oper} {s x : Operand} {t u : TypeId} {r : Value} (ho : o.op = .call { callee := .builtin .append, args := #[s, x], argTypes := #[t, u] })
    (hr : (Builtin.append_ #[t, u] o.type #[a.eval s, a.eval x]).run P w = .ok r w') : (execOp a.eval o).run P w = .ok (.value r) w' := by
  simp [execOp, ho, resolve, invoke, builtin, hr]

theorem append_new (hT : TT.ok P T) (s : St n0 B0 m h w) {o : Oper} {so xo : Operand} {t u el : TypeId} {q ui : TI} {xs : List Value} (ho : o.op = .call { callee := .builtin .append, args := #[so, xo], argTypes := #[t, u] })
    (ht : P.underlying t = some (.slice el)) (hu : T u = some ui) (hu1 : ∀ k, ui.d ≠ .int k) (hu2 : ui.d ≠ .other) (hq : q.ok P el) (hqs : 0 < q.size) (hqb : 0 < q.bytes)
    {n : Nat} (hl : ∀ W, (Builtin.lenOf (a.eval xo)).run P W = .ok n W) (hf : ∀ W : World, W.heap = w.heap → ∃ news : List Value, (Builtin.firstCells q.size n (a.eval xo)).run P W = .ok news.toArray W ∧ VRels m xs news) (hn : xs.length = n * q.size) {base : Option Addr} (hs : a.eval so = .slice base 0 0) (hne : xs.length ≠ 0) (hfit : xs.length / q.size * q.bytes ≤ 2 ^ 46) :
    OpOut n0 B0 m h w ((execOp a.eval o).run P w) (.slice (some ⟨h.length, 0, none⟩) (xs.length / q.size) q.size) (h ++ [some ⟨xs, true⟩]) := by
  obtain ⟨du, hdu, hdi⟩ := und_not_int (hT u ui hu) hu1 hu2
  obtain ⟨news, hnews, hrel⟩ := hf w.drew rfl
  have hnn : xs.length / q.size = n := by rw [hn]; exact Nat.mul_div_cancel _ hqs
  have hn0 : n ≠ 0 := by rintro rfl; simp at hn; exact hne (by simp [hn])
  have hfo : (Builtin.firstCells q.size 0 (.slice base 0 0)).run P w.drew = .ok ([] : List Value).toArray w.drew := by
    cases base <;> simp [Builtin.firstCells, loadCells, loadCellsFrom]
  obtain ⟨c, cs, hr, hc1, hc2, hc3⟩ := run_app_grow (ty := o.type) ht hdu hdi hq (hl w) hnews hfo (sLen := 0) (sCap := 0) (by omega) hqb (by rw [Nat.zero_add, ← hnn]; omega) (by have := hrel.1; simp; omega)
  have sd := s.drewSt
  have hlen : xs.length ≤ c * q.size := by rw [hn]; exact Nat.mul_le_mul_right _ (by omega)
  have htr := (Tr.drew s).trans (Tr.alloc sd (el := el) (cs := cs) (vs := xs) (ext := c * q.size) true (fun j v hj => by
    obtain ⟨v', h1, h2⟩ := hrel.get hj
    exact ⟨v', hc3 j v' (by simpa using h1), h2⟩) hlen (by omega))
  refine ⟨_, _, _, .inl (run_callAppend ho (by rw [hs]; exact hr)), ?_, mloc_append _ _, htr⟩
  rw [hnn]
  have := sl_new sd (ext := c * q.size) (n := n) (z := q.size) (c := c) (by omega) hqs (Nat.le_refl _)
  simpa using this

theorem sound_append (hT : TT.ok P T) (s : St n0 B0 m h w) (he : ERel m e a) {o : Oper} {so xo : Operand} {t u : TypeId} {sv x : Value} (ho : o.op = .call { callee := .builtin .append, args := #[so, xo], argTypes := #[t, u] })
    (hso : eo e so = some sv) (hxo : eo e xo = some x) (hl : aAppend T n0 t u sv x h = some (v, h')) : OpOut n0 B0 m h w ((execOp a.eval o).run P w) v h' := by
  have hS := he.op hso
  have hX := he.op hxo
  unfold aAppend at hl
  obtain ⟨i, hi, hl⟩ := Option.bind_eq_some_iff.1 hl
  obtain ⟨ui, hui, hl⟩ := Option.bind_eq_some_iff.1 hl
  have hk := hT t i hi
  have hd0 := hk.d
  obtain ⟨el, hd, hu1, hu2, hl⟩ : ∃ el, i.d = .slice el ∧ (∀ k, ui.d ≠ .int k) ∧ ui.d ≠ .other ∧ ((T el).bind fun q => if 0 < q.size ∧ 0 < q.bytes ∧ q.bytes ≤ 2 ^ 20 then
      (cellsOf h q.size x).bind fun xs => if xs.length % q.size = 0 ∧ (isStr x = true → q.size = 1) ∧ xs.all Value.oneCell' = true then
        match sv with
        | .slice none _ _ => if xs.length = 0 then some (sv, h) else
            if xs.length / q.size * q.bytes ≤ 2 ^ 46 then some (.slice (some ⟨h.length, 0, none⟩) (xs.length / q.size) q.size, h ++ [some ⟨xs, true⟩]) else none
        | .slice (some a) n z =>
            if z = 0 ∧ n = 0 then
              if xs.length = 0 then some (sv, h) else
              if xs.length / q.size * q.bytes ≤ 2 ^ 46 then some (.slice (some ⟨h.length, 0, none⟩) (xs.length / q.size) q.size, h ++ [some ⟨xs, true⟩]) else none
            else
              match hblk h a.block with
              | some b => if b.own = true ∧ n0 ≤ a.block ∧ a.spot = none ∧ z = q.size ∧ a.off + n * q.size = b.cells.length ∧ (n + xs.length / q.size) * q.bytes ≤ 2 ^ 46 then
                  some (.slice (some ⟨h.length, 0, none⟩) (n + xs.length / q.size) q.size, h.set a.block none ++ [some ⟨b.cells.drop a.off ++ xs, true⟩]) else none
              | none => none
        | _ => none
      else none else none) = some (v, h') := by
    cases hd : i.d <;> rw [hd] at hl <;> try (simp at hl; done)
    rename_i el
    refine ⟨el, rfl, ?_, ?_, ?_⟩
    · intro k hku; rw [hku] at hl; simp at hl
    · intro hku; rw [hku] at hl; simp at hl
    · cases hud : ui.d <;> rw [hud] at hl <;> first | exact hl | (simp at hl; done)
  rw [hd] at hd0
  have ht : P.underlying t = some (.slice el) := hd0
  obtain ⟨q, hq', hl⟩ := Option.bind_eq_some_iff.1 hl
  have hq := hT el q hq'
  split at hl
  case isFalse => cases hl
  case isTrue hq0 =>
  obtain ⟨hqs, hqb, hqb2⟩ := hq0
  obtain ⟨xs, hxs, hl⟩ := Option.bind_eq_some_iff.1 hl
  split at hl
  case isFalse => cases hl
  case isTrue hcx =>
  obtain ⟨hmod, hstr, hone⟩ := hcx
  obtain ⟨du, hdu, hdi⟩ := und_not_int (hT u ui hui) hu1 hu2
  obtain ⟨n, hln, hf, hn⟩ := src_rel (P := P) s.rel hq hX hxs hstr
  have hnn : xs.length / q.size = n := by rw [hn]; exact Nat.mul_div_cancel _ hqs
  -- nothing is appended to a slice without room: it stays
  have stay : ∀ base, a.eval so = .slice base 0 0 → VRel m sv (.slice base 0 0) → xs.length = 0 → OpOut n0 B0 m h w ((execOp a.eval o).run P w) sv h := by
    intro base hs hv h0
    have hn0 : n = 0 := by
      rw [h0] at hn
      rcases Nat.mul_eq_zero.1 hn.symm with h1 | h1 <;> omega
    subst hn0
    obtain ⟨news, hnews, hrel⟩ := hf w rfl
    have hnil : news = [] := List.length_eq_zero_iff.1 (by rw [← hrel.1, h0])
    subst hnil
    have hr := run_app_room (w' := w) (ty := o.type) (n := 0) ht hdu hdi hq (base := base) (sLen := 0) (sCap := 0) (hln w) hnews (by omega) (fun ad _ => by simp [storeCells]) (fun _ => rfl)
    exact OpOut.same s (run_callAppend ho (by rw [hs]; exact hr)) hv
  obtain ⟨base0, nn, z, rfl⟩ : ∃ b n z, sv = .slice b n z := by cases sv <;> first | exact ⟨_, _, _, rfl⟩ | (simp at hl; done)
  cases base0 with
  | none =>
    simp only at hl
    generalize hse : a.eval so = S at hS
    cases hS
    split at hl
    · cases hl; exact stay none hse .snil (by assumption)
    · split at hl
      · cases hl; exact append_new hT s ho ht hui hu1 hu2 hq hqs hqb hln hf hn hse (by assumption) (by assumption)
      · cases hl
  | some ad =>
    simp only at hl
    obtain ⟨ab, ao, asp⟩ := ad
    split at hl
    · rename_i hz
      obtain ⟨rfl, rfl⟩ := hz
      generalize hse : a.eval so = S at hS
      cases hS with
      | slice i o n z c L hL hn' hz' hcc => omega
      | sliceNil =>
        split at hl
        · cases hl; exact stay none hse (.sliceNil _ _ _) (by assumption)
        · split at hl
          · cases hl; exact append_new hT s ho ht hui hu1 hu2 hq hqs hqb hln hf hn hse (by assumption) (by assumption)
          · cases hl
      | slice0 _ _ _ ad' =>
        split at hl
        · cases hl; exact stay (some ad') hse (.slice0 _ _ _ _) (by assumption)
        · split at hl
          · cases hl; exact append_new hT s ho ht hui hu1 hu2 hq hqs hqb hln hf hn hse (by assumption) (by assumption)
          · cases hl
    · rename_i hz
      cases hb : hblk h ab with
      | none => simp [hb] at hl
      | some b =>
        simp only [hb] at hl
        split at hl
        case isFalse => cases hl
        case isTrue hcd =>
        cases hl
        obtain ⟨d1, d2, d3, d4, d5, d6⟩ := hcd
        subst d3; subst d4
        have hib := hblk_lt hb
        have kill := St.kill s d2
        have hsl : (h.set ab none).length = h.length := by simp
        have emptyCase : ∀ base, nn = 0 → a.eval so = .slice base 0 0 → OpOut n0 B0 m h w ((execOp a.eval o).run P w) (.slice (some ⟨h.length, 0, none⟩) (nn + xs.length / q.size) q.size) (h.set ab none ++ [some ⟨b.cells.drop ao ++ xs, true⟩]) := by
          intro base h0 hs
          subst h0
          have hdrop : b.cells.drop ao = [] := List.drop_eq_nil_of_le (by omega)
          rw [hdrop, List.nil_append, Nat.zero_add]
          by_cases hx0 : xs.length = 0
          · have hxn : xs = [] := List.length_eq_zero_iff.1 hx0
            subst hxn
            have hn0 : n = 0 := by rw [← hnn]; simp
            subst hn0
            obtain ⟨news, hnews, hrel⟩ := hf w rfl
            have hnil := hrel.nil_inv
            subst hnil
            have hr := run_app_room (w' := w) (ty := o.type) (n := 0) ht hdu hdi hq (base := base) (sLen := 0) (sCap := 0) (hln w) hnews (by omega) (fun ad _ => by simp [storeCells]) (fun _ => rfl)
            refine ⟨_, _, _, .inl (run_callAppend ho (by rw [hs]; exact hr)), ?_, mloc_append _ _, kill.trans (kill.st.attachNone true)⟩
            simp only [List.length_nil, Nat.zero_div, Nat.add_zero]
            cases base with
            | none => exact .sliceNil _ _ _
            | some ad => exact .slice0 _ _ _ _
          · have := append_new hT kill.st ho ht hui hu1 hu2 hq hqs hqb hln hf hn (base := base) hs hx0 (by rw [Nat.zero_add] at d6; exact d6)
            rw [hsl] at this
            obtain ⟨m', v', w', r1, r2, r3, r4⟩ := this
            exact ⟨m', v', w', r1, r2, r3, kill.trans r4⟩
        generalize hse : a.eval so = S at hS emptyCase
        cases hS with
        | sliceNil => exact emptyCase none rfl rfl
        | slice0 _ _ _ ad' => exact emptyCase (some ad') rfl rfl
        | slice i' o' n' z' c L hL hn' hz' hcc hmp =>
          clear emptyCase
          have hBL : B0 ≤ L.b := s.fresh ab b L d2 hb hL
          obtain ⟨cs, elx, fz, hw, hcells, hown⟩ := (s.rel.blk ab b L hb hL).row hmp
          obtain ⟨o1, o2, o3⟩ := hown d1
          have hnd := nodup_none s hb d1 hL
          by_cases hroom : nn + n ≤ c
          · -- there is room
            obtain ⟨news, hnews, hrel⟩ := hf w rfl
            have hnl : news.length = n * q.size := by rw [← hrel.1, hn]
            have hmul : (nn + n) * q.size ≤ c * q.size := Nat.mul_le_mul_right _ hroom
            rw [Nat.add_mul] at hmul
            have hfz : ∀ y, L.sh + ao + nn * q.size + 0 ≤ y → y < L.sh + ao + nn * q.size + 0 + news.length → ¬ (fz.1 ≤ y ∧ y < fz.2) := fun y hy1 hy2 => o3 y (by omega) (by omega)
            have hone' : ∀ v ∈ news, v.oneCell' = true := by
              intro v hv
              obtain ⟨j, hj⟩ := List.mem_iff_getElem?.1 hv
              have hjl : j < xs.length := by rw [hrel.1]; exact (List.getElem?_eq_some_iff.1 hj).1
              have h2 := hrel.2 j _ _ (List.getElem?_eq_getElem hjl) hj
              rw [h2.one]
              exact List.all_eq_true.1 hone _ (List.getElem_mem hjl)
            obtain ⟨w', r1, r2, r3, r4, r5, r6, r7⟩ := run_storeCells (P := P) (b := L.b) (sh := L.sh + ao + nn * q.size) (el := elx) (fz := fz) news 0 w cs hw (by omega) hfz hone'
            have hr := run_app_room (w := w) (w' := w') (ty := o.type) (n := n) ht hdu hdi hq (base := some ⟨L.b, L.sh + ao, none⟩) (sLen := nn) (sCap := c) (hln w) hnews hroom (fun ad hh => by cases hh; rw [addr_add]; exact r1) (fun hh => by cases hh)
            have touch := kill.st.touch (w' := w') hBL hnd r3 (fun o ho => by rw [hw] at ho; cases ho; rfl) r4 r5 r6 r7
            have hnew : BRel m ⟨b.cells.drop ao ++ xs, true⟩ ⟨L.b, L.sh + ao, L.ext - ao, false⟩ w' := by
              refine ⟨fun hx => (by cases hx), fun _ => ⟨putA cs (L.sh + ao + nn * q.size + 0) news, elx, fz, r2, ?_, ?_⟩⟩
              · intro j v hj
                rw [putA_get _ _ _ _ (by omega)]
                simp only at hj
                by_cases hjl : j < nn * q.size
                · rw [List.getElem?_append_left (by simp; omega), List.getElem?_drop] at hj
                  rw [if_neg (by simp only; omega)]
                  obtain ⟨v', k1, k2⟩ := hcells _ v hj
                  exact ⟨v', by rw [← k1]; congr 1; simp only; omega, k2⟩
                · rw [List.getElem?_append_right (by simp; omega)] at hj
                  have hlen : (b.cells.drop ao).length = nn * q.size := by simp; omega
                  rw [hlen] at hj
                  obtain ⟨v', k1, k2⟩ := hrel.get hj
                  have hjx := (List.getElem?_eq_some_iff.1 hj).1
                  rw [if_pos (by simp only; omega)]
                  exact ⟨v', by rw [← k1]; congr 1; simp only; omega, k2⟩
              · intro _
                rw [putA_size]
                refine ⟨?_, ?_, ?_⟩
                · simp only [List.length_append, List.length_drop]; omega
                · simp only; omega
                · intro y hy1 hy2; exact o3 y (by simp only at hy1; omega) (by simp only at hy1 hy2; omega)
            have att := touch.st.attach hnew hnd hBL
            refine ⟨_, _, _, .inl (run_callAppend ho (by rw [hse]; exact hr)), ?_, mloc_append _ _, kill.trans (touch.trans att)⟩
            rw [hnn]
            have := VRel.slice (m := m ++ [some ⟨L.b, L.sh + ao, L.ext - ao, false⟩]) h.length 0 (nn + n) q.size c ⟨L.b, L.sh + ao, L.ext - ao, false⟩ (mloc_append_new s.rel.len.symm) hroom hqs (by simp only; omega) rfl
            simpa using this
          · -- it grows
            obtain ⟨news, hnews, hrel⟩ := hf w.drew rfl
            have hrd : readCells h ⟨ab, ao, none⟩ (nn * q.size) = some ((b.cells.drop ao).take (nn * q.size)) := by
              simp only [readCells, hb]
              rw [if_pos ⟨trivial, by omega⟩]
            obtain ⟨olds, hro, hrelo, hlo, _⟩ := readCells_run (P := P) (Rel.of_heap (w := w) (w' := w.drew) rfl s.rel) hrd hL hmp
            have hdl : (b.cells.drop ao).take (nn * q.size) = b.cells.drop ao := List.take_of_length_le (by simp; omega)
            rw [hdl] at hrelo
            have hnl : news.length = n * q.size := by rw [← hrel.1, hn]
            obtain ⟨c2, cs2, hr, hc1, hc2, hc3⟩ := run_app_grow (ty := o.type) ht hdu hdi hq (hln w) hnews (base := some ⟨L.b, L.sh + ao, none⟩) (sLen := nn) (sCap := c) (olds := olds) (by simp only [Builtin.firstCells, hro]) (by omega) hqb (by rw [← hnn]; omega) (by rw [hlo, hnl, Nat.add_mul])
            have sd := kill.st.drewSt
            have hlen2 : (b.cells.drop ao ++ xs).length = (nn + n) * q.size := by rw [Nat.add_mul]; simp; omega
            have hmul := Nat.mul_le_mul_right q.size hc1
            have htr := kill.trans ((Tr.drew kill.st).trans (Tr.alloc sd (el := el) (cs := cs2) (vs := b.cells.drop ao ++ xs) (ext := c2 * q.size) true (fun j v hj => by
              have hall : VRels m (b.cells.drop ao ++ xs) (olds ++ news) := by
                refine ⟨by rw [List.length_append, List.length_append, hrelo.1, hrel.1], ?_⟩
                intro j v v' h1 h2
                by_cases hjl : j < (b.cells.drop ao).length
                · rw [List.getElem?_append_left hjl] at h1
                  rw [List.getElem?_append_left (by rw [← hrelo.1]; exact hjl)] at h2
                  exact hrelo.2 _ _ _ h1 h2
                · rw [List.getElem?_append_right (by omega)] at h1
                  rw [List.getElem?_append_right (by rw [← hrelo.1]; omega), ← hrelo.1] at h2
                  exact hrel.2 _ _ _ h1 h2
              obtain ⟨v', h1, h2⟩ := hall.get hj
              exact ⟨v', hc3 j v' h1, h2⟩) (by rw [hlen2]; exact hmul) (by omega)))
            refine ⟨_, _, _, .inl (run_callAppend ho (by rw [hse]; exact hr)), ?_, mloc_append _ _, htr⟩
            rw [hnn]
            have := sl_new (m := m) (h := h.set ab none) sd (ext := c2 * q.size) (n := nn + n) (z := q.size) (c := c2) hc1 hqs (Nat.le_refl _)
            simpa using this
end
end Go.Ab

namespace Go.Ab

section
variable {P : Program} {T : TT} {n0 B0 : Nat} {m : Map} {h h' : Heap} {w w' : World} {e : Env} {a : Act} {v : Value}

theorem und_not_iface {t : TypeId} {i : TI} (hk : i.ok P t) (h1 : i.d ≠ .iface) (h2 : i.d ≠ .other) : ∃ d, P.underlying t = some d ∧ ∀ ms, d ≠ .interface ms := by
  have hd := hk.d
  cases hdd : i.d <;> rw [hdd] at hd h1 h2
  case bool => exact ⟨_, hd, by simp⟩
  case int k => exact ⟨_, hd, by simp⟩
  case str => exact ⟨_, hd, by simp⟩
  case ptr => obtain ⟨q, hq⟩ := hd; exact ⟨_, hq, by simp⟩
  case slice q => exact ⟨_, hd, by simp⟩
  case arr n q => exact ⟨_, hd, by simp⟩
  case struct => obtain ⟨q, hq, _⟩ := hd; exact ⟨_, hq, by simp⟩
  case iface => exact absurd rfl h1
  case func => obtain ⟨x, y, z, hq⟩ := hd; exact ⟨_, hq, by simp⟩
  case other => exact absurd rfl h2

theorem aAssert_spec {p : Value} {t : TypeId} {ok : Bool} (hl : aAssert T p t ok = some v) : ∃ i, T t = some i ∧ i.d ≠ .iface ∧ i.d ≠ .other ∧
    ((∃ u q, p = .iface u q ∧ ((u = t ∧ v = if ok then .tuple #[q, .bool true] else q) ∨ (u ≠ t ∧ ok = true ∧ v = .tuple #[i.zv, .bool false]))) ∨ (p = .nilIface ∧ ok = true ∧ v = .tuple #[i.zv, .bool false])) := by
  unfold aAssert at hl
  obtain ⟨i, hi, hl⟩ := Option.bind_eq_some_iff.1 hl
  refine ⟨i, hi, fun hd => by rw [hd] at hl; simp at hl, fun hd => by rw [hd] at hl; simp at hl, ?_⟩
  cases p with
  | iface u q =>
    refine .inl ⟨u, q, rfl, ?_⟩
    by_cases hu : u = t
    · refine .inl ⟨hu, ?_⟩
      cases hd : i.d <;> rw [hd] at hl <;> first | (simp at hl; done) | (simp only [if_pos hu, Option.some.injEq] at hl; exact hl.symm)
    · refine .inr ⟨hu, ?_⟩
      cases hd : i.d <;> rw [hd] at hl <;> first | (simp at hl; done) | (simp only [if_neg hu] at hl; split at hl <;> first | (cases hl; done) | exact ⟨by assumption, (Option.some.inj hl).symm⟩)
  | nilIface =>
    refine .inr ⟨rfl, ?_⟩
    cases hd : i.d <;> rw [hd] at hl <;> first | (simp at hl; done) | (simp only at hl; split at hl <;> first | (cases hl; done) | exact ⟨by assumption, (Option.some.inj hl).symm⟩)
  | _ => cases hd : i.d <;> rw [hd] at hl <;> simp at hl

theorem sound_assert (hT : TT.ok P T) (s : St n0 B0 m h w) (he : ERel m e a) {x : Operand} {t0 t : TypeId} {ok : Bool} {o : Oper} {p : Value} (ho : o.op = .typeAssert x t0 t ok) (hx : eo e x = some p)
    (hl : aAssert T p t ok = some v) : OpOut n0 B0 m h w ((execOp a.eval o).run P w) v h := by
  obtain ⟨i, hi, h1, h2, hcase⟩ := aAssert_spec hl
  have hk := hT t i hi
  have hX := he.op hx
  obtain ⟨d, hd, hdi⟩ := und_not_iface hk h1 h2
  have hz := r_zero (P := P) (w := w) hk
  have hzv := VRel.of_plain m i.zv hk.zp
  have tup : VRel m (.tuple #[i.zv, .bool false]) (.tuple #[i.zv, .bool false]) := by
    have := VRels.cons hzv (VRels.cons (.bool false) (VRels.nil m))
    exact .tuple _ _ this.1 this.2
  generalize hXe : a.eval x = X at hX
  rcases hcase with ⟨u, q, rfl, ⟨rfl, rfl⟩ | ⟨hu, rfl, rfl⟩⟩ | ⟨rfl, rfl, rfl⟩
  · cases hX with
    | iface _ _ q' hq =>
      cases ok
      · refine OpOut.same (v' := q') s ?_ (by simpa using hq)
        simp only [execOp, ho, Instr.typeAssert, hXe, Sem.run_bind, r_underlying hd, Result.andThen_ok]
        cases d <;> first | exact absurd rfl (hdi _) | (simp; done)
      · refine OpOut.same (v' := .tuple #[q', .bool true]) s ?_ ?_
        · simp only [execOp, ho, Instr.typeAssert, hXe, Sem.run_bind, r_underlying hd, Result.andThen_ok]
          cases d <;> first | exact absurd rfl (hdi _) | (simp; done)
        · have := VRels.cons hq (VRels.cons (.bool true) (VRels.nil m))
          exact .tuple _ _ this.1 this.2
  · cases hX with
    | iface _ _ q' hq =>
      refine OpOut.same s ?_ tup
      simp only [execOp, ho, Instr.typeAssert, hXe, Sem.run_bind, r_underlying hd, Result.andThen_ok]
      cases d <;> first | exact absurd rfl (hdi _) | (simp [hu, hz]; done)
  · cases hX
    refine OpOut.same s ?_ tup
    simp only [execOp, ho, Instr.typeAssert, hXe, Sem.run_bind, r_underlying hd, Result.andThen_ok]
    cases d <;> first | exact absurd rfl (hdi _) | (simp [hz]; done)

theorem sound_max (s : St n0 B0 m h w) (he : ERel m e a) {o : Oper} {x y : Operand} {k : IntKind} {p q : Int} {ts : Array TypeId} (ho : o.op = .call { callee := .builtin .max, args := #[x, y], argTypes := ts })
    (hx : eo e x = some (.int k p)) (hy : eo e y = some (.int k q)) : OpOut n0 B0 m h w ((execOp a.eval o).run P w) (.int k (if q > p then q else p)) h := by
  have ex := (he.op hx).plain_eq rfl
  have ey := (he.op hy).plain_eq rfl
  exact OpOut.same s (by simp [execOp, ho, resolve, invoke, builtin, Builtin.max_, Builtin.max2, ex, ey]; done) (.int _ _)

theorem sound_min (s : St n0 B0 m h w) (he : ERel m e a) {o : Oper} {x y : Operand} {k : IntKind} {p q : Int} {ts : Array TypeId} (ho : o.op = .call { callee := .builtin .min, args := #[x, y], argTypes := ts })
    (hx : eo e x = some (.int k p)) (hy : eo e y = some (.int k q)) : OpOut n0 B0 m h w ((execOp a.eval o).run P w) (.int k (if q < p then q else p)) h := by
  have ex := (he.op hx).plain_eq rfl
  have ey := (he.op hy).plain_eq rfl
  exact OpOut.same s (by simp [execOp, ho, resolve, invoke, builtin, Builtin.min_, Builtin.min2, ex, ey]; done) (.int _ _)

/-- EVERY OPERATION that has a value over abstract heaps comes to that value in the model. -/
theorem aOp_sound (hT : TT.ok P T) (s : St n0 B0 m h w) (he : ERel m e a) (o : Oper) (hop : aOp T n0 e h o.op = some (v, h')) : OpOut n0 B0 m h w ((execOp a.eval o).run P w) v h' := by
  unfold aOp at hop
  split at hop
  · obtain ⟨u, hu, hop⟩ := Option.map_eq_some_iff.1 hop
    cases hop
    rename_i x ho
    exact OpOut.same s (by simp [execOp, ho]; done) (he.op hu)
  · obtain ⟨u, hu, hop⟩ := Option.map_eq_some_iff.1 hop
    cases hop
    rename_i x ho
    exact OpOut.same s (by simp [execOp, ho]; done) (he.op hu)
  · rename_i c x y ho
    obtain ⟨cv, hc, hop⟩ := Option.bind_eq_some_iff.1 hop
    obtain ⟨t, rfl⟩ : ∃ t, cv = .bool t := by cases cv <;> first | exact ⟨_, rfl⟩ | (simp at hop; done)
    have ec := (he.op hc).plain_eq rfl
    cases t
    · obtain ⟨u, hu, rfl, rfl⟩ : ∃ u, _ = some u ∧ u = v ∧ h = h' := by simpa using hop
      exact OpOut.same s (by simp [execOp, ho, ec, asBool]; done) (he.op hu)
    · obtain ⟨u, hu, rfl, rfl⟩ : ∃ u, _ = some u ∧ u = v ∧ h = h' := by simpa using hop
      exact OpOut.same s (by simp [execOp, ho, ec, asBool]; done) (he.op hu)
  · rename_i t ho
    obtain ⟨i, hi, hop⟩ := Option.map_eq_some_iff.1 hop
    cases hop
    exact sound_alloc hT s ho hi
  · rename_i t x ho
    obtain ⟨u, hu, hop⟩ := Option.map_eq_some_iff.1 hop
    cases hop
    exact sound_box s he ho hu
  · rename_i t x ho
    obtain ⟨p, hp, hop⟩ := Option.bind_eq_some_iff.1 hop
    obtain ⟨u, hu, hop⟩ := Option.map_eq_some_iff.1 hop
    cases hop
    exact sound_load hT s he ho hp hu
  · rename_i t x y ho
    obtain ⟨p, hp, hop⟩ := Option.bind_eq_some_iff.1 hop
    obtain ⟨q, hq, hop⟩ := Option.bind_eq_some_iff.1 hop
    obtain ⟨u, hu, hop⟩ := Option.map_eq_some_iff.1 hop
    cases hop
    exact sound_store hT s he ho hp hq hu
  · rename_i x ho
    obtain ⟨p, hp, hop⟩ := Option.bind_eq_some_iff.1 hop
    split at hop
    · cases hop; exact sound_nilCheck s he ho hp (.inl ⟨_, rfl⟩)
    · cases hop; exact sound_nilCheck s he ho hp (.inr ⟨_, _, _, rfl⟩)
    · cases hop
  · rename_i op t x y u ho
    obtain ⟨p, hp, hop⟩ := Option.bind_eq_some_iff.1 hop
    obtain ⟨q, hq, hop⟩ := Option.bind_eq_some_iff.1 hop
    obtain ⟨u, hu, hop⟩ := Option.map_eq_some_iff.1 hop
    cases hop
    exact sound_bin hT s he ho hp hq hu
  · rename_i op t x ho
    obtain ⟨p, hp, hop⟩ := Option.bind_eq_some_iff.1 hop
    obtain ⟨u, hu, hop⟩ := Option.map_eq_some_iff.1 hop
    cases hop
    exact sound_un s he ho hp hu
  · rename_i t x f ho
    obtain ⟨p, hp, hop⟩ := Option.bind_eq_some_iff.1 hop
    obtain ⟨u, hu, hop⟩ := Option.map_eq_some_iff.1 hop
    cases hop
    exact sound_field hT s he ho hp hu
  · rename_i t x y ho
    obtain ⟨p, hp, hop⟩ := Option.bind_eq_some_iff.1 hop
    obtain ⟨q, hq, hop⟩ := Option.bind_eq_some_iff.1 hop
    obtain ⟨u, hu, hop⟩ := Option.map_eq_some_iff.1 hop
    cases hop
    exact sound_indexAddr hT s he ho hp hq hu
  · rename_i t x ho
    obtain ⟨p, hp, hop⟩ := Option.bind_eq_some_iff.1 hop
    obtain ⟨i, hi, hop⟩ := Option.bind_eq_some_iff.1 hop
    have h1 : i.d ≠ .iface := by intro hd; rw [hd] at hop; simp at hop
    have h2 : i.d ≠ .other := by intro hd; rw [hd] at hop; simp at hop
    have h3 : some (Value.iface t p, h) = some (v, h') := by cases hdd : i.d <;> rw [hdd] at hop h1 h2 <;> first | exact absurd rfl h1 | exact absurd rfl h2 | exact hop
    cases h3
    exact sound_makeIface hT s he ho hp hi h1 h2
  · rename_i x k ho
    obtain ⟨p, hp, hop⟩ := Option.bind_eq_some_iff.1 hop
    split at hop
    · obtain ⟨u, hu, hop⟩ := Option.map_eq_some_iff.1 hop
      cases hop
      exact sound_extract s he ho hp hu
    · cases hop
  · rename_i args ts ho
    split at hop
    · rename_i x t h1 h2
      obtain ⟨p, hp, hop⟩ := Option.bind_eq_some_iff.1 hop
      obtain ⟨i, hi, hop⟩ := Option.bind_eq_some_iff.1 hop
      obtain ⟨args⟩ := args
      obtain ⟨ts⟩ := ts
      simp only at h1 h2
      subst h1; subst h2
      split at hop
      · rename_i hd _
        cases hop
        exact sound_len hT s he ho hp hi (.inl ⟨hd, _, rfl, rfl⟩)
      · rename_i hd _
        cases hop
        exact sound_len hT s he ho hp hi (.inr ⟨_, _, _, _, hd, rfl, rfl⟩)
      · cases hop
    · cases hop
  · rename_i t ps ho
    obtain ⟨p, hp, hop⟩ := Option.bind_eq_some_iff.1 hop
    obtain ⟨u, hu, hop⟩ := Option.map_eq_some_iff.1 hop
    cases hop
    exact sound_build hT s he ho hp hu
  · rename_i t n ps ho
    obtain ⟨p, hp, hop⟩ := Option.bind_eq_some_iff.1 hop
    exact sound_buildSlice hT s he ho hp hop
  · rename_i t x y ho
    obtain ⟨p, hp, hop⟩ := Option.bind_eq_some_iff.1 hop
    obtain ⟨q, hq, hop⟩ := Option.bind_eq_some_iff.1 hop
    exact sound_makeSlice hT s he ho hp hq hop
  · rename_i t x lo hi mx ho
    obtain ⟨p, hp, hop⟩ := Option.bind_eq_some_iff.1 hop
    obtain ⟨q1, hq1, hop⟩ := Option.bind_eq_some_iff.1 hop
    obtain ⟨q2, hq2, hop⟩ := Option.bind_eq_some_iff.1 hop
    obtain ⟨q3, hq3, hop⟩ := Option.bind_eq_some_iff.1 hop
    obtain ⟨u, hu, hop⟩ := Option.map_eq_some_iff.1 hop
    cases hop
    exact sound_slice hT s he ho hp hq1 hq2 hq3 hu
  · rename_i t x y ho
    obtain ⟨p, hp, hop⟩ := Option.bind_eq_some_iff.1 hop
    obtain ⟨q, hq, hop⟩ := Option.bind_eq_some_iff.1 hop
    obtain ⟨u, hu, hop⟩ := Option.map_eq_some_iff.1 hop
    cases hop
    exact sound_index hT s he ho hp hq hu
  · rename_i t x f ho
    obtain ⟨p, hp, hop⟩ := Option.bind_eq_some_iff.1 hop
    obtain ⟨u, hu, hop⟩ := Option.map_eq_some_iff.1 hop
    cases hop
    exact sound_fieldV hT s he ho hp hu
  · rename_i x t0 t ok ho
    obtain ⟨p, hp, hop⟩ := Option.bind_eq_some_iff.1 hop
    obtain ⟨u, hu, hop⟩ := Option.map_eq_some_iff.1 hop
    cases hop
    exact sound_assert hT s he ho hp hu
  · rename_i t u x ho
    obtain ⟨p, hp, hop⟩ := Option.bind_eq_some_iff.1 hop
    obtain ⟨u, hu, hop⟩ := Option.map_eq_some_iff.1 hop
    cases hop
    exact sound_conv hT s he ho hp hu
  · rename_i f xs ys ho
    obtain ⟨p, hp, hop⟩ := Option.bind_eq_some_iff.1 hop
    obtain ⟨u, hu, hop⟩ := Option.map_eq_some_iff.1 hop
    cases hop
    exact sound_makeFunc s he ho hp hu
  · rename_i args ts ho
    split at hop
    · rename_i sx x t u h1 h2
      obtain ⟨p, hp, hop⟩ := Option.bind_eq_some_iff.1 hop
      obtain ⟨q, hq, hop⟩ := Option.bind_eq_some_iff.1 hop
      obtain ⟨args⟩ := args
      obtain ⟨ts⟩ := ts
      simp only at h1 h2
      subst h1; subst h2
      exact sound_append hT s he ho hp hq hop
    · cases hop
  · rename_i args ts ho
    split at hop
    · rename_i x y h1
      obtain ⟨p, hp, hop⟩ := Option.bind_eq_some_iff.1 hop
      obtain ⟨q, hq, hop⟩ := Option.bind_eq_some_iff.1 hop
      obtain ⟨args⟩ := args
      simp only at h1
      subst h1
      split at hop
      · split at hop
        · rename_i hk
          subst hk
          cases hop
          exact sound_max s he ho hp hq
        · cases hop
      · cases hop
    · cases hop
  · rename_i args ts ho
    split at hop
    · rename_i x y h1
      obtain ⟨p, hp, hop⟩ := Option.bind_eq_some_iff.1 hop
      obtain ⟨q, hq, hop⟩ := Option.bind_eq_some_iff.1 hop
      obtain ⟨args⟩ := args
      simp only at h1
      subst h1
      split at hop
      · split at hop
        · rename_i hk
          subst hk
          cases hop
          exact sound_min s he ho hp hq
        · cases hop
      · cases hop
    · cases hop
  · cases hop
end
end Go.Ab
