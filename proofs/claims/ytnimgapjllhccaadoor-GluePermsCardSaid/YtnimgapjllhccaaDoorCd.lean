/- What the row asks behind the call follows from the contract. Conditions: none beyond the given model and program. -/
import Derived.Test.YtnimgapjllhccaaDoorAbC
import Derived.Carry
import Derived.OpenShut
import Derived.ProofKit
import Derived.Test.YtnimgapjllhccaaDoorVe
import Derived.Test.YtnimgapjllhccaaDoorCards
import Derived.Test.YtnimgapjllhccaaDoorTie
import Derived.WalkKit
import Derived.LaidMore
import Derived.Deep.DeepHandedRow
import Derived.SevenTiedAt
namespace Go.Ab
open Go.ChangeShapes Go.WideShapes Go.RowKit

section
variable {H : Type} {enc : TypeId × Value → H} {P : Program}

/-- Below the heap's old size nothing has turned, where no block of the arguments may be written. -/
theorem Tr.below {n0 : Nat} {m m' : Map} {h h' : Heap} {w w' : World} (hno : ∀ i : Nat, (flags n0 h)[i]? ≠ some true) (tr : Tr n0 w.heap.size m h w m' h' w') : Below w.heap.size w w' :=
  ⟨tr.fr.os, tr.fr.tape, tr.fr.output, tr.fr.size, fun k hk => tr.fr.keep k hk fun ⟨i, _, h1, _⟩ => hno i h1⟩

theorem trodAll_stays (hl : laidOutB P = true) {W W' : World} {sp' : Nat → Bool} : ∀ {ts : List TypeId} {vs : List Value} {ds : List (DataW H)} {ps : List MemPlace}, (∀ t ∈ ts, P.readableRec t = true ∧ t < P.types.size) →
    DataW.TrodAll enc P W 0 (fun _ => true) true ts vs ds ps → (∀ p ∈ ps, W.sameAt W' p) → (∀ p ∈ ps, sp' p.block = true) → DataW.TrodAll enc P W' 0 sp' true ts vs ds ps := by
  intro ts
  induction ts with
  | nil =>
    intro vs ds ps _ h _ _
    obtain ⟨rfl, rfl, rfl⟩ := trodAll_nil h
    exact trodAll_mk0
  | cons t ts ih =>
    intro vs ds ps hts h hs hsp
    obtain ⟨v, vs', d, ds', p, q, rfl, rfl, rfl, h1, h2⟩ := trodAll_cons h
    have ht := hts t (List.mem_cons_self ..)
    exact ⟨p, q, WideElems.Trod_stays hl ht.1 ht.2 h1 (fun x hx => hs x (List.mem_append_left _ hx)) (fun x hx => hsp x (List.mem_append_left _ hx)),
      ih (fun t' h' => hts t' (List.mem_cons_of_mem _ h')) h2 (fun x hx => hs x (List.mem_append_right _ hx)) (fun x hx => hsp x (List.mem_append_right _ hx)), rfl⟩

theorem frozen_of {W W' : World} (hb : Below W.heap.size W W') (a : Addr) (ha : a.block < W.heap.size) : W'.frozen? a = W.frozen? a := by
  unfold World.frozen?; rw [hb.block _ ha]

/-- THE ROW's ASKING. -/
theorem post_true {f : Func} {s : ChangeSpec} {apart fresh handsOn again : Bool} {W W' : World} {args : Array Value} {ds gs : List (DataW H)} {before : List MemPlace} {tb : TypeId}
    (hW : DataW.Whole enc P f.params.toList s.vars apart W args.toList ds gs before) (hv : s.vars = [])
    (hs : (s.fn H ds).results = [.lit (.bool true)] ∧ (s.fn H ds).args = ds ∧ (s.fn H ds).vars = [])
    (hl : laidOutB P = true) (hr : ∀ t ∈ f.params.toList, P.readableRec t = true ∧ t < P.types.size) (hb : Below W.heap.size W W')
    (hrt : f.resultTypes = #[tb]) (htb : P.underlying tb = some .bool) : s.post enc P f apart fresh handsOn again W args (.bool true) W' := by
  have hW' := hW
  obtain ⟨p, q, hA, hV, rfl, hz, hn⟩ := hW'
  rw [hv] at hV
  obtain ⟨rfl, rfl⟩ := trodVars_none hV
  have hlt : ∀ x ∈ p, x.block < W.heap.size := fun x hx => hW.lt x (by simpa using hx)
  have hsame : ∀ x ∈ p, W.sameAt W' x := fun x hx => hb.same (hlt x hx)
  have hres : ∀ (b : Nat) (sp : Nat → Bool) (hd : Bool), DataW.TrodAll enc P W' b sp hd f.resultTypes.toList ((Value.bool true).resultList f.resultTypes.size) [.lit (.bool true)] [] := by
    intro b sp hd
    rw [hrt]
    exact trodAll_mk1 (shut_bool htb true)
  have hargs : ∀ sp : Nat → Bool, (∀ x ∈ p, sp x.block = true) → DataW.TrodAll enc P W' 0 sp true f.params.toList args.toList ds p := fun sp hsp => trodAll_stays hl hr hA hsame hsp
  have hvars : ∀ sp : Nat → Bool, DataW.TrodVars enc P W' sp s.vars [] [] := fun sp => by rw [hv]; rfl
  have hold : ∀ x ∈ p, (fun b => decide (b < W.heap.size)) x.block = true := fun x hx => by simpa using hlt x hx
  refine ⟨ds, [], p ++ [], [], p, [], hW, ?_, ?_, ?_, ?_, fun _ => ?_⟩
  · simp only [List.append_nil]; rw [hs.1]; exact hres _ _ _
  · simp only [List.append_nil]; rw [hs.2.1]; exact hargs _ hold
  · simp only [List.append_nil]; rw [hs.2.2]; exact hvars _
  · exact hb.frame _
  · refine ⟨ok_one hrt rfl (okWide_bool_mk htb true), _, _, ([] ++ p) ++ [], ⟨[] ++ p, [], trodAll_append (hargs _ fun _ _ => rfl) (hres _ _ _), hvars _, rfl, ?_, ?_⟩, ?_⟩
    · intro b off hp
      rw [frozen_of hb _ (hlt _ (by simpa using hp))]
      exact hz b off (by simpa using hp)
    · intro ha
      have := hn ha
      simpa using this
    · intro x hx _
      simpa using hx
end
end Go.Ab

namespace Go.Ab
open Go.ChangeShapes Go.WideShapes Go.RowKit Go.Proofs

section
variable {H : Type} {enc : TypeId × Value → H} {P : Program}
theorem open_ints4 {W : World} {base : Nat} {sp : Nat → Bool} {t e : TypeId} {v : Value} {d : DataW H} {p : List MemPlace} (ht : P.underlying t = some (.array 4 e)) (he : P.underlying e = some (.int .i64)) (hc : P.cellsOf e = 1) (hct : P.cellsOf t = 4)
    (hok : Value.okWide P W .any base t v) (h : DataW.Trod enc P W 0 sp true t v d p) : ∃ x : Pm, v = pmv x := by
  simp only [Value.okWide, ht] at hok
  obtain ⟨cs, rfl, hsz, _⟩ := hok
  rw [hct] at hsz
  obtain ⟨fuel, h⟩ := h
  obtain ⟨xs, m, rfl, hx, hl, hn, hel⟩ := DataW.trod_array ht h
  obtain ⟨l⟩ := cs
  have hl4 : l.length = 4 := by simpa using hsz
  obtain ⟨a, b, c, d, rfl⟩ : ∃ a b c d, l = [a, b, c, d] := by
    match l, hl4 with
    | [a, b, c, d], _ => exact ⟨a, b, c, d, rfl⟩
  have key : ∀ (i : Nat) (z : Value), i < 4 → (([a, b, c, d] : List Value).drop (i * 1)).take 1 = [z] → ∃ k : Int, z = .int .i64 k := by
    intro i z hi hz
    have := hel i hi
    rw [hc] at this
    have hz' : (((Value.agg ⟨[a, b, c, d]⟩).cells.toList).drop (i * 1)).take 1 = [z] := hz
    rw [hz'] at this
    have hlt : i < xs.length := by omega
    rw [List.getElem?_eq_getElem hlt] at this
    obtain ⟨k, h1, h2, h3⟩ := DataW.trod_int he this
    simp only [List.cons.injEq, and_true] at h1
    exact ⟨k, h1⟩
  obtain ⟨x0, rfl⟩ := key 0 a (by omega) rfl
  obtain ⟨x1, rfl⟩ := key 1 b (by omega) rfl
  obtain ⟨x2, rfl⟩ := key 2 c (by omega) rfl
  obtain ⟨x3, rfl⟩ := key 3 d (by omega) rfl
  exact ⟨⟨x0, x1, x2, x3⟩, rfl⟩
end

theorem laidOut : laidOutB Tryd.prog = true := by kernel_rfl
theorem own : ownKnob Tryd.prog.godebug = none := by kernel_rfl

set_option maxRecDepth 100000 in
theorem contract (H : Type) (enc : TypeId × Value → H) (W : World) (base : Nat) (args : Array Value) (ds gs : List (DataW H)) (before : List MemPlace)
    (hval : ∀ (j : Nat) t v, Tryd.f3.params[j]? = some t → args[j]? = some v → Value.okWide Tryd.prog W .any base t v)
    (hW : DataW.Whole enc Tryd.prog Tryd.f3.params.toList YtnimgapjllhccaaDoor.Rows.gluePermsSpec.vars false W args.toList ds gs before) :
    Calls Tryd.prog 3 args W fun e W' => ∃ v, e = .returned v ∧ YtnimgapjllhccaaDoor.Rows.gluePermsSpec.post enc Tryd.prog Tryd.f3 false true false false W args v W' := by
  have hW' := hW
  obtain ⟨p, q, hA0, hV, rfl, hfz, hnd⟩ := hW
  have hA : DataW.TrodAll enc Tryd.prog W 0 (fun _ => true) true Tryd.f3.params.toList args.toList ds p := hA0
  rw [Tryd.params3] at hA hval
  obtain ⟨v0, v1, v2, d0, d1, d2, p0, p1, p2, rfl, rfl, rfl, h0, h1, h2⟩ := trodAll_three hA
  have c3 : Tryd.prog.cellsOf 3 = 1 := by kernel_rfl
  have c23 : Tryd.prog.cellsOf 23 = 4 := by kernel_rfl
  obtain ⟨x0, rfl⟩ := open_ints4 Tryd.underlying23 Tryd.underlying3 c3 c23 (hval 0 23 v0 rfl rfl) h0
  obtain ⟨x1, rfl⟩ := open_ints4 Tryd.underlying23 Tryd.underlying3 c3 c23 (hval 1 23 v1 rfl rfl) h1
  obtain ⟨x2, rfl⟩ := open_ints4 Tryd.underlying23 Tryd.underlying3 c3 c23 (hval 2 23 v2 rfl rfl) h2
  have hs := perms_true x0 x1 x2 []
  have hc := hs.2 [] W [pmv x0, pmv x1, pmv x2] ⟨rfl, fun i b L hb => by simp [hblk] at hb, fun i b hb => by simp [hblk] at hb, fun i j b b' L L' _ hb => by simp [hblk] at hb⟩
    ⟨rfl, fun j v v' h1 h2 => by rw [h1] at h2; cases h2; exact VRel.of_plain _ _ (by have := List.mem_of_getElem? h1; simp at this; rcases this with rfl | rfl | rfl <;> rfl)⟩
  refine hc.mono ?_
  rintro en W' ⟨m', out, h', ⟨rfl, rfl⟩, hout, tr⟩
  cases en <;> simp only [OutRel] at hout
  have hv := hout.plain_eq rfl
  subst hv
  have hb : Below W.heap.size W W' := tr.below (fun i hi => by simp [flags] at hi)
  refine ⟨_, rfl, post_true (tb := 4) hW' rfl ⟨rfl, rfl, rfl⟩ laidOut ?_ hb ?_ Tryd.underlying4⟩
  · rw [Tryd.params3]
    intro t ht
    have hall : ([23, 23, 23] : List TypeId).all (fun t => Tryd.prog.readableRec t && decide (t < Tryd.prog.types.size)) = true := by kernel_rfl
    have := List.all_eq_true.1 hall t ht
    simpa using this
  · kernel_rfl
end Go.Ab
