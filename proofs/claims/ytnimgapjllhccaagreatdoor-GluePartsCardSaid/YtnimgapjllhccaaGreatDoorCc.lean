/- The contract of the law over what it is given. Conditions: none beyond the given model and program. -/
import Derived.Test.YtnimgapjllhccaaGreatDoorCd
import Derived.Test.YtnimgapjllhccaaGreatDoorUc
import Derived.Test.YtnimgapjllhccaaGreatDoorCards
import Derived.Test.YtnimgapjllhccaaGreatDoorTie
namespace Go.Ab
open Go.ChangeShapes Go.WideShapes Go.RowKit Go.Proofs

set_option maxRecDepth 100000 in
theorem contractGlueParts (H : Type) (enc : TypeId × Value → H) (W : World) (base : Nat) (args : Array Value) (ds gs : List (DataW H)) (before : List MemPlace)
    (hval : ∀ (j : Nat) t v, Tryz.f5.params[j]? = some t → args[j]? = some v → Value.okWide Tryz.prog W .any base t v)
    (hW : DataW.Whole enc Tryz.prog Tryz.f5.params.toList YtnimgapjllhccaaGreatDoor.Rows.gluePartsSpec.vars false W args.toList ds gs before) :
    Calls Tryz.prog 5 args W fun e W' => ∃ v, e = .returned v ∧ YtnimgapjllhccaaGreatDoor.Rows.gluePartsSpec.post enc Tryz.prog Tryz.f5 false true false false W args v W' := by
  obtain ⟨args⟩ := args
  have hW' := hW
  obtain ⟨p, q, hA0, hV, rfl, hfz, hnd⟩ := hW
  have hA : DataW.TrodAll enc Tryz.prog W 0 (fun _ => true) true Tryz.f5.params.toList args ds p := hA0
  rw [Tryz.params5] at hA hval
  obtain ⟨v0, r0, d0, e0, p0, q0, rfl, rfl, rfl, t0, u0⟩ := trodAll_cons hA
  obtain ⟨v1, r1, d1, e1, p1, q1, rfl, rfl, rfl, t1, u1⟩ := trodAll_cons u0
  obtain ⟨rfl, rfl, rfl⟩ := trodAll_nil u1
  obtain ⟨s0, n0, x0, l0, rfl, b0⟩ := open24 (hval 0 24 v0 rfl rfl) t0
  obtain ⟨s1, n1, x1, l1, rfl, b1⟩ := open24 (hval 1 24 v1 rfl rfl) t1
  have hs := parts_law b0.1 b1.1
  have hrel := rel_list (W := W) [(x0, l0), (x1, l1)] (by
    intro p hp
    simp only [List.mem_cons, List.not_mem_nil, or_false] at hp
    rcases hp with rfl | rfl
    · exact ⟨b0.2.1, b0.2.2.1⟩
    · exact ⟨b1.2.1, b1.2.2.1⟩)
  have hc := hs.2 _ W [.agg ⟨[s0]⟩, .agg ⟨[s1]⟩] hrel
    (.cons (agg_one (b0.2.2.2 _ 0 rfl)) (.cons (agg_one (b1.2.2.2 _ 1 rfl)) (.nil _)))
  refine hc.mono ?_
  rintro en W' ⟨m', out, h', rfl, hout, tr⟩
  cases en <;> simp only [OutRel] at hout
  have hv := hout.plain_eq rfl
  subst hv
  have hb : Below W.heap.size W W' := tr.below (all_ro (L := [(x0, l0), (x1, l1)]))
  refine ⟨_, rfl, post_true (tb := 4) hW' rfl ⟨rfl, rfl, rfl⟩ laidOut ?_ hb ?_ (show Tryz.prog.underlying 4 = some .bool by kernel_rfl)⟩
  · rw [Tryz.params5]
    intro t ht
    have hall : ([24, 24] : List TypeId).all (fun t => Tryz.prog.readableRec t && decide (t < Tryz.prog.types.size)) = true := by kernel_rfl
    have := List.all_eq_true.1 hall t ht
    simpa using this
  · kernel_rfl
end Go.Ab
