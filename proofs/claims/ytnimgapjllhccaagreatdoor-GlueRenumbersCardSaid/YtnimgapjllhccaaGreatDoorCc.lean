/- The contract of the law over what it is given. Conditions: none beyond the given model and program. -/
import Derived.Test.YtnimgapjllhccaaGreatDoorCd
import Derived.Test.YtnimgapjllhccaaGreatDoorSr
import Derived.Test.YtnimgapjllhccaaGreatDoorCards
import Derived.Test.YtnimgapjllhccaaGreatDoorTie
namespace Go.Ab
open Go.ChangeShapes Go.WideShapes Go.RowKit Go.Proofs

set_option maxRecDepth 100000 in
theorem contractGlueRenumbers (H : Type) (enc : TypeId × Value → H) (W : World) (base : Nat) (args : Array Value) (ds gs : List (DataW H)) (before : List MemPlace)
    (hval : ∀ (j : Nat) t v, Tryz.f6.params[j]? = some t → args[j]? = some v → Value.okWide Tryz.prog W .any base t v)
    (hW : DataW.Whole enc Tryz.prog Tryz.f6.params.toList YtnimgapjllhccaaGreatDoor.Rows.glueRenumbersSpec.vars false W args.toList ds gs before) :
    Calls Tryz.prog 6 args W fun e W' => ∃ v, e = .returned v ∧ YtnimgapjllhccaaGreatDoor.Rows.glueRenumbersSpec.post enc Tryz.prog Tryz.f6 false true false false W args v W' := by
  obtain ⟨args⟩ := args
  have hW' := hW
  obtain ⟨p, q, hA0, hV, rfl, hfz, hnd⟩ := hW
  have hA : DataW.TrodAll enc Tryz.prog W 0 (fun _ => true) true Tryz.f6.params.toList args ds p := hA0
  rw [Tryz.params6] at hA hval
  obtain ⟨v0, r0, d0, e0, p0, q0, rfl, rfl, rfl, t0, u0⟩ := trodAll_cons hA
  obtain ⟨v1, r1, d1, e1, p1, q1, rfl, rfl, rfl, t1, u1⟩ := trodAll_cons u0
  obtain ⟨v2, r2, d2, e2, p2, q2, rfl, rfl, rfl, t2, u2⟩ := trodAll_cons u1
  obtain ⟨v3, r3, d3, e3, p3, q3, rfl, rfl, rfl, t3, u3⟩ := trodAll_cons u2
  obtain ⟨v4, r4, d4, e4, p4, q4, rfl, rfl, rfl, t4, u4⟩ := trodAll_cons u3
  obtain ⟨rfl, rfl, rfl⟩ := trodAll_nil u4
  obtain ⟨s0, n0, x0, l0, rfl, b0⟩ := open24 (hval 0 24 v0 rfl rfl) t0
  obtain ⟨n1, x1, l1, b1⟩ := open36 (hval 1 36 v1 rfl rfl) t1
  obtain ⟨n2, x2, l2, b2⟩ := open36 (hval 2 36 v2 rfl rfl) t2
  obtain ⟨n3, x3, l3, b3⟩ := open43 (hval 3 43 v3 rfl rfl) t3
  obtain ⟨n4, x4, l4, b4⟩ := open43 (hval 4 43 v4 rfl rfl) t4
  have hs := renumbers_law b0.1 (show x1.length = n1 by have := b1.1; omega) (show x2.length = n2 by have := b2.1; omega) b3.1 b4.1
  have hrel := rel_list (W := W) [(x0, l0), (x1, l1), (x2, l2), (x3, l3), (x4, l4)] (by
    intro p hp
    simp only [List.mem_cons, List.not_mem_nil, or_false] at hp
    rcases hp with rfl | rfl | rfl | rfl | rfl
    · exact ⟨b0.2.1, b0.2.2.1⟩
    · exact ⟨b1.2.1, b1.2.2.1⟩
    · exact ⟨b2.2.1, b2.2.2.1⟩
    · exact ⟨b3.2.1, b3.2.2.1⟩
    · exact ⟨b4.2.1, b4.2.2.1⟩)
  have hc := hs.2 _ W [.agg ⟨[s0]⟩, v1, v2, v3, v4] hrel
    (.cons (agg_one (b0.2.2.2 _ 0 rfl)) (.cons (b1.2.2.2 _ 1 rfl) (.cons (b2.2.2.2 _ 2 rfl) (.cons (b3.2.2.2 _ 3 rfl) (.cons (b4.2.2.2 _ 4 rfl) (.nil _))))))
  refine hc.mono ?_
  rintro en W' ⟨m', out, h', rfl, hout, tr⟩
  cases en <;> simp only [OutRel] at hout
  have hv := hout.plain_eq rfl
  subst hv
  have hb : Below W.heap.size W W' := tr.below (all_ro (L := [(x0, l0), (x1, l1), (x2, l2), (x3, l3), (x4, l4)]))
  refine ⟨_, rfl, post_true (tb := 4) hW' rfl ⟨rfl, rfl, rfl⟩ laidOut ?_ hb ?_ (show Tryz.prog.underlying 4 = some .bool by kernel_rfl)⟩
  · rw [Tryz.params6]
    intro t ht
    have hall : ([24, 36, 36, 43, 43] : List TypeId).all (fun t => Tryz.prog.readableRec t && decide (t < Tryz.prog.types.size)) = true := by kernel_rfl
    have := List.all_eq_true.1 hall t ht
    simpa using this
  · kernel_rfl
end Go.Ab
