/- The contract of the iterator over the faces of a gluing that grows. Conditions: none beyond the given model and program. -/
import Derived.Test.YtnimgapjllhccaaGreatDoorIt
namespace Go.Ab
open Go.Proofs
def faceH2 (n : Nat) (x : List Int) : Heap := [some ⟨[.slice (some ⟨1, 0, none⟩) n 20], false⟩, some ⟨ints x, false⟩]
set_option maxRecDepth 10000
theorem faceH2_sub (n : Nat) (x : List Int) : ∀ i b, hblk (faceH2 n x) i = some b → subL (idS 2) b.cells b.cells := by
  intro i b hb
  simp only [faceH2] at hb
  match i with
  | 0 => simp [hblk] at hb; subst hb; exact ⟨_, _, rfl, .inr ⟨1, by decide, rfl⟩, rfl⟩
  | 1 => simp [hblk] at hb; subst hb; exact subL_plain _ _ (ints_plain x)
  | i + 2 => simp [hblk] at hb

theorem faces_seq2 {n : Nat} {x : List Int} (hnb : n < 1000000000) (hx : x.length = 20 * n) : SeqOf Tryz.prog 62 [.pointer (some ⟨0, 0, none⟩)] (faceH2 n x) (facesL n x) := by
  have hfs := faceH2_sub n x
  have hhs : faceH2 n x = [some ⟨[.slice (some ⟨1, 0, none⟩) n 20], false⟩, some ⟨ints x, false⟩] := rfl
  refine SeqOf.of_iwp Tryz.func62 rfl (by kernel_rfl) (by rw [hhs]; rfl) rfl (Nat.le_of_ble_eq_true rfl) ?_
  intro l m0 JJ IE
  rw [hhs] at IE hfs ⊢
  have hlx := ints_length x
  refine iwp_step TY_ok (by decide) fun K hK => ?_
  simp only [aOpsW, aWant, opt_some, opt_map, if_true, if_false, aOp, eo_tmp, eo_int, put_some, aLoad, aField, ofCells, readCells, hblk, Nat.reduceEqDiff, Nat.reduceLeDiff, List.length_cons, List.length_nil, List.getElem?_cons_zero, List.getElem?_cons_succ, Option.join_some, Option.bind_some, Option.map_some, List.drop_zero, List.take_zero, List.take_succ_cons, ne_eq, not_false_eq_true, true_and, and_self, reduceCtorEq, Nat.zero_add  , TY_22, TY_24, ti22, ti24, argEnv]
  refine hK _ _ ?_
  clear hK K
  refine iwp_block ?_
  refine iwp_loop (α := Nat) (fun k => envOf [(0, .func (.yield l) #[] #[]), (1, .pointer (some ⟨0, 0, none⟩)), (8, .int .i64 (n : Nat)), (9, .int .i64 (k : Nat))]) (fun _ => [some ⟨[.slice (some ⟨1, 0, none⟩) n 20], false⟩, some ⟨ints x, false⟩]) (fun k => some (4 * k)) (fun k => k ≤ n) (fun k => n - k) 0 (by omega) rfl ?_ ?_
  · refine Ref.keep (x := []) rfl hfs ?_
    intro p hp
    simp only [List.mem_cons, List.not_mem_nil, or_false] at hp
    rcases hp with rfl | rfl | rfl | rfl
    · exact ⟨rfl, _, _, rfl, rfl, rfl⟩
    · exact ⟨rfl, 0, rfl, rfl⟩
    · exact ⟨rfl, rfl⟩
    · exact ⟨rfl, rfl⟩
  · intro k hk
    refine iwp_step TY_ok (by decide) fun K hK => ?_
    simp only [aOpsW, aWant, opt_some, if_true, ilt_eq, ile_eq, if_false, aOp, eo_tmp, put_some, aBin, aIntOp, Bool.false_eq_true, Nat.reduceEqDiff, Option.bind_some, Option.map_some, ne_eq, reduceCtorEq  , isCst, Bool.or_false, TY_3, ti3, envOf]
    refine hK _ _ ?_
    clear hK K
    refine iwp_seq (iwp_if (p := ((k : Nat) : Int) < (n : Nat)) rfl (fun hlt => iwp_skip ?_) (fun hge => iwp_exit ?_))
    · have hkn : k < n := by omega
      refine iwp_seq (iwp_block ?_)
      refine iwp_step TY_ok (by decide) fun K hK => ?_
      simp only [aOpsW, aWant, opt_some, if_true, if_false, aOp, eo_tmp, put_some, Nat.reduceEqDiff, Option.map_some, reduceCtorEq  ]
      refine hK _ _ ?_
      clear hK K
      have hdr : ((ints x).drop (k * 20)).length = 20 * n - k * 20 := by rw [List.length_drop, hlx, hx]
      refine iwp_step TY_ok (by decide) fun K hK => ?_
      simp only [aOpsW, aWant, opt_some, opt_map, opt_bind, opt_ite, if_true, if_false, aOp, eo_tmp, eo_int, put_some, aLoad, aField, aIndexAddr, ofCells, readCells, hblk, Nat.reduceEqDiff, Nat.reduceLeDiff, List.length_cons, List.length_nil, List.getElem?_cons_zero, List.getElem?_cons_succ, Option.join_some, Option.bind_some, Option.map_some, List.drop_zero, List.take_zero, List.take_succ_cons, ne_eq, not_false_eq_true, and_true, true_and, and_self, reduceCtorEq, Int.toNat_natCast, Nat.zero_add  , TY_22, TY_24, TY_35, ti22, ti24, ti35, hlx, hx]
      refine ⟨⟨by omega, by omega⟩, by omega, hK _ _ ?_⟩
      clear hK K
      have hrow : ints ((x.drop (20 * k)).take 20) = ((ints x).drop (k * 20)).take 20 := by simp [ints, List.map_drop, List.map_take, Nat.mul_comm]
      rw [← hrow]
      refine iwp_block ?_
      refine iwp_loop (α := Nat) (fun j => envOf [(0, .func (.yield l) #[] #[]), (1, .pointer (some ⟨0, 0, none⟩)), (3, .int .i64 (k : Nat)), (8, .int .i64 (n : Nat)), (9, .int .i64 (k : Nat)), (16, .agg (ints ((x.drop (20 * k)).take 20)).toArray), (17, .int .i64 (j : Nat))]) (fun _ => [some ⟨[.slice (some ⟨1, 0, none⟩) n 20], false⟩, some ⟨ints x, false⟩]) (fun j => some (4 * k + j)) (fun j => j ≤ 4) (fun j => 4 - j) 0 (by omega) rfl ?_ ?_
      · refine Ref.keep (x := []) rfl hfs ?_
        intro p hp
        simp only [List.mem_cons, List.not_mem_nil, or_false] at hp
        rcases hp with rfl | rfl | rfl | rfl | rfl | rfl | rfl
        · exact ⟨rfl, _, _, rfl, rfl, rfl⟩
        · exact ⟨rfl, 0, rfl, rfl⟩
        · exact ⟨rfl, rfl⟩
        · exact ⟨rfl, rfl⟩
        · exact ⟨rfl, rfl⟩
        · exact ⟨rfl, _, rfl, subL_plain _ _ (ints_plain _)⟩
        · exact ⟨rfl, rfl⟩
      · intro j hj
        refine iwp_step TY_ok (by decide) fun K hK => ?_
        simp only [aOpsW, aWant, opt_some, if_true, ilt_eq, ile_eq, if_false, aOp, eo_tmp, eo_int, put_some, aBin, aIntOp, Nat.reduceEqDiff, Option.bind_some, Option.map_some, ne_eq, reduceCtorEq  , isCst, Bool.or_true, TY_3, ti3, envOf]
        refine hK _ _ ?_
        clear hK K
        refine iwp_seq (iwp_if (p := ((j : Nat) : Int) < 4) rfl (fun hlt => iwp_skip ?_) (fun hge => iwp_exit ?_))
        · have hj4 : j < 4 := by omega
          refine iwp_seq (iwp_block ?_)
          have hface : List.take 5 (List.drop (j * 5) (ints ((x.drop (20 * k)).take 20))) = ints (faceAt x (4 * k + j)) := by
            simp only [ints, faceAt, List.map_take, List.map_drop, List.drop_take, List.take_take, List.drop_drop]
            rw [show min 5 (20 - j * 5) = 5 by omega, show 20 * k + j * 5 = 5 * (4 * k + j) by omega]
          have hfl : (ints (faceAt x (4 * k + j))).length = 5 := by
            rw [ints_length]; simp only [faceAt, List.length_take, List.length_drop]; omega
          have htk : List.take 5 (ints (faceAt x (4 * k + j))) = ints (faceAt x (4 * k + j)) := List.take_of_length_le (by omega)
          have hone : (ints (faceAt x (4 * k + j))).all Value.oneCell' = true := by simp [ints, Value.oneCell']
          refine iwp_step TY_ok (by decide) fun K hK => ?_
          simp only [aOpsW, aWant, opt_some, opt_map, opt_ite, if_true, if_false, aOp, eo_tmp, allocB, put_some, put_none, vc_agg, aStore, aIndex, aPart, writeCells, hblk, splice, Nat.reduceEqDiff, Nat.reduceAdd, Nat.reduceLeDiff, List.length_cons, List.length_nil, List.nil_append, List.cons_append, List.getElem?_cons_zero, List.getElem?_cons_succ, Option.join_some, Option.bind_some, Option.map_some, List.set_cons_zero, List.set_cons_succ, List.drop_succ_cons, List.take_zero, List.append_nil, true_and, and_self, reduceCtorEq, Int.toNat_natCast, List.size_toArray, Nat.zero_add, List.drop_nil  , TY_34, TY_35, ti34, ti35, hface, hfl, hone]
          refine ⟨⟨by omega, by omega⟩, hK _ _ ?_⟩
          clear hK K
          refine iwp_seq (iwp_region TY_ok IE (by decide) ?_)
          refine ⟨rfl, .inr ?_⟩
          simp only [opt_some, if_true, if_false, aOp, eo_tmp, put_some, Nat.reduceAdd, List.length_cons, List.length_nil, Option.map_some, reduceCtorEq, Nat.zero_add  ]
          refine ⟨rfl, .inr ?_⟩
          simp only [opt_some, if_true, if_false, aOp, eo_tmp, put_some, Nat.reduceEqDiff, Option.map_some, reduceCtorEq  ]
          refine ⟨rfl, .inr ?_⟩
          simp only [opt_some, if_true, if_false, aOp, eo_tmp, put_some, Nat.reduceEqDiff, Option.map_some, reduceCtorEq  ]
          refine ⟨rfl, .inr ?_⟩
          simp only [opt_some, if_true, if_false, aOp, eo_tmp, put_some, vc_agg, vc_int, splice, Nat.reduceEqDiff, Nat.reduceAdd, Nat.reduceLeDiff, List.length_cons, List.length_nil, List.nil_append, List.cons_append, List.getElem?_cons_zero, List.getElem?_cons_succ, Option.bind_some, Option.map_some, List.drop_zero, List.drop_succ_cons, List.take_zero, List.take_succ_cons, List.append_nil, true_and, and_self, reduceCtorEq, List.size_toArray, List.all_cons, List.all_nil, Bool.and_true, Nat.zero_add, List.length_append, List.drop_nil , eParts, aBuild, aFill, Option.isSome_some , TY_3, TY_67, ti3, ti67]
          refine ⟨rfl, .inr ?_⟩
          simp only [opt_some, if_true, if_false, aOp, eo_tmp, put_some, aLoad, ofCells, readCells, hblk, Nat.reduceEqDiff, Nat.reduceLeDiff, List.getElem?_cons_zero, List.getElem?_cons_succ, Option.join_some, Option.bind_some, Option.map_some, List.drop_zero, and_self, reduceCtorEq, Nat.zero_add  , TY_34, ti34, hfl, htk]
          refine ⟨rfl, .inl ⟨.tmp 21, _, _, _, 4 * k + j, rfl, rfl, rfl, rfl, facesL_get hkn hj4, ?_, envOf [(0, .func (.yield l) #[] #[]), (1, .pointer (some ⟨0, 0, none⟩)), (3, .int .i64 (k : Nat)), (8, .int .i64 (n : Nat)), (9, .int .i64 (k : Nat)), (16, .agg (ints ((x.drop (20 * k)).take 20)).toArray), (17, .int .i64 (j : Nat))], ?_, ?_⟩⟩
          · intro v hv
            simp only [List.mem_cons, List.not_mem_nil, or_false] at hv
            rcases hv with rfl | rfl
            · rfl
            · exact ints_plain _
          · intro t v hv
            simp only [envOf, put_some] at hv ⊢
            repeat' split at hv
            all_goals first | (cases hv; done) | skip
            all_goals cases hv
            all_goals subst_vars
            all_goals refine ⟨rfl, ?_⟩
            · exact ⟨_, _, rfl, rfl, rfl⟩
            · exact ⟨0, rfl, rfl⟩
            · rfl
            · rfl
            · rfl
            · exact ⟨_, rfl, subL_plain _ _ (ints_plain _)⟩
            · rfl
          · intro b
            refine ⟨rfl, .inr ⟨(.bool !b, _), rfl, ?_⟩⟩
            refine (?_ : iwp _ _ _ _ _ _ _ _ _ _)
            refine iwp_cond (t := !b) rfl ?_
            cases b with
            | false => exact iwp_ret (.inl rfl)
            | true =>
              refine iwp_skip ?_
              have hwr : IntKind.i64.wrap ((j : Int) + 1) = ((j + 1 : Nat) : Int) := by rw [wrap_of (by omega) (by omega)]; omega
              simp only [iblockQ, ithenQ]
              refine iwp_last TY_ok (by decide) fun K hK => ?_
              simp only [aOpsW]
              refine ⟨true, rfl, ?_⟩
              refine ⟨(.int .i64 (j + 1 : Nat), _), by rw [← hwr]; rfl, true, rfl, ⟨(.int .i64 (j + 1 : Nat), _), rfl, hK _ _ ⟨j + 1, by omega, by congr 1, by omega, ?_⟩⟩⟩
              refine Ref.keep (x := []) rfl hfs ?_
              intro p hp
              simp only [List.mem_cons, List.not_mem_nil, or_false] at hp
              rcases hp with rfl | rfl | rfl | rfl | rfl | rfl | rfl
              · exact ⟨rfl, _, _, rfl, rfl, rfl⟩
              · exact ⟨rfl, 0, rfl, rfl⟩
              · exact ⟨rfl, rfl⟩
              · exact ⟨rfl, rfl⟩
              · exact ⟨rfl, rfl⟩
              · exact ⟨rfl, _, rfl, subL_plain _ _ (ints_plain _)⟩
              · exact ⟨rfl, rfl⟩
        · have hj4 : j = 4 := by omega
          subst hj4
          simp only [ithenQ, iblockQ, if_true]
          have hwr : IntKind.i64.wrap ((k : Int) + 1) = ((k + 1 : Nat) : Int) := by rw [wrap_of (by omega) (by omega)]; omega
          refine iwp_last TY_ok (by decide) fun K hK => ?_
          simp only [aOpsW, aWant, opt_some, if_true, ilt_eq, ile_eq, if_false, aOp, eo_tmp, eo_int, put_some, aBin, aIntOp, Nat.reduceEqDiff, Option.bind_some, Option.map_some, ne_eq, reduceCtorEq  , isCst, Bool.or_true, TY_3, ti3, hwr]
          refine hK _ _ ⟨k + 1, by omega, by congr 1, by omega, ?_⟩
          clear hK K
          refine Ref.keep (x := []) rfl hfs ?_
          intro p hp
          simp only [List.mem_cons, List.not_mem_nil, or_false] at hp
          rcases hp with rfl | rfl | rfl | rfl
          · exact ⟨rfl, _, _, rfl, rfl, rfl⟩
          · exact ⟨rfl, 0, rfl, rfl⟩
          · exact ⟨rfl, rfl⟩
          · exact ⟨rfl, rfl⟩
    · have hkn : k = n := by omega
      subst hkn
      simp only [iblockQ, ithenQ, if_true, iEnd]
      exact .inr (by rw [facesL_length])
end Go.Ab
