/- The contract of the iterator over the faces of a gluing. Conditions: none beyond the given model and program. -/
import Derived.Test.YtnimgapjllhccaaGreatDoorTy
namespace Go.Ab
open Go.Proofs

section
variable {P : Program} {T : TT} {n n0 : Nat} {m0 : Map} {JJ : Option Nat → World → Prop} {Q : IQ} {o : Option Nat} {e : Env} {h : Heap}

theorem iwp_step {l : List Oper} {id : Nat} {d : Code} (hT : TT.ok P T) (hd : dstOk n l = true)
    (hw : ∀ K : AX → Env → Heap → Prop, (∀ e h, iwp P n n0 m0 JJ d Q o e h → K .normal e h) → aOpsW P T n0 l.toArray K l e h) : iwp P n n0 m0 JJ (.seq (.region id l.toArray false) d) Q o e h := by
  refine iwp_seq (iwp_lift (awp_region hT hd (hw _ ?_)))
  intro e h hq; exact hq

theorem iwp_last {l : List Oper} {id : Nat} (hT : TT.ok P T) (hd : dstOk n l = true)
    (hw : ∀ K : AX → Env → Heap → Prop, (∀ e h, Q .normal o e h → K .normal e h) → aOpsW P T n0 l.toArray K l e h) : iwp P n n0 m0 JJ (.region id l.toArray false) Q o e h :=
  iwp_lift (awp_region hT hd (hw _ fun _ _ x => x))

theorem iwp_if {c : Operand} {x y : Code} {p : Prop} [Decidable p] (hc : eo e c = some (.bool (decide p))) (h1 : p → iwp P n n0 m0 JJ x Q o e h) (h2 : ¬ p → iwp P n n0 m0 JJ y Q o e h) : iwp P n n0 m0 JJ (.cond c x y) Q o e h := by
  refine iwp_cond hc ?_
  by_cases hp : p
  · simpa [hp] using h1 hp
  · simpa [hp] using h2 hp

theorem iwp_skip (hq : Q .normal o e h) : iwp P n n0 m0 JJ .skip Q o e h := iwp_lift (awp_skip hq)
theorem iwp_exit {id : Nat} (hq : Q (.exit id) o e h) : iwp P n n0 m0 JJ (.exit id) Q o e h := iwp_lift (awp_exit hq)
theorem iwp_ret (hq : Q .ret o e h) : iwp P n n0 m0 JJ .ret Q o e h := iwp_lift (awp_ret hq)
end

/-- The newest blocks are forgotten; of the frame's places those are kept that are plain or speak of the blocks that stay. -/
theorem Ref.keep {n0 : Nat} {e : Env} {h x : Heap} {l : List (Nat × Value)} (hn : h.length = n0) (hb : ∀ i b, hblk h i = some b → subL (idS n0) b.cells b.cells) (hl : ∀ p ∈ l, e p.1 = some p.2 ∧ sub (idS n0) p.2 p.2) : Ref n0 (envOf l) h e (h ++ x) := by
  refine Ref.of_emb (s := idS n0) ⟨by simp [idS, hn], ?_, ?_⟩ ⟨by simp [idS], fun i hi => idS_get hi, ?_⟩ (flags_append (by omega)).symm ?_
  · intro i b hi
    have hlt := hblk_lt hi
    exact .inl ⟨i, b, idS_get (by omega), by rw [hblk_append_left hlt]; exact hi, hb i b hi, fun h => h⟩
  · intro i j k b b' hij h1 _ h2 h3 h4
    have a1 := hblk_lt h1
    have a2 := hblk_lt h2
    rw [idS_get (by omega)] at h3 h4
    cases h3; cases h4; exact hij rfl
  · intro i j hi hj
    rw [idS_ge hi] at hj; cases hj
  · refine (?_ : envSub (idS n0) e l)
    clear hb hn
    induction l with
    | nil => trivial
    | cons p q ih =>
      obtain ⟨t, v⟩ := p
      exact ⟨⟨v, (hl (t, v) (List.mem_cons_self ..)).1, (hl (t, v) (List.mem_cons_self ..)).2⟩, ih fun x hx => hl x (List.mem_cons_of_mem _ hx)⟩
end Go.Ab

namespace Go.Ab
open Go.Proofs

theorem envSub_of_get {s : List (Option Nat)} {e : Env} : ∀ {l : List (Nat × Value)}, (∀ p ∈ l, ∃ u, e p.1 = some u ∧ sub s p.2 u) → envSub s e l := by
  intro l
  induction l with
  | nil => intro _; trivial
  | cons p q ih => intro hl; obtain ⟨t, v⟩ := p; exact ⟨hl (t, v) (List.mem_cons_self ..), ih fun x hx => hl x (List.mem_cons_of_mem _ hx)⟩

/-- The cells of a gluing of n tetrahedra. -/
def gcells (n : Nat) (x : List Int) : Prop := x.length = 20 * n
def ints (x : List Int) : List Value := x.map fun n => .int .i64 n

theorem ints_plain (x : List Int) : plainL (ints x) = true := by
  induction x with
  | nil => rfl
  | cons a q ih => simpa [ints, plainL, plain] using ih

theorem ints_length (x : List Int) : (ints x).length = x.length := by simp [ints]

/-- A gluing's blocks: the variable that holds it, the faces. -/
def faceHs (n : Nat) (x : List Int) : Heap := if n = 0 then [some ⟨[.slice none 0 0], false⟩] else [some ⟨[.slice (some ⟨1, 0, none⟩) n 20], false⟩, some ⟨ints x, false⟩]

def faceAt (x : List Int) (i : Nat) : List Int := (x.drop (5 * i)).take 5
def facesL (n : Nat) (x : List Int) : List (List Value) := (List.range (4 * n)).map fun i => [.agg #[.int .i64 (i / 4 : Nat), .int .i64 (i % 4 : Nat)], .agg ⟨ints (faceAt x i)⟩]

theorem facesL_get {n : Nat} {x : List Int} {k j : Nat} (hk : k < n) (hj : j < 4) : (facesL n x)[4 * k + j]? = some [.agg #[.int .i64 (k : Nat), .int .i64 (j : Nat)], .agg ⟨ints (faceAt x (4 * k + j))⟩] := by
  have h1 : 4 * k + j < 4 * n := by omega
  simp only [facesL, List.getElem?_map, List.getElem?_range h1, Option.map_some]
  rw [show (4 * k + j) / 4 = k by omega, show (4 * k + j) % 4 = j by omega]

theorem facesL_length (n : Nat) (x : List Int) : (facesL n x).length = 4 * n := by simp [facesL]

set_option maxRecDepth 10000
theorem faceHs_sub {n : Nat} (hn : 0 < n) (x : List Int) : ∀ i b, hblk (faceHs n x) i = some b → subL (idS 2) b.cells b.cells := by
  intro i b hb
  have h0 : n ≠ 0 := by omega
  simp only [faceHs, if_neg h0] at hb
  match i with
  | 0 => simp [hblk] at hb; subst hb; exact ⟨_, _, rfl, .inr ⟨1, by decide, rfl⟩, rfl⟩
  | 1 => simp [hblk] at hb; subst hb; exact subL_plain _ _ (ints_plain x)
  | i + 2 => simp [hblk] at hb

theorem faces_seq {n : Nat} {x : List Int} (hn : 0 < n) (hnb : n < 1000000000) (hx : x.length = 20 * n) : SeqOf Tryz.prog 62 [.pointer (some ⟨0, 0, none⟩)] (faceHs n x) (facesL n x) := by
  have h0 : n ≠ 0 := by omega
  have hfs := faceHs_sub hn x
  have hhs : faceHs n x = [some ⟨[.slice (some ⟨1, 0, none⟩) n 20], false⟩, some ⟨ints x, false⟩] := by simp [faceHs, h0]
  refine SeqOf.of_iwp Tryz.func62 rfl (by kernel_rfl) (by rw [hhs]; rfl) rfl (Nat.le_of_ble_eq_true rfl) ?_
  intro l m0 JJ IE
  rw [hhs] at IE hfs ⊢
  have hlx := ints_length x
  refine iwp_step TY_ok (by decide) fun K hK => ?_
  simp only [aOpsW, aWant, opt_some, opt_map, if_true, if_false, aOp, eo_tmp, eo_int, put_some, aLoad, aField, ofCells, readCells, hblk, Nat.reduceEqDiff, Nat.reduceLeDiff, List.length_cons, List.length_nil, List.getElem?_cons_zero, List.getElem?_cons_succ, Option.join_some, Option.bind_some, Option.map_some, List.drop_zero, List.take_zero, List.take_succ_cons, ne_eq, not_false_eq_true, true_and, and_self, reduceCtorEq, Nat.zero_add  , TY_22, TY_24, ti22, ti24, argEnv]
  refine hK _ _ ?_
  clear hK K
  refine iwp_block ?_
  refine iwp_loop (α := Nat) (fun k => envOf [(0, .func (.yield l) #[] #[]), (1, .pointer (some ⟨0, 0, none⟩)), (8, .int .i64 (n : Nat)), (9, .int .i64 (k : Nat))]) (fun _ => [some ⟨[.slice (some ⟨1, 0, none⟩) n 20], false⟩, some ⟨ints x, false⟩]) (fun k => some (4 * k)) (fun k => k ≤ n) (fun k => n - k) 0 (by omega) rfl ?_ ?_
  · refine Ref.keep (x := []) rfl hfs ?_
    intro p hp
    simp only [List.mem_cons, List.not_mem_nil, or_false] at hp
    rcases hp with rfl | rfl | rfl | rfl
    · exact ⟨rfl, _, _, rfl, rfl, rfl⟩
    · exact ⟨rfl, 0, rfl, rfl⟩
    · exact ⟨rfl, rfl⟩
    · exact ⟨rfl, rfl⟩
  · intro k hk
    refine iwp_step TY_ok (by decide) fun K hK => ?_
    simp only [aOpsW, aWant, opt_some, if_true, ilt_eq, ile_eq, if_false, aOp, eo_tmp, put_some, aBin, aIntOp, Bool.false_eq_true, Nat.reduceEqDiff, Option.bind_some, Option.map_some, ne_eq, reduceCtorEq  , isCst, Bool.or_false, TY_3, ti3, envOf]
    refine hK _ _ ?_
    clear hK K
    refine iwp_seq (iwp_if (p := ((k : Nat) : Int) < (n : Nat)) rfl (fun hlt => iwp_skip ?_) (fun hge => iwp_exit ?_))
    · have hkn : k < n := by omega
      refine iwp_seq (iwp_block ?_)
      refine iwp_step TY_ok (by decide) fun K hK => ?_
      simp only [aOpsW, aWant, opt_some, if_true, if_false, aOp, eo_tmp, put_some, Nat.reduceEqDiff, Option.map_some, reduceCtorEq  ]
      refine hK _ _ ?_
      clear hK K
      have hdr : ((ints x).drop (k * 20)).length = 20 * n - k * 20 := by rw [List.length_drop, hlx, hx]
      refine iwp_step TY_ok (by decide) fun K hK => ?_
      simp only [aOpsW, aWant, opt_some, opt_map, opt_bind, opt_ite, if_true, if_false, aOp, eo_tmp, eo_int, put_some, aLoad, aField, aIndexAddr, ofCells, readCells, hblk, Nat.reduceEqDiff, Nat.reduceLeDiff, List.length_cons, List.length_nil, List.getElem?_cons_zero, List.getElem?_cons_succ, Option.join_some, Option.bind_some, Option.map_some, List.drop_zero, List.take_zero, List.take_succ_cons, ne_eq, not_false_eq_true, and_true, true_and, and_self, reduceCtorEq, Int.toNat_natCast, Nat.zero_add  , TY_22, TY_24, TY_35, ti22, ti24, ti35, hlx, hx]
      refine ⟨⟨by omega, by omega⟩, by omega, hK _ _ ?_⟩
      clear hK K
      have hrow : ints ((x.drop (20 * k)).take 20) = ((ints x).drop (k * 20)).take 20 := by simp [ints, List.map_drop, List.map_take, Nat.mul_comm]
      rw [← hrow]
      refine iwp_block ?_
      refine iwp_loop (α := Nat) (fun j => envOf [(0, .func (.yield l) #[] #[]), (1, .pointer (some ⟨0, 0, none⟩)), (3, .int .i64 (k : Nat)), (8, .int .i64 (n : Nat)), (9, .int .i64 (k : Nat)), (16, .agg (ints ((x.drop (20 * k)).take 20)).toArray), (17, .int .i64 (j : Nat))]) (fun _ => [some ⟨[.slice (some ⟨1, 0, none⟩) n 20], false⟩, some ⟨ints x, false⟩]) (fun j => some (4 * k + j)) (fun j => j ≤ 4) (fun j => 4 - j) 0 (by omega) rfl ?_ ?_
      · refine Ref.keep (x := []) rfl hfs ?_
        intro p hp
        simp only [List.mem_cons, List.not_mem_nil, or_false] at hp
        rcases hp with rfl | rfl | rfl | rfl | rfl | rfl | rfl
        · exact ⟨rfl, _, _, rfl, rfl, rfl⟩
        · exact ⟨rfl, 0, rfl, rfl⟩
        · exact ⟨rfl, rfl⟩
        · exact ⟨rfl, rfl⟩
        · exact ⟨rfl, rfl⟩
        · exact ⟨rfl, _, rfl, subL_plain _ _ (ints_plain _)⟩
        · exact ⟨rfl, rfl⟩
      · intro j hj
        refine iwp_step TY_ok (by decide) fun K hK => ?_
        simp only [aOpsW, aWant, opt_some, if_true, ilt_eq, ile_eq, if_false, aOp, eo_tmp, eo_int, put_some, aBin, aIntOp, Nat.reduceEqDiff, Option.bind_some, Option.map_some, ne_eq, reduceCtorEq  , isCst, Bool.or_true, TY_3, ti3, envOf]
        refine hK _ _ ?_
        clear hK K
        refine iwp_seq (iwp_if (p := ((j : Nat) : Int) < 4) rfl (fun hlt => iwp_skip ?_) (fun hge => iwp_exit ?_))
        · have hj4 : j < 4 := by omega
          refine iwp_seq (iwp_block ?_)
          have hface : List.take 5 (List.drop (j * 5) (ints ((x.drop (20 * k)).take 20))) = ints (faceAt x (4 * k + j)) := by
            simp only [ints, faceAt, List.map_take, List.map_drop, List.drop_take, List.take_take, List.drop_drop]
            rw [show min 5 (20 - j * 5) = 5 by omega, show 20 * k + j * 5 = 5 * (4 * k + j) by omega]
          have hfl : (ints (faceAt x (4 * k + j))).length = 5 := by
            rw [ints_length]; simp only [faceAt, List.length_take, List.length_drop]; omega
          have htk : List.take 5 (ints (faceAt x (4 * k + j))) = ints (faceAt x (4 * k + j)) := List.take_of_length_le (by omega)
          have hone : (ints (faceAt x (4 * k + j))).all Value.oneCell' = true := by simp [ints, Value.oneCell']
          refine iwp_step TY_ok (by decide) fun K hK => ?_
          simp only [aOpsW, aWant, opt_some, opt_map, opt_ite, if_true, if_false, aOp, eo_tmp, allocB, put_some, put_none, vc_agg, aStore, aIndex, aPart, writeCells, hblk, splice, Nat.reduceEqDiff, Nat.reduceAdd, Nat.reduceLeDiff, List.length_cons, List.length_nil, List.nil_append, List.cons_append, List.getElem?_cons_zero, List.getElem?_cons_succ, Option.join_some, Option.bind_some, Option.map_some, List.set_cons_zero, List.set_cons_succ, List.drop_succ_cons, List.take_zero, List.append_nil, true_and, and_self, reduceCtorEq, Int.toNat_natCast, List.size_toArray, Nat.zero_add, List.drop_nil  , TY_34, TY_35, ti34, ti35, hface, hfl, hone]
          refine ⟨⟨by omega, by omega⟩, hK _ _ ?_⟩
          clear hK K
          refine iwp_seq (iwp_region TY_ok IE (by decide) ?_)
          refine ⟨rfl, .inr ?_⟩
          simp only [opt_some, if_true, if_false, aOp, eo_tmp, put_some, Nat.reduceAdd, List.length_cons, List.length_nil, Option.map_some, reduceCtorEq, Nat.zero_add  ]
          refine ⟨rfl, .inr ?_⟩
          simp only [opt_some, if_true, if_false, aOp, eo_tmp, put_some, Nat.reduceEqDiff, Option.map_some, reduceCtorEq  ]
          refine ⟨rfl, .inr ?_⟩
          simp only [opt_some, if_true, if_false, aOp, eo_tmp, put_some, Nat.reduceEqDiff, Option.map_some, reduceCtorEq  ]
          refine ⟨rfl, .inr ?_⟩
          simp only [opt_some, if_true, if_false, aOp, eo_tmp, put_some, vc_agg, vc_int, splice, Nat.reduceEqDiff, Nat.reduceAdd, Nat.reduceLeDiff, List.length_cons, List.length_nil, List.nil_append, List.cons_append, List.getElem?_cons_zero, List.getElem?_cons_succ, Option.bind_some, Option.map_some, List.drop_zero, List.drop_succ_cons, List.take_zero, List.take_succ_cons, List.append_nil, true_and, and_self, reduceCtorEq, List.size_toArray, List.all_cons, List.all_nil, Bool.and_true, Nat.zero_add, List.length_append, List.drop_nil , eParts, aBuild, aFill, Option.isSome_some , TY_3, TY_67, ti3, ti67]
          refine ⟨rfl, .inr ?_⟩
          simp only [opt_some, if_true, if_false, aOp, eo_tmp, put_some, aLoad, ofCells, readCells, hblk, Nat.reduceEqDiff, Nat.reduceLeDiff, List.getElem?_cons_zero, List.getElem?_cons_succ, Option.join_some, Option.bind_some, Option.map_some, List.drop_zero, and_self, reduceCtorEq, Nat.zero_add  , TY_34, ti34, hfl, htk]
          refine ⟨rfl, .inl ⟨.tmp 21, _, _, _, 4 * k + j, rfl, rfl, rfl, rfl, facesL_get hkn hj4, ?_, envOf [(0, .func (.yield l) #[] #[]), (1, .pointer (some ⟨0, 0, none⟩)), (3, .int .i64 (k : Nat)), (8, .int .i64 (n : Nat)), (9, .int .i64 (k : Nat)), (16, .agg (ints ((x.drop (20 * k)).take 20)).toArray), (17, .int .i64 (j : Nat))], ?_, ?_⟩⟩
          · intro v hv
            simp only [List.mem_cons, List.not_mem_nil, or_false] at hv
            rcases hv with rfl | rfl
            · rfl
            · exact ints_plain _
          · intro t v hv
            simp only [envOf, put_some] at hv ⊢
            repeat' split at hv
            all_goals first | (cases hv; done) | skip
            all_goals cases hv
            all_goals subst_vars
            all_goals refine ⟨rfl, ?_⟩
            · exact ⟨_, _, rfl, rfl, rfl⟩
            · exact ⟨0, rfl, rfl⟩
            · rfl
            · rfl
            · rfl
            · exact ⟨_, rfl, subL_plain _ _ (ints_plain _)⟩
            · rfl
          · intro b
            refine ⟨rfl, .inr ⟨(.bool !b, _), rfl, ?_⟩⟩
            refine (?_ : iwp _ _ _ _ _ _ _ _ _ _)
            refine iwp_cond (t := !b) rfl ?_
            cases b with
            | false => exact iwp_ret (.inl rfl)
            | true =>
              refine iwp_skip ?_
              have hwr : IntKind.i64.wrap ((j : Int) + 1) = ((j + 1 : Nat) : Int) := by rw [wrap_of (by omega) (by omega)]; omega
              simp only [iblockQ, ithenQ]
              refine iwp_last TY_ok (by decide) fun K hK => ?_
              simp only [aOpsW]
              refine ⟨true, rfl, ?_⟩
              refine ⟨(.int .i64 (j + 1 : Nat), _), by rw [← hwr]; rfl, true, rfl, ⟨(.int .i64 (j + 1 : Nat), _), rfl, hK _ _ ⟨j + 1, by omega, by congr 1, by omega, ?_⟩⟩⟩
              refine Ref.keep (x := []) rfl hfs ?_
              intro p hp
              simp only [List.mem_cons, List.not_mem_nil, or_false] at hp
              rcases hp with rfl | rfl | rfl | rfl | rfl | rfl | rfl
              · exact ⟨rfl, _, _, rfl, rfl, rfl⟩
              · exact ⟨rfl, 0, rfl, rfl⟩
              · exact ⟨rfl, rfl⟩
              · exact ⟨rfl, rfl⟩
              · exact ⟨rfl, rfl⟩
              · exact ⟨rfl, _, rfl, subL_plain _ _ (ints_plain _)⟩
              · exact ⟨rfl, rfl⟩
        · have hj4 : j = 4 := by omega
          subst hj4
          simp only [ithenQ, iblockQ, if_true]
          have hwr : IntKind.i64.wrap ((k : Int) + 1) = ((k + 1 : Nat) : Int) := by rw [wrap_of (by omega) (by omega)]; omega
          refine iwp_last TY_ok (by decide) fun K hK => ?_
          simp only [aOpsW, aWant, opt_some, if_true, ilt_eq, ile_eq, if_false, aOp, eo_tmp, eo_int, put_some, aBin, aIntOp, Nat.reduceEqDiff, Option.bind_some, Option.map_some, ne_eq, reduceCtorEq  , isCst, Bool.or_true, TY_3, ti3, hwr]
          refine hK _ _ ⟨k + 1, by omega, by congr 1, by omega, ?_⟩
          clear hK K
          refine Ref.keep (x := []) rfl hfs ?_
          intro p hp
          simp only [List.mem_cons, List.not_mem_nil, or_false] at hp
          rcases hp with rfl | rfl | rfl | rfl
          · exact ⟨rfl, _, _, rfl, rfl, rfl⟩
          · exact ⟨rfl, 0, rfl, rfl⟩
          · exact ⟨rfl, rfl⟩
          · exact ⟨rfl, rfl⟩
    · have hkn : k = n := by omega
      subst hkn
      simp only [iblockQ, ithenQ, if_true, iEnd]
      exact .inr (by rw [facesL_length])
end Go.Ab

namespace Go.Ab
open Go.Proofs

def toInts : List Value → Option (List Int)
  | [] => some []
  | .int .i64 n :: q => match toInts q with | some r => some (n :: r) | none => none
  | _ => none

theorem toInts_eq : ∀ (l : List Value) (x : List Int), toInts l = some x → l = ints x := by
  intro l
  induction l with
  | nil => intro x h; simp [toInts] at h; subst h; rfl
  | cons v q ih =>
    intro x h
    unfold toInts at h
    split at h
    · cases ‹_ = []›
    · rename_i n q' heq
      cases heq
      split at h
      · rename_i r hr
        cases h
        rw [ih r hr]; rfl
      · cases h
    · cases h

def SQ : SeqF := fun f cap h =>
  if f = 62 then
    match cap with
    | [.pointer (some ⟨b, 0, none⟩)] =>
      match hblk h b with
      | some ⟨[.slice (some ⟨c, 0, none⟩) n 20], _⟩ =>
        match hblk h c with
        | some blk =>
          match toInts blk.cells with
          | some x => if (decide (x.length = 20 * n) && decide (0 < n) && decide (n < 1000000000)) = true then some ([some b, some c], faceHs n x, [.pointer (some ⟨0, 0, none⟩)], facesL n x) else none
          | none => none
        | none => none
      | _ => none
    | _ => none
  else none

theorem SQ_ok : seqsOk Tryz.prog SQ := by
  intro f cap h s hs cap2 L hq
  unfold SQ at hq
  split at hq
  · rename_i hf
    subst hf
    split at hq
    · rename_i b
      split at hq
      · rename_i c n own hb
        split at hq
        · rename_i blk hc
          split at hq
          · rename_i x hx
            split at hq
            · rename_i hck
              simp only [Bool.and_eq_true, decide_eq_true_eq] at hck
              simp only [Option.some.injEq, Prod.mk.injEq] at hq
              obtain ⟨rfl, rfl, rfl, rfl⟩ := hq
              refine ⟨faces_seq hck.1.2 hck.2 hck.1.1, ?_, ⟨_, _, rfl, ⟨b, rfl, rfl⟩, rfl⟩⟩
              have hn : n ≠ 0 := by omega
              simp only [faceHs, if_neg hn]
              have hcs := toInts_eq _ _ hx
              refine ⟨rfl, ?_, ?_⟩
              · intro i b2 hi
                match i with
                | 0 => simp [hblk] at hi; subst hi; exact .inl ⟨b, _, rfl, hb, ⟨_, _, rfl, .inr ⟨c, rfl, rfl⟩, rfl⟩, fun hh => by cases hh⟩
                | 1 => simp [hblk] at hi; subst hi; exact .inl ⟨c, blk, rfl, hc, by rw [hcs]; exact subL_plain _ _ (ints_plain x), fun hh => by cases hh⟩
                | i + 2 => simp [hblk] at hi
              · intro i j k b2 b2' _ hi ho
                match i with
                | 0 => simp [hblk] at hi; subst hi; cases ho
                | 1 => simp [hblk] at hi; subst hi; cases ho
                | i + 2 => simp [hblk] at hi
            · cases hq
          · cases hq
        · cases hq
      · cases hq
    · cases hq
  · cases hq

noncomputable def XC1 (fuel : Nat) : XC := { T := TY, fn := FN, lib := fun _ _ _ => none, seqs := SQ, own := fun _ => false, fuel }
def gl (l : List (Int × List Int)) : Heap := [some ⟨ints (l.flatMap fun p => p.1 :: p.2), false⟩]
def gOne : Heap := gl [(0, [1, 0, 2, 3]), (0, [1, 0, 2, 3]), (0, [0, 1, 3, 2]), (0, [0, 1, 3, 2])]
def okRetV (x : Option (AOut × Heap)) (v : Value) : Bool := match x with | some (.ret u, _) => veq u v | _ => false
theorem tc : okRetV (xCall (XC1 100) 10 13 [.agg #[.slice (some ⟨0, 0, none⟩) 1 20]] gOne) (.int .i64 0) = true := by kernel_rfl
end Go.Ab
