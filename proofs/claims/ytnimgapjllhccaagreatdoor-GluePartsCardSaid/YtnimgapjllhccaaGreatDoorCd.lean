/- What a row asks behind the call follows from the contract; arguments opened as blocks. Conditions: none beyond the given model and program. -/
import Derived.Test.YtnimgapjllhccaaGreatDoorAbC
import Derived.Carry
import Derived.OpenShut
import Derived.ProofKit
import Derived.Test.YtnimgapjllhccaaGreatDoorSp
import Derived.WalkKit
import Derived.LaidMore
import Derived.Deep.DeepHandedRow
import Derived.SevenTiedAt
namespace Go.Ab
open Go.ChangeShapes Go.WideShapes Go.RowKit

section
variable {H : Type} {enc : TypeId × Value → H} {P : Program}

/-- Below the heap's old size nothing has turned, where no block of the arguments may be written. -/
theorem Tr.below {n0 : Nat} {m m' : Map} {h h' : Heap} {w w' : World} (hno : ∀ i : Nat, (flags n0 h)[i]? ≠ some true) (tr : Tr n0 w.heap.size m h w m' h' w') : Below w.heap.size w w' :=
  ⟨tr.fr.os, tr.fr.tape, tr.fr.output, tr.fr.size, fun k hk => tr.fr.keep k hk fun ⟨i, _, h1, _⟩ => hno i h1⟩

theorem trodAll_stays (hl : laidOutB P = true) {W W' : World} {sp' : Nat → Bool} : ∀ {ts : List TypeId} {vs : List Value} {ds : List (DataW H)} {ps : List MemPlace}, (∀ t ∈ ts, P.readableRec t = true ∧ t < P.types.size) →
    DataW.TrodAll enc P W 0 (fun _ => true) true ts vs ds ps → (∀ p ∈ ps, W.sameAt W' p) → (∀ p ∈ ps, sp' p.block = true) → DataW.TrodAll enc P W' 0 sp' true ts vs ds ps := by
  intro ts
  induction ts with
  | nil =>
    intro vs ds ps _ h _ _
    obtain ⟨rfl, rfl, rfl⟩ := trodAll_nil h
    exact trodAll_mk0
  | cons t ts ih =>
    intro vs ds ps hts h hs hsp
    obtain ⟨v, vs', d, ds', p, q, rfl, rfl, rfl, h1, h2⟩ := trodAll_cons h
    have ht := hts t (List.mem_cons_self ..)
    exact ⟨p, q, WideElems.Trod_stays hl ht.1 ht.2 h1 (fun x hx => hs x (List.mem_append_left _ hx)) (fun x hx => hsp x (List.mem_append_left _ hx)),
      ih (fun t' h' => hts t' (List.mem_cons_of_mem _ h')) h2 (fun x hx => hs x (List.mem_append_right _ hx)) (fun x hx => hsp x (List.mem_append_right _ hx)), rfl⟩

theorem frozen_of {W W' : World} (hb : Below W.heap.size W W') (a : Addr) (ha : a.block < W.heap.size) : W'.frozen? a = W.frozen? a := by
  unfold World.frozen?; rw [hb.block _ ha]

/-- THE ROW's ASKING. -/
theorem post_true {f : Func} {s : ChangeSpec} {apart fresh handsOn again : Bool} {W W' : World} {args : Array Value} {ds gs : List (DataW H)} {before : List MemPlace} {tb : TypeId}
    (hW : DataW.Whole enc P f.params.toList s.vars apart W args.toList ds gs before) (hv : s.vars = [])
    (hs : (s.fn H ds).results = [.lit (.bool true)] ∧ (s.fn H ds).args = ds ∧ (s.fn H ds).vars = [])
    (hl : laidOutB P = true) (hr : ∀ t ∈ f.params.toList, P.readableRec t = true ∧ t < P.types.size) (hb : Below W.heap.size W W')
    (hrt : f.resultTypes = #[tb]) (htb : P.underlying tb = some .bool) : s.post enc P f apart fresh handsOn again W args (.bool true) W' := by
  have hW' := hW
  obtain ⟨p, q, hA, hV, rfl, hz, hn⟩ := hW'
  rw [hv] at hV
  obtain ⟨rfl, rfl⟩ := trodVars_none hV
  have hlt : ∀ x ∈ p, x.block < W.heap.size := fun x hx => hW.lt x (by simpa using hx)
  have hsame : ∀ x ∈ p, W.sameAt W' x := fun x hx => hb.same (hlt x hx)
  have hres : ∀ (b : Nat) (sp : Nat → Bool) (hd : Bool), DataW.TrodAll enc P W' b sp hd f.resultTypes.toList ((Value.bool true).resultList f.resultTypes.size) [.lit (.bool true)] [] := by
    intro b sp hd
    rw [hrt]
    exact trodAll_mk1 (shut_bool htb true)
  have hargs : ∀ sp : Nat → Bool, (∀ x ∈ p, sp x.block = true) → DataW.TrodAll enc P W' 0 sp true f.params.toList args.toList ds p := fun sp hsp => trodAll_stays hl hr hA hsame hsp
  have hvars : ∀ sp : Nat → Bool, DataW.TrodVars enc P W' sp s.vars [] [] := fun sp => by rw [hv]; rfl
  have hold : ∀ x ∈ p, (fun b => decide (b < W.heap.size)) x.block = true := fun x hx => by simpa using hlt x hx
  refine ⟨ds, [], p ++ [], [], p, [], hW, ?_, ?_, ?_, ?_, fun _ => ?_⟩
  · simp only [List.append_nil]; rw [hs.1]; exact hres _ _ _
  · simp only [List.append_nil]; rw [hs.2.1]; exact hargs _ hold
  · simp only [List.append_nil]; rw [hs.2.2]; exact hvars _
  · exact hb.frame _
  · refine ⟨ok_one hrt rfl (okWide_bool_mk htb true), _, _, ([] ++ p) ++ [], ⟨[] ++ p, [], trodAll_append (hargs _ fun _ _ => rfl) (hres _ _ _), hvars _, rfl, ?_, ?_⟩, ?_⟩
    · intro b off hp
      rw [frozen_of hb _ (hlt _ (by simpa using hp))]
      exact hz b off (by simpa using hp)
    · intro ha
      have := hn ha
      simpa using this
    · intro x hx _
      simpa using hx
end
end Go.Ab

namespace Go.Ab
open Go.ChangeShapes Go.WideShapes Go.RowKit Go.Proofs

section
variable {H : Type} {enc : TypeId × Value → H} {P : Program} {W : World}

/-- Cells of a type that are numbers. -/
def IntsT (enc : TypeId × Value → H) (P : Program) (W : World) (t : TypeId) (k : Nat) : Prop :=
  P.cellsOf t = k ∧ ∀ fuel cs x, DataW.trod enc P W 0 (fun _ => true) true fuel t cs = some x → cs.length = k ∧ ∀ (j : Nat) v, cs[j]? = some v → ∃ n : Int, v = .int .i64 n

theorem IntsT.int {t : TypeId} (ht : P.underlying t = some (.int .i64)) (hc : P.cellsOf t = 1) : IntsT enc P W t 1 := by
  refine ⟨hc, fun fuel cs x h => ?_⟩
  obtain ⟨n, rfl, _, _⟩ := DataW.trod_int ht h
  refine ⟨rfl, fun j v hj => ?_⟩
  match j with
  | 0 => simp at hj; exact ⟨n, hj.symm⟩
  | j + 1 => simp at hj

theorem IntsT.array {t e : TypeId} {n k : Nat} (ht : P.underlying t = some (.array n e)) (he : IntsT enc P W e k) (hk : 0 < k) (hc : P.cellsOf t = n * k) : IntsT enc P W t (n * k) := by
  refine ⟨hc, fun fuel cs x h => ?_⟩
  obtain ⟨xs, m, rfl, hx, hl, hn, hel⟩ := DataW.trod_array ht h
  rw [hc] at hl
  refine ⟨hl, fun j v hj => ?_⟩
  have hlt : j < n * k := by rw [← hl]; exact (List.getElem?_eq_some_iff.1 hj).1
  have hi : j / k < n := Nat.div_lt_of_lt_mul (by rw [Nat.mul_comm]; exact hlt)
  have h1 := hel (j / k) hi
  rw [he.1, List.getElem?_eq_getElem (show j / k < xs.length by omega)] at h1
  obtain ⟨_, h2⟩ := he.2 _ _ _ h1
  refine h2 (j % k) v ?_
  rw [List.getElem?_take, if_pos (Nat.mod_lt _ hk), List.getElem?_drop]
  rw [show j / k * k + j % k = j by rw [Nat.mul_comm]; exact Nat.div_add_mod j k]
  exact hj

theorem IntsT.pair {t e1 e2 : TypeId} {k : Nat} {f1 f2 : Field} (ht : P.underlying t = some (.struct #[f1, f2])) (h1 : f1.type = e1 ∧ f1.offset = 0) (h2 : f2.type = e2 ∧ f2.offset = 1) (i1 : IntsT enc P W e1 1) (i2 : IntsT enc P W e2 k) (hc : P.cellsOf t = 1 + k) : IntsT enc P W t (1 + k) := by
  refine ⟨hc, fun fuel cs x h => ?_⟩
  obtain ⟨xs, m, rfl, hx, hl, hn, hel⟩ := DataW.trod_struct ht h
  rw [hc] at hl
  have hn2 : xs.length = 2 := hn
  refine ⟨hl, fun j v hj => ?_⟩
  have hlt : j < 1 + k := by rw [← hl]; exact (List.getElem?_eq_some_iff.1 hj).1
  by_cases h0 : j = 0
  · subst h0
    have a1 := hel 0 f1 rfl
    rw [h1.1, h1.2, i1.1, List.getElem?_eq_getElem (show 0 < xs.length by omega)] at a1
    refine (i1.2 _ _ _ a1).2 0 v ?_
    rw [List.getElem?_take, if_pos (by omega), List.getElem?_drop]
    exact hj
  · have a2 := hel 1 f2 rfl
    rw [h2.1, h2.2, i2.1, List.getElem?_eq_getElem (show 1 < xs.length by omega)] at a2
    refine (i2.2 _ _ _ a2).2 (j - 1) v ?_
    rw [List.getElem?_take, if_pos (by omega), List.getElem?_drop, show 1 + (j - 1) = j by omega]
    exact hj

/-- A list of such, as a block: its numbers, its place. -/
def AsBlk (W : World) (z : Nat) (v : Value) (n : Nat) (x : List Int) (Lo : Option Loc) : Prop :=
  x.length = z * n ∧ (Lo = none → x = []) ∧ (∀ (m : Map) L, Lo = some L → BRel m ⟨ints x, false⟩ L W) ∧ ∀ (m : Map) i, mloc m i = Lo → VRel m (.slice (some ⟨i, 0, none⟩) n z) v

theorem cell_at {a : Addr} {v : Value} (h : W.cell? a = some v) : ∃ cs el fz, W.heap[a.block]? = some (.cells cs el fz) ∧ a.spot = none ∧ cs[a.off]? = some v := by
  unfold World.cell? at h
  split at h
  · rename_i c el fz hh
    split at h
    · cases h
    · rename_i hs
      exact ⟨c, el, fz, hh, by simpa using hs, h⟩
  · cases h

theorem open_slice {t e : TypeId} {z : Nat} {s : Value} {x : DataW H × List MemPlace} {fuel : Nat} (ht : P.underlying t = some (.slice e)) (he : IntsT enc P W e z) (hz : 0 < z) (h : DataW.trod enc P W 0 (fun _ => true) true fuel t [s] = some x) :
    ∃ n xs Lo, AsBlk W z s n xs Lo := by
  rcases DataW.trod_slice ht h with ⟨h1, _⟩ | ⟨a, len, cap, elems, rest, m, rfl, h1, _, _, hlc, _, hel, hall, hsp, _⟩
  · simp only [List.cons.injEq, and_true] at h1
    subst h1
    exact ⟨0, [], none, rfl, fun _ => rfl, fun m L hL => (by cases hL), fun m i _ => .sliceNil i 0 z⟩
  · simp only [List.cons.injEq, and_true] at h1
    subst h1
    obtain ⟨hrl, hrest⟩ := hsp rfl
    by_cases hc0 : cap = 0
    · have hl0 : len = 0 := by omega
      subst hc0; subst hl0
      exact ⟨0, [], none, rfl, fun _ => rfl, fun m L hL => (by cases hL), fun m i _ => .slice0 i 0 z a⟩
    · -- the cells up to the capacity
      have hcells : ∀ i, i < cap → ∃ cs, W.cells? 0 (a.add (i * z)) z = some cs ∧ cs.length = z ∧ ∀ (j : Nat) v, cs[j]? = some v → ∃ n : Int, v = .int .i64 n := by
        intro i hi
        have : ∃ y, (W.cells? 0 (a.add (i * z)) z).bind (DataW.trod enc P W 0 (fun _ => true) true m e) = some y := by
          by_cases hil : i < len
          · have := hall i hil
            rw [he.1, List.getElem?_eq_getElem (show i < elems.length by omega)] at this
            exact ⟨_, this⟩
          · have := hrest (i - len) (by omega)
            rw [he.1, show len + (i - len) = i by omega, List.getElem?_eq_getElem (show i - len < rest.length by omega)] at this
            exact ⟨_, this⟩
        obtain ⟨y, hy⟩ := this
        rw [Option.bind_eq_some_iff] at hy
        obtain ⟨cs, hcs, hy⟩ := hy
        obtain ⟨q1, q2⟩ := he.2 _ _ _ hy
        exact ⟨cs, hcs, q1, q2⟩
      have hcell : ∀ i q, i < cap → q < z → ∃ n : Int, W.cell? ((a.add (i * z)).add q) = some (.int .i64 n) := by
        intro i q hi hq
        obtain ⟨cs, h1, h2, h3⟩ := hcells i hi
        unfold World.cells? at h1
        rw [if_pos (Nat.zero_le _)] at h1
        have := mapM_some_get h1 q q (by simp [hq])
        rw [List.getElem?_eq_getElem (show q < cs.length by omega)] at this
        obtain ⟨n, hn⟩ := h3 q _ (List.getElem?_eq_getElem (show q < cs.length by omega))
        exact ⟨n, by rw [this, hn]⟩
      obtain ⟨n0, hn0⟩ := hcell 0 0 (by omega) hz
      have e0 : (a.add (0 * z)).add 0 = a := by simp [Addr.add]
      rw [e0] at hn0
      obtain ⟨cs, el, fz, hrow, hspot, _⟩ := cell_at hn0
      have hadd : ∀ p q, (a.add p).add q = ⟨a.block, a.off + (p + q), none⟩ := by
        intro p q
        obtain ⟨b, o, s⟩ := a
        simp only at hspot
        subst hspot
        simp only [Addr.add]
        by_cases hp : p = 0
        · subst hp
          by_cases hq : q = 0
          · subst hq; simp
          · simp [hq]
        · by_cases hq : q = 0
          · subst hq; simp [hp]
          · simp [hp, hq, Nat.add_assoc]
      have hget : ∀ j, j < cap * z → ∃ n : Int, cs[a.off + j]? = some (.int .i64 n) := by
        intro j hj
        have hi : j / z < cap := Nat.div_lt_of_lt_mul (by rw [Nat.mul_comm]; exact hj)
        obtain ⟨n, hn⟩ := hcell (j / z) (j % z) hi (Nat.mod_lt _ hz)
        rw [hadd, show j / z * z + j % z = j by rw [Nat.mul_comm]; exact Nat.div_add_mod j z] at hn
        obtain ⟨cs', el', fz', hrow', _, hv⟩ := cell_at hn
        simp only at hrow' hv
        rw [hrow] at hrow'
        cases hrow'
        exact ⟨n, hv⟩
      have hnum : ∀ j, ∃ n : Int, j < cap * z → cs[a.off + j]? = some (.int .i64 n) := by
        intro j
        by_cases hj : j < cap * z
        · obtain ⟨n, hn⟩ := hget j hj; exact ⟨n, fun _ => hn⟩
        · exact ⟨0, fun hh => absurd hh hj⟩
      obtain ⟨f, hf⟩ := Classical.axiomOfChoice hnum
      refine ⟨len, (List.range (z * len)).map f, some ⟨a.block, a.off, cap * z, false⟩, by simp, fun hh => (by cases hh), ?_, ?_⟩
      · rintro mm L rfl'
        cases rfl'
        refine ⟨fun hp => (by cases hp), fun _ => ⟨cs, el, fz, hrow, ?_, fun hh => by cases hh⟩⟩
        intro j v hj
        simp only [ints, List.map_map, List.getElem?_map] at hj
        by_cases hjl : j < z * len
        · rw [List.getElem?_range hjl] at hj
          simp at hj
          subst hj
          exact ⟨_, hf j (by have := Nat.mul_le_mul_left z hlc; rw [Nat.mul_comm cap z]; omega), .int _ _⟩
        · rw [List.getElem?_eq_none (by simp; omega)] at hj
          cases hj
      · intro mm i hm
        obtain ⟨b, o, s⟩ := a
        simp only at hspot
        subst hspot
        have := VRel.slice (m := mm) i 0 len z cap ⟨b, o, cap * z, false⟩ hm hlc hz (by simp) rfl
        simpa using this

theorem open_field {t u e : TypeId} {z : Nat} {v : Value} {d : DataW H} {p : List MemPlace} {f : Field} {base : Nat} (ht : P.underlying t = some (.struct #[f])) (hf : f.type = u ∧ f.offset = 0) (hct : P.cellsOf t = 1) (hcu : P.cellsOf u = 1) (hu : P.underlying u = some (.slice e)) (he : IntsT enc P W e z) (hz : 0 < z)
    (hok : Value.okWide P W .any base t v) (h : DataW.Trod enc P W 0 (fun _ => true) true t v d p) : ∃ s n xs Lo, v = .agg ⟨[s]⟩ ∧ AsBlk W z s n xs Lo := by
  simp only [Value.okWide, ht] at hok
  obtain ⟨cs, rfl, hsz, _⟩ := hok
  rw [hct] at hsz
  obtain ⟨fuel, h⟩ := h
  obtain ⟨xs, m, rfl, hx, hl, hn, hel⟩ := DataW.trod_struct ht h
  obtain ⟨l⟩ := cs
  have hl1 : l.length = 1 := by simpa using hsz
  obtain ⟨s, rfl⟩ : ∃ s, l = [s] := by
    match l, hl1 with
    | [s], _ => exact ⟨s, rfl⟩
  have hn1 : xs.length = 1 := hn
  have a1 := hel 0 f rfl
  rw [hf.1, hf.2, hcu, List.getElem?_eq_getElem (show 0 < xs.length by omega)] at a1
  obtain ⟨n, ys, Lo, hb⟩ := open_slice hu he hz a1
  exact ⟨s, n, ys, Lo, rfl, hb⟩

theorem open_list {t e : TypeId} {z : Nat} {v : Value} {d : DataW H} {p : List MemPlace} {base : Nat} (ht : P.underlying t = some (.slice e)) (he : IntsT enc P W e z) (hz : 0 < z)
    (hok : Value.okWide P W .any base t v) (h : DataW.Trod enc P W 0 (fun _ => true) true t v d p) : ∃ n xs Lo, AsBlk W z v n xs Lo := by
  obtain ⟨fuel, h⟩ := h
  have hv : v.cells.toList = [v] := by
    simp only [Value.okWide, ht, Cell.okWide, Cell.ok] at hok
    cases v <;> simp_all [Value.cells]
  rw [hv] at h
  exact open_slice ht he hz h
end
theorem laidOut : laidOutB Tryz.prog = true := by kernel_rfl
theorem own : ownKnob Tryz.prog.godebug = none := by kernel_rfl

section
variable {H : Type} {enc : TypeId × Value → H} {W : World}
def fldT : Field := { name := "Tet", type := 3, offset := 0, embedded := false, tag := "", pkgPath := "", byteOffset := 0 }
def fldP : Field := { name := "Perm", type := 32, offset := 1, embedded := false, tag := "", pkgPath := "", byteOffset := 8 }
def fldF : Field := { name := "Faces", type := 22, offset := 0, embedded := false, tag := "", pkgPath := "", byteOffset := 0 }
theorem ints3 : IntsT enc Tryz.prog W 3 1 := IntsT.int (show Tryz.prog.underlying 3 = some (.int .i64) by kernel_rfl) (by kernel_rfl)
theorem ints32 : IntsT enc Tryz.prog W 32 4 := IntsT.array (n := 4) (k := 1) (show Tryz.prog.underlying 32 = some (.array 4 3) by kernel_rfl) ints3 (by omega) (by kernel_rfl)
theorem ints34 : IntsT enc Tryz.prog W 34 5 := IntsT.pair (k := 4) (show Tryz.prog.underlying 34 = some (.struct #[fldT, fldP]) by kernel_rfl) ⟨rfl, rfl⟩ ⟨rfl, rfl⟩ ints3 ints32 (by kernel_rfl)
theorem ints35 : IntsT enc Tryz.prog W 35 20 := IntsT.array (n := 4) (k := 5) (show Tryz.prog.underlying 35 = some (.array 4 34) by kernel_rfl) ints34 (by omega) (by kernel_rfl)
set_option maxRecDepth 100000 in
theorem open24 {v : Value} {d : DataW H} {p : List MemPlace} {base : Nat} (hok : Value.okWide Tryz.prog W .any base 24 v) (h : DataW.Trod enc Tryz.prog W 0 (fun _ => true) true 24 v d p) : ∃ s n xs Lo, v = .agg ⟨[s]⟩ ∧ AsBlk W 20 s n xs Lo :=
  open_field (f := fldF) (show Tryz.prog.underlying 24 = some (.struct #[fldF]) by kernel_rfl) ⟨rfl, rfl⟩ (by kernel_rfl) (by kernel_rfl) (show Tryz.prog.underlying 22 = some (.slice 35) by kernel_rfl) ints35 (Nat.succ_pos _) hok h
set_option maxRecDepth 100000 in
theorem open36 {v : Value} {d : DataW H} {p : List MemPlace} {base : Nat} (hok : Value.okWide Tryz.prog W .any base 36 v) (h : DataW.Trod enc Tryz.prog W 0 (fun _ => true) true 36 v d p) : ∃ n xs Lo, AsBlk W 1 v n xs Lo :=
  open_list (show Tryz.prog.underlying 36 = some (.slice 3) by kernel_rfl) ints3 (Nat.succ_pos _) hok h
set_option maxRecDepth 100000 in
theorem open43 {v : Value} {d : DataW H} {p : List MemPlace} {base : Nat} (hok : Value.okWide Tryz.prog W .any base 43 v) (h : DataW.Trod enc Tryz.prog W 0 (fun _ => true) true 43 v d p) : ∃ n xs Lo, AsBlk W 4 v n xs Lo :=
  open_list (show Tryz.prog.underlying 43 = some (.slice 32) by kernel_rfl) ints32 (Nat.succ_pos _) hok h
end


/-- Such lists as an abstract heap. -/
theorem rel_list {W : World} : ∀ (L : List (List Int × Option Loc)), (∀ p ∈ L, (p.2 = none → p.1 = []) ∧ ∀ (m : Map) (Lc : Loc), p.2 = some Lc → BRel m ⟨ints p.1, false⟩ Lc W) → Rel (L.map (·.2)) (L.map fun p => some ⟨ints p.1, false⟩) W := by
  intro L h
  have hb : ∀ (i : Nat) (b : Blk), hblk (L.map fun p => some (⟨ints p.1, false⟩ : Blk)) i = some b → ∃ p, L[i]? = some p ∧ b = ⟨ints p.1, false⟩ := by
    intro i b hb
    simp only [hblk, List.getElem?_map] at hb
    cases hx : L[i]? with
    | none => simp [hx] at hb
    | some p => rw [hx] at hb; simp at hb; exact ⟨p, rfl, hb.symm⟩
  have hm : ∀ (i : Nat) (p : List Int × Option Loc), L[i]? = some p → mloc (L.map (·.2)) i = p.2 := by
    intro i p hp
    simp only [mloc, List.getElem?_map, hp, Option.map_some, Option.join_some]
  refine ⟨by simp, ?_, ?_, ?_⟩
  · intro i b Lc hbi hL
    obtain ⟨p, hp, rfl⟩ := hb i b hbi
    rw [hm i p hp] at hL
    exact (h p (List.mem_of_getElem? hp)).2 _ Lc hL
  · intro i b hbi hL
    obtain ⟨p, hp, rfl⟩ := hb i b hbi
    rw [hm i p hp] at hL
    simp [(h p (List.mem_of_getElem? hp)).1 hL, ints]
  · intro i j b b' L L' _ hbi ho
    obtain ⟨p, hp, rfl⟩ := hb i b hbi
    cases ho
theorem all_ro {L : List (List Int × Option Loc)} : ∀ i : Nat, (flags (L.map fun p => some (⟨ints p.1, false⟩ : Blk)).length (L.map fun p => some (⟨ints p.1, false⟩ : Blk)))[i]? ≠ some true := by
  intro i hi
  obtain ⟨_, b, hb, ho⟩ := flags_get hi
  simp only [hblk, List.getElem?_map] at hb
  cases hx : L[i]? with
  | none => simp [hx] at hb
  | some p => rw [hx] at hb; simp at hb; subst hb; cases ho

theorem agg_one {m : Map} {v v' : Value} (h : VRel m v v') : VRel m (.agg ⟨[v]⟩) (.agg ⟨[v']⟩) := by
  refine .agg [v] [v'] rfl fun j u u' h1 h2 => ?_
  match j with
  | 0 => simp at h1 h2; subst h1; subst h2; exact h
  | j + 1 => simp at h1

end Go.Ab
