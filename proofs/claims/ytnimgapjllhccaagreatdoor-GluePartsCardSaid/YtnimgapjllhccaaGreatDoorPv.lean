/- The functions Parts and count answer. Conditions: none beyond the given model and program. -/
import Derived.Test.YtnimgapjllhccaaGreatDoorOr
namespace Go.Ab
open Go.Proofs

theorem fn15_ok : Tryz.prog.funcs[15]? = some Tryz.f15 ∧ (Tryz.f15.name == "runtime.NumGoroutine") = false ∧ ∀ c, Tryz.f15.body = some c → codeOk Tryz.f15.ntmps c = true :=
  ⟨Tryz.func15, by kernel_rfl, codeOk_of (by kernel_rfl)⟩
theorem fn16_ok : Tryz.prog.funcs[16]? = some Tryz.f16 ∧ (Tryz.f16.name == "runtime.NumGoroutine") = false ∧ ∀ c, Tryz.f16.body = some c → codeOk Tryz.f16.ntmps c = true :=
  ⟨Tryz.func16, by kernel_rfl, codeOk_of (by kernel_rfl)⟩

/-- A contract of one gluing with one new list, at a call. -/
theorem gives_one_any {f : FuncId} {x z : List Int} {n b : Nat} {h : Heap} {w : Bool} {v v' : Value} (hs : Sum Tryz.prog f [gV 0 n] [some ⟨ints x, false⟩] fun o h2 => o = .ret v ∧ h2 = [some ⟨ints x, false⟩] ++ [some ⟨ints z, true⟩]) (hb : hblk h b = some ⟨ints x, w⟩) (hv : ren (backF [some b] h.length) v = v') :
    Gives Tryz.prog f [gV b n] h (.ret v') (h ++ [some ⟨ints z, true⟩]) ∧ ∃ y, h ++ [some ⟨ints z, true⟩] = h ++ y := by
  have := gives_new hs rfl (emb_one hb) (xs := [gV b n]) ⟨_, _, rfl, sub_gV rfl, rfl⟩
  rw [hv] at this
  simp only [List.map_cons, List.map_nil, renB, renL_eq] at this
  have e : (ints z).map (ren (backF [some b] h.length)) = ints z := by simp [ints, ren]
  rw [e] at this
  exact this

theorem gives_list {f : FuncId} {l : List Int} {n b : Nat} {h : Heap} {w : Bool} {v : Value} (hs : Sum Tryz.prog f [oS 0 n] [some ⟨ints l, false⟩] fun o _ => o = .ret v) (hv : plain v = true) (hb : hblk h b = some ⟨ints l, w⟩) :
    Gives Tryz.prog f [oS b n] h (.ret v) h ∧ ∃ y, h = h ++ y :=
  gives_plain hs rfl (emb_one hb) ⟨_, _, rfl, sub_oS rfl, rfl⟩ hv

namespace PV
abbrev pRes (s : Value) (e : Int) : Value := .tuple ⟨[s, .int .i64 e]⟩
abbrev G43 (x l : List Int) (n : Nat) (k : Int) : Prop := Gives Tryz.prog 43 [gV 0 n] (PT.bH x n) (.ret (pRes (oS 2 n) k)) (PT.bH x n ++ [some ⟨ints l, true⟩]) ∧ ∃ y, PT.bH x n ++ [some ⟨ints l, true⟩] = PT.bH x n ++ y
end PV
theorem parts15_bad {x : List Int} {n : Nat} (hx : x.length = 20 * n) (hc : chk n x = 7) : Sum Tryz.prog 15 [gV 0 n] [some ⟨ints x, false⟩] fun out _ => out = .ret (PV.pRes (.slice none 0 0) 7) := by
  have g1 : OR.Gk x n 7 := gives_one (hc ▸ gcheck_sum hx) rfl (w := false) rfl
  exact tFun_sum (S := { dir := dd [((1, 1), ansD (.int .i64 7) id)], know := kk [], loop := noloop }) (k := 60) TY_ok mixed fn15_ok
    (A := OR.Gk x n 7 ∧ AOut.ret (PV.pRes (.slice none 0 0) 7) = .ret (PV.pRes (.slice none 0 0) 7)) ⟨g1, rfl⟩ (by kernel_rfl)
theorem parts15_ok {x : List Int} {n : Nat} (hn : n ≤ 1000) (hx : x.length = 20 * n) (hc : chk n x = 0) :
    Sum Tryz.prog 15 [gV 0 n] [some ⟨ints x, false⟩] fun out h2 => out = .ret (PV.pRes (oS 1 n) 0) ∧ h2 = [some ⟨ints x, false⟩] ++ [some ⟨ints (partsL x n), true⟩] := by
  have g1 : OR.Gk x n 0 := gives_one (hc ▸ gcheck_sum hx) rfl (w := false) rfl
  have g2 : PV.G43 x (partsL x n) n (partsN x n) := gives_one_any (gparts_sum hn hx hc) (w := false) rfl rfl
  have hs : Sum Tryz.prog 15 [gV 0 n] [some ⟨ints x, false⟩] fun out h2 => out = .ret (PV.pRes (oS 2 n) 0) ∧ h2 = PT.bH x n ++ [some ⟨ints (partsL x n), true⟩] :=
    tFun_sum (S := { dir := dd [((1, 1), ansD (.int .i64 0) id), ((4, 1), (none, .ans fun _ _ => (PV.pRes (oS 2 n) (partsN x n), PT.bH x n ++ [some ⟨ints (partsL x n), true⟩])))], know := kk [], loop := noloop }) (k := 60) TY_ok mixed fn15_ok
      (A := OR.Gk x n 0 ∧ PV.G43 x (partsL x n) n (partsN x n) ∧ AOut.ret (PV.pRes (oS 2 n) 0) = .ret (PV.pRes (oS 2 n) 0) ∧ PT.bH x n ++ [some ⟨ints (partsL x n), true⟩] = PT.bH x n ++ [some ⟨ints (partsL x n), true⟩]) ⟨g1, g2, rfl, rfl⟩ (by kernel_rfl)
  exact Sum.pick (ks := [0, 2]) hs (by kernel_rfl) ⟨⟨_, rfl, subL_plain _ _ (ints_plain x), id⟩, ⟨_, rfl, subL_plain _ _ (ints_plain _), id⟩, trivial⟩ (by kernel_rfl) ⟨_, rfl, _, _, rfl, sub_oS rfl, _, _, rfl, rfl, rfl⟩

/-- The greatest number and one. -/
def cntS (a v : Int) : Int := if v + 1 > a then v + 1 else a
def cntA (l : List Int) (i : Nat) : Int := (l.take i).foldl cntS 0
def cntL (l : List Int) : Int := l.foldl cntS 0
theorem cntA_succ {l : List Int} {i : Nat} (h : i < l.length) : cntA l (i + 1) = cntS (cntA l i) (cel l i) := by
  unfold cntA
  rw [List.take_add_one, List.getElem?_eq_getElem h, Option.toList_some, List.foldl_append, List.foldl_cons, List.foldl_nil]
  simp [cel, List.getD_eq_getElem?_getD, List.getElem?_eq_getElem h]
theorem cntA_all (l : List Int) : cntA l l.length = cntL l := by simp [cntA, cntL]

namespace CO
def H (l : List Int) : Heap := [some ⟨ints l, false⟩]
theorem H_closed (l : List Int) : closedH 1 (H l) := closedH_cons (subL_plain _ _ (ints_plain l)) closedH_nil
def eC (n : Nat) (c i : Int) : List (Nat × Value) := [(0, oS 0 n), (3, it c), (4, it i)]
theorem ok0 : codeOk 19 (lb Tryz.f16 0) = true := by kernel_rfl
abbrev C (l : List Int) (n i : Nat) (c : Int) (ax : AX) (r : List (Nat × Value)) : Prop := Comes none ([], true) Tryz.prog 19 1 (lb Tryz.f16 0) (eC n c i) (H l) ax r (H l)
theorem cStep {l : List Int} {n i : Nat} {c v : Int} (h1 : ilt (i : Int) n = true) (h2 : InN i n) (h3 : PT.RdN (H l) 0 i v) : C l n i c .normal (eC n (if IntKind.i64.wrap (v + 1) > c then IntKind.i64.wrap (v + 1) else c) (IntKind.i64.wrap ((i : Int) + 1))) :=
  comes_run (S := { dir := dd [((5, 3), ixD), ((5, 4), ldC [.int .i64 v])], know := kk [(8, true)], loop := noloop }) (k := 60) (ts := [0, 3, 4]) (junk := []) (h1 := H l) (l0 := eC n (if IntKind.i64.wrap (v + 1) > c then IntKind.i64.wrap (v + 1) else c) (IntKind.i64.wrap ((i : Int) + 1)))
    (A := (ilt (i : Int) n = true) ∧ InN i n ∧ PT.RdN (H l) 0 i v ∧ Dn .normal (eC n (if IntKind.i64.wrap (v + 1) > c then IntKind.i64.wrap (v + 1) else c) (IntKind.i64.wrap ((i : Int) + 1))) (H l)) TY_ok mixed ok0 (Nat.le_of_ble_eq_true rfl) (H_closed l) rfl ⟨h1, h2, h3, dn _ _ _⟩ (by kernel_rfl)
theorem cEnd {l : List Int} {n i : Nat} {c : Int} (h1 : ilt (i : Int) n = false) : C l n i c (.exit 0) [(3, it c)] :=
  comes_run (S := { dir := dd [], know := kk [(8, false)], loop := noloop }) (k := 60) (ts := [3]) (junk := []) (h1 := H l) (l0 := [(3, it c)]) (A := (ilt (i : Int) n = false) ∧ Dn (.exit 0) [(3, it c)] (H l)) TY_ok mixed ok0 (Nat.le_of_ble_eq_true rfl) (H_closed l) rfl ⟨h1, dn _ _ _⟩ (by kernel_rfl)
abbrev L (l : List Int) (n : Nat) (c : Int) : Prop := (obs Tryz.prog TY none ([], true) 19).loop 1 (fb Tryz.f16 0) (eC n 0 0) (H l) .normal [(3, it c)] (H l)
theorem loop_ok {l : List Int} {n : Nat} (hn : n ≤ 100000) (hl : l.length = n) (hb : ∀ v, v < n → -1 ≤ cel l v ∧ cel l v ≤ 100000) : L l n (cntL l) := by
  have hfb : fb Tryz.f16 0 = .block 0 (.loop (lb Tryz.f16 0)) := by kernel_rfl
  refine comes_loop hfb rfl (fun i : Nat => eC n (cntA l i) i) (fun _ => H l) (fun i => i ≤ n) (fun i => n - i) 0 (by omega) rfl rfl ?_
  intro i hi
  by_cases h4 : i < n
  · have h := cStep (c := cntA l i) (by rw [ilt_eq]; simp; omega) ⟨by omega, by omega⟩ (rd_int (h := H l) (b := 0) (x := l) (w := false) rfl (by omega) : PT.RdN (H l) 0 i _)
    have := hb i h4
    rw [wrap_succ (by omega), wrap_of (by omega) (by omega)] at h
    refine .inl ⟨i + 1, by omega, by omega, ?_⟩
    rw [cntA_succ (by omega)]
    exact h
  · have : i = n := by omega
    subst this
    have e : cntA l i = cntL l := by rw [← hl]; exact cntA_all l
    have h := cEnd (l := l) (c := cntA l i) (n := i) (i := i) (by rw [ilt_eq]; simp)
    rw [e] at h
    refine .inr (.inl ⟨rfl, ?_⟩)
    rw [e]
    exact h
end CO
theorem count_sum {l : List Int} {n : Nat} (hn : n ≤ 100000) (hl : l.length = n) (hb : ∀ v, v < n → -1 ≤ cel l v ∧ cel l v ≤ 100000) : Sum Tryz.prog 16 [oS 0 n] [some ⟨ints l, false⟩] fun o _ => o = .ret (.int .i64 (cntL l)) :=
  tFun_sum (S := { dir := dd [], know := kk [], loop := loops [(0, ([0, 3, 4], fun _ _ => (.normal, [(3, it (cntL l))], CO.H l)))] }) (k := 60) TY_ok mixed fn16_ok
    (A := CO.L l n (cntL l) ∧ AOut.ret (.int .i64 (cntL l)) = .ret (.int .i64 (cntL l))) ⟨CO.loop_ok hn hl hb, rfl⟩ (by kernel_rfl)

/-- What the law counts of parts. -/
theorem cnt_parts {x : List Int} {n : Nat} (hc : chk n x = 0) : cntL (partsL x n) = partsN x n := by
  have h := parts_spec hc n (Nat.le_refl _)
  obtain ⟨h1, h2, h3⟩ := cnt_foldl (partsL x n) 0
  have hf : (partsL x n).foldl (fun a v => if v + 1 > a then v + 1 else a) 0 = cntL (partsL x n) := rfl
  rw [hf] at h1 h2 h3
  have hlen : (partsL x n).length = n := h.len
  have mem : ∀ v, v < n → cel (partsL x n) v ∈ partsL x n := fun v hv => by
    rw [cel, List.getD_eq_getElem?_getD, List.getElem?_eq_getElem (show v < (partsL x n).length by omega)]
    exact List.getElem_mem _
  have up : ∀ v ∈ partsL x n, v < partsN x n := by
    intro v hv
    obtain ⟨j, hj, rfl⟩ := List.getElem_of_mem hv
    have := h.rng j (by omega)
    have h0 := h.done j (by omega)
    have e : cel (partsL x n) j = (partsL x n)[j] := by simp [cel, List.getD_eq_getElem?_getD, List.getElem?_eq_getElem hj]
    rw [← e]
    unfold partsL partsN
    omega
  obtain ⟨r, hr⟩ := h.rep
  by_cases hk : partsN x n = 0
  · rcases h3 with h3 | ⟨v, hv, h3⟩
    · omega
    · have := up v hv
      have h0 : 0 ≤ v := by
        obtain ⟨j, hj, rfl⟩ := List.getElem_of_mem hv
        have h0 := h.done j (by omega)
        have e : cel (partsL x n) j = (partsL x n)[j] := by simp [cel, List.getD_eq_getElem?_getD, List.getElem?_eq_getElem hj]
        rw [← e]; exact h0
      omega
  · obtain ⟨r1, r2, r3, r4⟩ := hr (partsN x n - 1) (by unfold partsN at hk ⊢; omega)
    have := h2 _ (mem _ r1)
    have e : cel (partsL x n) (r (partsN x n - 1)) = ((partsN x n - 1 : Nat) : Int) := r2
    rw [e] at this
    rcases h3 with h3 | ⟨v, hv, h3⟩
    · omega
    · have := up v hv
      omega
theorem parts_rng {x : List Int} {n : Nat} (hn : n ≤ 1000) (hc : chk n x = 0) : (partsL x n).length = n ∧ ∀ v, v < n → -1 ≤ cel (partsL x n) v ∧ cel (partsL x n) v ≤ 100000 := by
  have h := parts_spec hc n (Nat.le_refl _)
  refine ⟨h.len, fun v hv => ?_⟩
  have hk : ∀ t, t ≤ n → (pst x n t).2 ≤ t := by
    intro t
    induction t with
    | zero => intro _; simp [pst]
    | succ t ih => intro ht; have := ih (by omega); simp only [pst]; split <;> (try simp only) <;> omega
  have := hk n (Nat.le_refl _)
  have := h.rng v hv
  unfold partsL
  omega
end Go.Ab

namespace Go.Ab

/-- A face as it is in a valid gluing. -/
def Good (x : List Int) (n t f : Nat) : Prop := ((fc x t f).u = -1 ∧ (fc x t f).p = .zero) ∨
  (0 ≤ (fc x t f).u ∧ (fc x t f).u < n ∧ (fc x t f).p.valid = true ∧ ¬ ((fc x t f).u = t ∧ (fc x t f).p.at f = f) ∧ (fc x (fc x t f).u.toNat ((fc x t f).p.at f).toNat).u = t ∧ (fc x (fc x t f).u.toNat ((fc x t f).p.at f).toNat).p = inverseP (fc x t f).p)

theorem good_iff {x : List Int} {n t f : Nat} : faceOk n x t f = true ↔ Good x n t f := by
  unfold faceOk Good
  simp only [Bool.or_eq_true, Bool.and_eq_true, decide_eq_true_eq, Bool.not_eq_true', Bool.and_eq_false_iff, beq_iff_eq, beq_eq_false_iff_ne, Fc.free, eqP_iff]
  constructor
  · rintro (h | ⟨h1, h2, h3, h4, h5, h6⟩)
    · exact .inl h
    · exact .inr ⟨h1, h2, h3, fun hh => by rcases h4 with h4 | h4; exact h4 hh.1; exact h4 hh.2, h5, h6⟩
  · rintro (h | ⟨h1, h2, h3, h4, h5, h6⟩)
    · exact .inl h
    · refine .inr ⟨h1, h2, h3, ?_, h5, h6⟩
      by_cases e : (fc x t f).u = t
      · exact .inr fun e2 => h4 ⟨e, e2⟩
      · exact .inl e

theorem chk_good {x : List Int} {n t f : Nat} (hc : chk n x = 0) (ht : t < n) (hf : f < 4) : Good x n t f := by
  rw [← good_iff]
  unfold chk at hc
  split at hc
  · rename_i h
    simp only [checkB, Bool.and_eq_true] at h
    exact List.all_eq_true.1 (List.all_eq_true.1 h.2 t (List.mem_range.2 ht)) f (List.mem_range.2 hf)
  · cases hc
theorem chk_of {x : List Int} {n : Nat} (hn : n ≤ 1000) (h : ∀ t f, t < n → f < 4 → Good x n t f) : chk n x = 0 := by
  unfold chk
  rw [if_pos]
  simp only [checkB, Bool.and_eq_true, decide_eq_true_eq]
  refine ⟨hn, List.all_eq_true.2 fun t ht => List.all_eq_true.2 fun f hf => good_iff.2 (h t f (List.mem_range.1 ht) (List.mem_range.1 hf))⟩
theorem chk_n {x : List Int} {n : Nat} (hc : chk n x = 0) : n ≤ 1000 := by
  unfold chk at hc
  split at hc
  · rename_i h
    simp only [checkB, Bool.and_eq_true, decide_eq_true_eq] at h
    exact h.1
  · cases hc

theorem sign_inv {p : Pm} (hp : p.valid = true) : signP (inverseP p) = signP p := by
  have h : l24.all (fun p => signP (inverseP p) == signP p) = true := by decide +kernel
  have h2 := List.all_eq_true.1 h p (mem24 hp)
  simpa using h2
end Go.Ab
