/- The functions glue.Twofold and glue.Double answer for all gluings. Conditions: none beyond the given model and program. -/
import Derived.Test.YtnimgapjllhccaaGreatDoorRt
import Derived.Test.YtnimgapjllhccaaGreatDoorGu
namespace Go.Ab
open Go.Proofs

/-- The heap of Twofold and Double while they go through the faces. -/
def HG (x z : List Int) (n N : Nat) : Heap := [some ⟨ints x, false⟩, some ⟨[gS 0 n], true⟩, some ⟨[.slice none 0 0], true⟩, some ⟨ints z, true⟩, some ⟨[gS 3 N], true⟩, some ⟨[.int .i64 n], true⟩, some ⟨[gS 0 n], true⟩]
theorem HG_closed (x z : List Int) (n N : Nat) : closedH 7 (HG x z n N) :=
  closedH_cons (subL_plain _ _ (ints_plain x)) (closedH_cons (belowL_sub _ rfl) (closedH_cons (subL_plain _ _ rfl) (closedH_cons (subL_plain _ _ (ints_plain z)) (closedH_cons (belowL_sub _ rfl) (closedH_cons (subL_plain _ _ rfl) (closedH_cons (belowL_sub _ rfl) closedH_nil))))))
def jkG (t f : Nat) (a : Fc) : Heap := [some ⟨GC.plc t f, true⟩, some ⟨a.cells, true⟩]
def eLG : List (Nat × Value) := [(1, .pointer (some ⟨1, 0, none⟩)), (2, .pointer (some ⟨2, 0, none⟩)), (4, .pointer (some ⟨4, 0, none⟩)), (6, .pointer (some ⟨5, 0, none⟩)), (23, GC.facesF 6)]
def ePG (t f : Nat) (a : Fc) : List (Nat × Value) := [(25, .agg ⟨a.cells⟩), (24, .agg ⟨GC.plc t f⟩), (1, .pointer (some ⟨1, 0, none⟩)), (2, .pointer (some ⟨2, 0, none⟩)), (4, .pointer (some ⟨4, 0, none⟩)), (6, .pointer (some ⟨5, 0, none⟩))]
def eBG : List (Nat × Value) := [(7, .pointer (some ⟨7, 0, none⟩)), (8, .pointer (some ⟨8, 0, none⟩)), (1, .pointer (some ⟨1, 0, none⟩)), (2, .pointer (some ⟨2, 0, none⟩)), (4, .pointer (some ⟨4, 0, none⟩)), (6, .pointer (some ⟨5, 0, none⟩))]

namespace TG
noncomputable def rfB : Code := match fb Tryz.f11 0 with | .block _ (.rangeFunc _ _ _ b) => b | _ => .skip
noncomputable def rfA : Code := match fb Tryz.f11 0 with | .block _ (.rangeFunc _ _ a _) => a | _ => .skip
theorem fb_eq : fb Tryz.f11 0 = .block 0 (.rangeFunc (.tmp 23) [24, 25].toArray rfA rfB) := by kernel_rfl
theorem okA : codeOk 62 rfA = true := by kernel_rfl
theorem okB : codeOk 62 rfB = true := by kernel_rfl
theorem aRun (lid : Nat) {x z : List Int} {n N t f : Nat} {a : Fc} : ComesX (some lid) ([], false) Tryz.prog 62 7 rfA (ePG t f a) (HG x z n N) .normal eBG (HG x z n N ++ jkG t f a) :=
  comesX_run (S := { dir := dd [], know := kk [], loop := noloop }) (k := 60) (ts := [7, 8, 1, 2, 4, 6]) (A := Dn .normal eBG (HG x z n N ++ jkG t f a)) TY_ok mixed (fun _ => rfl) okA (dn _ _ _) (by kernel_rfl)
def B (lid : Nat) (x z z2 : List Int) (n N t f : Nat) (a : Fc) : Prop := ComesX (some lid) ([], false) Tryz.prog 62 7 rfB eBG (HG x z n N ++ jkG t f a) .normal [] (HG x z2 n N ++ jkG t f a)
def SgP (a : Fc) (s : Int) : Prop := Plain Tryz.prog 40 [pmv a.p] (.int .i64 s)
def IxP (k n : Int) : Prop := 0 ≤ k ∧ k < n
def W1 (x z z2 : List Int) (n N t f : Nat) (a : Fc) (q : Int) : Prop := writeCells (HG x z n N ++ jkG t f a) ⟨3, 0 + t * 20 + f * 5 + 0, none⟩ [.int .i64 q] = some (HG x z2 n N ++ jkG t f a)
def W2 (x z z2 : List Int) (n N t f : Nat) (a : Fc) (t2 q : Int) : Prop := writeCells (HG x z n N ++ jkG t f a) ⟨3, 0 + t2.toNat * 20 + f * 5 + 0, none⟩ [.int .i64 q] = some (HG x z2 n N ++ jkG t f a)

theorem bA {lid : Nat} {x z : List Int} {n N t f : Nat} {a : Fc} (h1 : ile 0 a.u = false) : B lid x z z n N t f a :=
  comesX_run (S := { dir := dd [((8, 4), knowD false)], know := kk [], loop := noloop }) (k := 60) (ts := []) (A := (ile 0 a.u = false) ∧ Dn .normal [] (HG x z n N ++ jkG t f a)) TY_ok mixed (fun _ => rfl) okB ⟨h1, dn _ _ _⟩ (by kernel_rfl)
theorem bB {lid : Nat} {x z : List Int} {n N t f : Nat} {a : Fc} {s : Int} (h1 : ile 0 a.u = true) (h2 : SgP a s) (h3 : (s == 1) = false) : B lid x z z n N t f a :=
  comesX_run (S := { dir := dd [((8, 4), knowD true), ((8, 6), plD (.int .i64 s))], know := kk [(34, false)], loop := noloop }) (k := 60) (ts := []) (A := (ile 0 a.u = true) ∧ SgP a s ∧ ((s == 1) = false) ∧ Dn .normal [] (HG x z n N ++ jkG t f a)) TY_ok mixed (fun _ => rfl) okB ⟨h1, h2, h3, dn _ _ _⟩ (by kernel_rfl)
theorem bC {lid : Nat} {x z z2 z3 : List Int} {n N t f : Nat} {a : Fc} {s : Int} (h1 : ile 0 a.u = true) (h2 : SgP a s) (h3 : (s == 1) = true) (h4 : IxP t N) (h5 : IxP f (4 : Nat)) (h6 : W1 x z z2 n N t f a (IntKind.i64.wrap (a.u + n)))
    (h7 : IxP (IntKind.i64.wrap ((t : Int) + n)) N) (h8 : W2 x z2 z3 n N t f a (IntKind.i64.wrap ((t : Int) + n)) a.u) : B lid x z z3 n N t f a :=
  comesX_run (S := { dir := dd [((8, 4), knowD true), ((8, 6), plD (.int .i64 s)), ((9, 10), ixD), ((9, 11), ixD), ((9, 13), (none, .st fun _ _ _ => HG x z2 n N ++ jkG t f a)), ((10, 10), ixD), ((10, 11), ixD), ((10, 13), (none, .st fun _ _ _ => HG x z3 n N ++ jkG t f a))], know := kk [(34, true)], loop := noloop }) (k := 60) (ts := [])
    (A := (ile 0 a.u = true) ∧ SgP a s ∧ ((s == 1) = true) ∧ IxP t N ∧ IxP f (4 : Nat) ∧ W1 x z z2 n N t f a (IntKind.i64.wrap (a.u + n)) ∧ IxP (IntKind.i64.wrap ((t : Int) + n)) N ∧ IxP f (4 : Nat) ∧ W2 x z2 z3 n N t f a (IntKind.i64.wrap ((t : Int) + n)) a.u ∧ Dn .normal [] (HG x z3 n N ++ jkG t f a))
    TY_ok mixed (fun _ => rfl) okB ⟨h1, h2, h3, h4, h5, h6, h7, h5, h8, dn _ _ _⟩ (by kernel_rfl)
end TG

namespace DG
noncomputable def rfB : Code := match fb Tryz.f12 0 with | .block _ (.rangeFunc _ _ _ b) => b | _ => .skip
noncomputable def rfA : Code := match fb Tryz.f12 0 with | .block _ (.rangeFunc _ _ a _) => a | _ => .skip
theorem fb_eq : fb Tryz.f12 0 = .block 0 (.rangeFunc (.tmp 23) [24, 25].toArray rfA rfB) := by kernel_rfl
theorem okA : codeOk 58 rfA = true := by kernel_rfl
theorem okB : codeOk 58 rfB = true := by kernel_rfl
theorem aRun (lid : Nat) {x z : List Int} {n N t f : Nat} {a : Fc} : ComesX (some lid) ([], false) Tryz.prog 58 7 rfA (ePG t f a) (HG x z n N) .normal eBG (HG x z n N ++ jkG t f a) :=
  comesX_run (S := { dir := dd [], know := kk [], loop := noloop }) (k := 60) (ts := [7, 8, 1, 2, 4, 6]) (A := Dn .normal eBG (HG x z n N ++ jkG t f a)) TY_ok mixed (fun _ => rfl) okA (dn _ _ _) (by kernel_rfl)
def B (lid : Nat) (x z z2 : List Int) (n N t f : Nat) (a : Fc) : Prop := ComesX (some lid) ([], false) Tryz.prog 58 7 rfB eBG (HG x z n N ++ jkG t f a) .normal [] (HG x z2 n N ++ jkG t f a)
def idP : Pm := ⟨0, 1, 2, 3⟩
def IdP : Prop := Plain Tryz.prog 41 [] (pmv idP)
def IxP (k n : Int) : Prop := 0 ≤ k ∧ k < n
def W1 (x z z2 : List Int) (n N t f : Nat) (a : Fc) (q : Int) : Prop := writeCells (HG x z n N ++ jkG t f a) ⟨3, 0 + t * 20 + f * 5, none⟩ (Fc.cells ⟨q, idP⟩) = some (HG x z2 n N ++ jkG t f a)
def W2 (x z z2 : List Int) (n N t f : Nat) (a : Fc) (t2 q : Int) : Prop := writeCells (HG x z n N ++ jkG t f a) ⟨3, 0 + t2.toNat * 20 + f * 5, none⟩ (Fc.cells ⟨q, idP⟩) = some (HG x z2 n N ++ jkG t f a)
theorem id41 : IdP := Plain.of_fun (S := A0) (k := 20) TY_ok mixed fn41_ok (by simp) rfl (A := Rt (pmv idP)) (rt _) (by kernel_rfl)
theorem bA {lid : Nat} {x z : List Int} {n N t f : Nat} {a : Fc} (h1 : ilt a.u 0 = false) : B lid x z z n N t f a :=
  comesX_run (S := { dir := dd [], know := kk [(28, false)], loop := noloop }) (k := 60) (ts := []) (A := (ilt a.u 0 = false) ∧ Dn .normal [] (HG x z n N ++ jkG t f a)) TY_ok mixed (fun _ => rfl) okB ⟨h1, dn _ _ _⟩ (by kernel_rfl)
theorem bC {lid : Nat} {x z z2 z3 : List Int} {n N t f : Nat} {a : Fc} (h1 : ilt a.u 0 = true) (h4 : IxP t N) (h5 : IxP f (4 : Nat)) (h6 : W1 x z z2 n N t f a (IntKind.i64.wrap ((t : Int) + n)))
    (h7 : IxP (IntKind.i64.wrap ((t : Int) + n)) N) (h8 : W2 x z2 z3 n N t f a (IntKind.i64.wrap ((t : Int) + n)) t) : B lid x z z3 n N t f a :=
  comesX_run (S := { dir := dd [((9, 10), plD (pmv idP)), ((9, 12), ixD), ((9, 13), ixD), ((9, 14), (none, .st fun _ _ _ => HG x z2 n N ++ jkG t f a)), ((10, 10), plD (pmv idP)), ((10, 12), ixD), ((10, 13), ixD), ((10, 14), (none, .st fun _ _ _ => HG x z3 n N ++ jkG t f a))], know := kk [(28, true)], loop := noloop }) (k := 60) (ts := [])
    (A := (ilt a.u 0 = true) ∧ IdP ∧ IxP t N ∧ IxP f (4 : Nat) ∧ W1 x z z2 n N t f a (IntKind.i64.wrap ((t : Int) + n)) ∧ IdP ∧ IxP (IntKind.i64.wrap ((t : Int) + n)) N ∧ IxP f (4 : Nat) ∧ W2 x z2 z3 n N t f a (IntKind.i64.wrap ((t : Int) + n)) t ∧ Dn .normal [] (HG x z3 n N ++ jkG t f a))
    TY_ok mixed (fun _ => rfl) okB ⟨h1, id41, h4, h5, h6, id41, h7, h5, h8, dn _ _ _⟩ (by kernel_rfl)
end DG
end Go.Ab

namespace Go.Ab
open Go.Proofs

/-- The number of a face in a gluing taken twice. -/
def bi (n t f : Nat) : Nat := 4 * (if t < n then t else t - n) + f
def mixi (F G : FF) (n i : Nat) : FF := fun t f => if bi n t f < i then G t f else F t f
theorem bi_lo {n t f : Nat} (h : t < n) : bi n t f = 4 * t + f := by unfold bi; rw [if_pos h]
theorem bi_hi {n t f : Nat} (h : ¬ t < n) : bi n t f = 4 * (t - n) + f := by unfold bi; rw [if_neg h]
theorem mixi_zero (F G : FF) (n : Nat) : mixi F G n 0 = F := by funext t f; simp [mixi]
theorem mixi_at {F G : FF} {n i : Nat} (hi : i < 4 * n) : mixi F G n i (i / 4) (i % 4) = F (i / 4) (i % 4) := by
  simp only [mixi]; rw [if_neg]; rw [bi_lo (by omega)]; omega
theorem mixi_at2 {F G : FF} {n i : Nat} (hi : i < 4 * n) : mixi F G n i (i / 4 + n) (i % 4) = F (i / 4 + n) (i % 4) := by
  simp only [mixi]; rw [if_neg]; rw [bi_hi (by omega)]; omega
theorem mixi_succ {F G : FF} {n i : Nat} (hi : i < 4 * n) : build (n + n) (upd (upd (mixi F G n i) (i / 4) (i % 4) (G (i / 4) (i % 4))) (i / 4 + n) (i % 4) (G (i / 4 + n) (i % 4))) = build (n + n) (mixi F G n (i + 1)) := by
  refine build_congr fun t f ht hf => ?_
  simp only [upd, mixi]
  by_cases h1 : t = i / 4 + n ∧ f = i % 4
  · obtain ⟨rfl, rfl⟩ := h1
    rw [if_pos ⟨rfl, rfl⟩, if_pos]
    rw [bi_hi (by omega)]; omega
  · rw [if_neg h1]
    by_cases h2 : t = i / 4 ∧ f = i % 4
    · obtain ⟨rfl, rfl⟩ := h2
      rw [if_pos ⟨rfl, rfl⟩, if_pos]
      rw [bi_lo (by omega)]; omega
    · rw [if_neg h2]
      have hb : bi n t f ≠ i := by
        by_cases h3 : t < n
        · rw [bi_lo h3]; intro e; exact h2 ⟨by omega, by omega⟩
        · rw [bi_hi h3]; intro e; exact h1 ⟨by omega, by omega⟩
      by_cases h4 : bi n t f < i
      · rw [if_pos h4, if_pos (by omega)]
      · rw [if_neg h4, if_neg (by omega)]
theorem mixi_skip {F G : FF} {n i : Nat} (hi : i < 4 * n) (h1 : G (i / 4) (i % 4) = F (i / 4) (i % 4)) (h2 : G (i / 4 + n) (i % 4) = F (i / 4 + n) (i % 4)) : build (n + n) (mixi F G n (i + 1)) = build (n + n) (mixi F G n i) := by
  rw [← mixi_succ hi]
  refine build_congr fun t f ht hf => ?_
  simp only [upd]
  split
  · rename_i h; obtain ⟨rfl, rfl⟩ := h; rw [h2, mixi_at2 hi]
  · split
    · rename_i h; obtain ⟨rfl, rfl⟩ := h; rw [h1, mixi_at hi]
    · rfl
theorem mixi_all (F G : FF) (n : Nat) : build (n + n) (mixi F G n (4 * n)) = build (n + n) G := by
  refine build_congr fun t f ht hf => ?_
  simp only [mixi]
  rw [if_pos]
  by_cases h3 : t < n
  · rw [bi_lo h3]; omega
  · rw [bi_hi h3]; omega

/-- The heap of the iterator inside. -/
theorem emb_HG {x z : List Int} {n N : Nat} (y : Heap) : Emb [some 6, some 0] (faceH2 n x) (HG x z n N ++ y) := by
  refine ⟨rfl, ?_, ?_⟩
  · intro i b2 hi
    match i with
    | 0 => simp [hblk, faceH2] at hi; subst hi; exact .inl ⟨6, _, rfl, rfl, ⟨_, _, rfl, .inr ⟨0, rfl, rfl⟩, rfl⟩, fun hh => by cases hh⟩
    | 1 => simp [hblk, faceH2] at hi; subst hi; exact .inl ⟨0, _, rfl, rfl, subL_plain _ _ (ints_plain x), fun hh => by cases hh⟩
    | i + 2 => simp [hblk, faceH2] at hi
  · intro i j k2 b2 b2' _ hi ho
    match i with
    | 0 => simp [hblk, faceH2] at hi; subst hi; cases ho
    | 1 => simp [hblk, faceH2] at hi; subst hi; cases ho
    | i + 2 => simp [hblk, faceH2] at hi

theorem lpG_ok {N : Nat} (hN : 30 < N) {x : List Int} {n i : Nat} {args : List Value} (hx : x.length = 20 * n) (ha : (facesL n x)[i]? = some args) (he : ∀ p ∈ ([(24, 0), (25, 0), (1, 0), (2, 0), (4, 0), (6, 0)] : List (Nat × Nat)), p.1 < N) (hput : ∀ v w : Value, ∀ p ∈ ([(25, w), (24, v), (1, .pointer (some ⟨1, 0, none⟩)), (2, .pointer (some ⟨2, 0, none⟩)), (4, .pointer (some ⟨4, 0, none⟩)), (6, .pointer (some ⟨5, 0, none⟩))] : List (Nat × Value)), putPs [24, 25] [v, w] (envL (mkE N eLG)) p.1 = some p.2) :
    ∀ p ∈ ePG (i / 4) (i % 4) (fc x (i / 4) (i % 4)), putPs [24, 25] args (envL (mkE N eLG)) p.1 = some p.2 ∧ sub (idS 7) p.2 p.2 := by
  have hi : i < 4 * n := by rw [← facesL_length n x]; exact (List.getElem?_eq_some_iff.1 ha).1
  rw [facesL_at hx hi] at ha
  cases ha
  intro p hp
  refine ⟨hput _ _ p hp, ?_⟩
  simp only [ePG, List.mem_cons, List.not_mem_nil, or_false] at hp
  rcases hp with rfl | rfl | rfl | rfl | rfl | rfl <;> exact belowB_sub _ rfl

theorem hliveG {x z : List Int} {n N : Nat} : ∀ i, i < 7 → (hblk (HG x z n N) i).isSome = true := by
  intro i hi
  match i, hi with
  | 0, _ => rfl
  | 1, _ => rfl
  | 2, _ => rfl
  | 3, _ => rfl
  | 4, _ => rfl
  | 5, _ => rfl
  | 6, _ => rfl
theorem hsaG : ∀ i j : Nat, ([some 6, some 0] : List (Option Nat))[i]? = some (some j) → j < 7 := by
  intro i j h
  match i with
  | 0 => simp at h; omega
  | 1 => simp at h; omega
  | i + 2 => simp at h

/-- What Twofold makes of a face. -/
def gtw (x : List Int) (n : Nat) : FF := fun t f => if t < n then (if ile 0 (fc x t f).u = true ∧ (sgnV (fc x t f).p == 1) = true then (fc x t f).add n else fc x t f)
  else (if ile 0 (fc x (t - n) f).u = true ∧ (sgnV (fc x (t - n) f).p == 1) = true then fc x (t - n) f else (fc x (t - n) f).sh n)

theorem sh_p (a : Fc) (k : Int) : (a.sh k).p = a.p := by unfold Fc.sh; split <;> rfl

namespace TG
theorem sg_ok {a : Fc} (hp : a.p.valid = true) : SgP a (sgnV a.p) := by
  have := sign25 hp
  unfold SgP sgnV
  rw [if_pos hp]
  exact this
theorem step (lid : Nat) {x : List Int} {n i : Nat} (hn : n ≤ 500) (hi : i < 4 * n) (hv : ∀ t f, t < n → f < 4 → ile 0 (fc x t f).u = true → (fc x t f).p.valid = true) :
    B lid x (build (n + n) (mixi (uniF x n) (gtw x n) n i)) (build (n + n) (mixi (uniF x n) (gtw x n) n (i + 1))) n (n + n) (i / 4) (i % 4) (fc x (i / 4) (i % 4)) := by
  have ht : i / 4 < n := by omega
  have hf : i % 4 < 4 := by omega
  have e1 : uniF x n (i / 4) (i % 4) = fc x (i / 4) (i % 4) := if_pos ht
  have e2 : uniF x n (i / 4 + n) (i % 4) = (fc x (i / 4) (i % 4)).sh n := by simp only [uniF]; rw [if_neg (by omega), show i / 4 + n - n = i / 4 by omega]
  have g1 : gtw x n (i / 4) (i % 4) = if ile 0 (fc x (i / 4) (i % 4)).u = true ∧ (sgnV (fc x (i / 4) (i % 4)).p == 1) = true then (fc x (i / 4) (i % 4)).add n else fc x (i / 4) (i % 4) := if_pos ht
  have g2 : gtw x n (i / 4 + n) (i % 4) = if ile 0 (fc x (i / 4) (i % 4)).u = true ∧ (sgnV (fc x (i / 4) (i % 4)).p == 1) = true then fc x (i / 4) (i % 4) else (fc x (i / 4) (i % 4)).sh n := by
    simp only [gtw]; rw [if_neg (by omega), show i / 4 + n - n = i / 4 by omega]
  by_cases hc : ile 0 (fc x (i / 4) (i % 4)).u = true ∧ (sgnV (fc x (i / 4) (i % 4)).p == 1) = true
  · rw [if_pos hc] at g1 g2
    have hw : IntKind.i64.wrap (((i / 4 : Nat) : Int) + n) = ((i / 4 + n : Nat) : Int) := by rw [wrap_of (by omega) (by omega)]; omega
    refine bC (z2 := build (n + n) (upd (mixi (uniF x n) (gtw x n) n i) (i / 4) (i % 4) (gtw x n (i / 4) (i % 4)))) hc.1 (sg_ok (hv _ _ ht hf hc.1)) hc.2 ⟨by omega, by omega⟩ ⟨by omega, by omega⟩ ?_ (by rw [hw]; exact ⟨by omega, by omega⟩) ?_
    · unfold W1
      rw [wr_tet (b := 3) (F := mixi (uniF x n) (gtw x n) n i) rfl (by omega) hf, mixi_at hi, e1, g1]
      rfl
    · unfold W2
      rw [hw, show ((i / 4 + n : Nat) : Int).toNat = i / 4 + n by omega, wr_tet (b := 3) (F := upd (mixi (uniF x n) (gtw x n) n i) (i / 4) (i % 4) (gtw x n (i / 4) (i % 4))) rfl (by omega) hf]
      have e3 : upd (mixi (uniF x n) (gtw x n) n i) (i / 4) (i % 4) (gtw x n (i / 4) (i % 4)) (i / 4 + n) (i % 4) = (fc x (i / 4) (i % 4)).sh n := by
        simp only [upd]; rw [if_neg (by omega), mixi_at2 hi, e2]
      rw [e3, sh_p, show (⟨(fc x (i / 4) (i % 4)).u, (fc x (i / 4) (i % 4)).p⟩ : Fc) = gtw x n (i / 4 + n) (i % 4) by rw [g2], mixi_succ hi]
      rfl
  · rw [if_neg hc] at g1 g2
    rw [mixi_skip hi (by rw [g1, e1]) (by rw [g2, e2])]
    cases h1 : ile 0 (fc x (i / 4) (i % 4)).u with
    | false => exact bA h1
    | true =>
      have h2 : (sgnV (fc x (i / 4) (i % 4)).p == 1) = false := by
        cases h : (sgnV (fc x (i / 4) (i % 4)).p == 1) with
        | false => rfl
        | true => exact absurd ⟨h1, h⟩ hc
      exact bB h1 (sg_ok (hv _ _ ht hf h1)) h2
end TG
end Go.Ab

namespace Go.Ab
open Go.Proofs

/-- A union of nothing, used at a heap that holds both. -/
theorem gives_no {x y : List Int} {b c : Nat} {h : Heap} {w w' : Bool} (hs : Sum Tryz.prog 21 [gV 0 0, gV 1 0] [some ⟨ints x, false⟩, some ⟨ints y, false⟩] fun o h2 => o = .ret GU.gNo ∧ h2 = [some ⟨ints x, false⟩, some ⟨ints y, false⟩]) (hb : hblk h b = some ⟨ints x, w⟩) (hc : hblk h c = some ⟨ints y, w'⟩) :
    Gives Tryz.prog 21 [gV b 0, gV c 0] h (.ret (ren (backF [some b, some c] h.length) GU.gNo)) h ∧ ∃ y, h = h ++ y := by
  have := gives_new (new := []) (hs.mono fun o h2 hr => ⟨hr.1, by rw [hr.2]; simp⟩) rfl (emb_two hb hc) (xs := [gV b 0, gV c 0]) ⟨_, _, rfl, sub_gV rfl, _, _, rfl, sub_gV rfl, rfl⟩
  simpa using this

namespace TG
theorem range_ok {x : List Int} {n : Nat} (hn : n ≤ 500) (hx : x.length = 20 * n) (hv : ∀ t f, t < n → f < 4 → ile 0 (fc x t f).u = true → (fc x t f).p.valid = true) :
    (obs Tryz.prog TY none ([], true) 62).loop 1 (fb Tryz.f11 0) eLG (HG x (build (n + n) (uniF x n)) n (n + n)) .normal eLG (HG x (build (n + n) (gtw x n)) n (n + n)) := by
  have hseq := faces_seq2 (show n < 1000000000 by omega) hx
  have hl : ∀ p ∈ eLG, envL (mkE 62 eLG) p.1 = some p.2 ∧ sub (idS 7) p.2 p.2 := by
    intro p hp
    simp only [eLG, List.mem_cons, List.not_mem_nil, or_false] at hp
    rcases hp with rfl | rfl | rfl | rfl | rfl <;> exact ⟨rfl, belowB_sub _ rfl⟩
  have len : (facesL n x).length = 4 * n := facesL_length n x
  refine comes_range (N := 7) TY fb_eq rfl (by omega) rfl hseq ⟨_, _, rfl, ⟨6, rfl, rfl⟩, rfl⟩ hsaG hl (by decide) facesL_shape (fun i => HG x (build (n + n) (mixi (uniF x n) (gtw x n) n i)) n (n + n)) (fun _ => rfl) hliveG (fun _ => HG_closed x _ n _) (by simp only [mixi_zero]) (fun _ y => emb_HG y)
    (fun i => ePG (i / 4) (i % 4) (fc x (i / 4) (i % 4))) (fun i args ha => lpG_ok (N := 62) (by decide) hx ha (by decide) (fun v w p hp => by
      simp only [List.mem_cons, List.not_mem_nil, or_false] at hp
      rcases hp with rfl | rfl | rfl | rfl | rfl | rfl <;> rfl))
    (facesL n x).length (Nat.le_refl _) ?_ (.inl ⟨rfl, rfl, rfl, by rw [len, mixi_all]⟩)
  intro lid i hi
  exact ⟨_, _, _, aRun lid, step lid hn (by omega) hv⟩

def Hc (x : List Int) (n : Nat) : Heap := [some ⟨ints x, false⟩, some ⟨[gS 0 n], true⟩, some ⟨[.slice none 0 0], true⟩]
abbrev Gu (x z : List Int) (n : Nat) : Prop := Gives Tryz.prog 21 [gV 0 n, gV 0 n] (Hc x n) (.ret (gRes 3 (n + n) 0)) (Hc x n ++ [some ⟨ints z, true⟩]) ∧ ∃ y, Hc x n ++ [some ⟨ints z, true⟩] = Hc x n ++ y
abbrev Ge (x : List Int) (n : Nat) : Prop := Gives Tryz.prog 21 [gV 0 n, gV 0 n] (Hc x n) (.ret (gErr 7)) (Hc x n) ∧ ∃ y, Hc x n = Hc x n ++ y
def Hb (x z : List Int) (n N : Nat) : Heap := [some ⟨ints x, false⟩, some ⟨[gS 0 n], true⟩, some ⟨[.slice none 0 0], true⟩, some ⟨ints z, true⟩, some ⟨[gS 3 N], true⟩, some ⟨[.int .i64 n], true⟩]
abbrev Gf (x z : List Int) (n N : Nat) : Prop := Gives Tryz.prog 39 [gV 0 n] (Hb x z n N) (.ret (GC.facesF 6)) (HG x z n N) ∧ ∃ y, HG x z n N = Hb x z n N ++ y
def Hf (x z : List Int) (n N : Nat) : Heap := [some ⟨ints x, false⟩, some ⟨[gS 0 n], true⟩, some ⟨[gS 3 N], true⟩, some ⟨ints z, true⟩, some ⟨[gS 3 N], true⟩, some ⟨[.int .i64 n], true⟩, some ⟨[gS 0 n], true⟩]
abbrev LP (x z z2 : List Int) (n N : Nat) : Prop := (obs Tryz.prog TY none ([], true) 62).loop 1 (fb Tryz.f11 0) eLG (HG x z n N) .normal eLG (HG x z2 n N)
theorem run {x z z2 : List Int} {n : Nat} (g1 : Gu x z n) (g2 : Gf x z n (n + n)) (g3 : LP x z z2 n (n + n)) : Sum Tryz.prog 11 [gV 0 n] [some ⟨ints x, false⟩] fun o h2 => o = .ret (gRes 3 (n + n) 0) ∧ h2 = Hf x z2 n (n + n) :=
  tFun_sum (S := { dir := dd [((1, 2), (none, .ans fun _ _ => (gRes 3 (n + n) 0, Hc x n ++ [some ⟨ints z, true⟩]))), ((5, 1), (none, .ans fun _ _ => (GC.facesF 6, HG x z n (n + n))))], know := kk [], loop := loops [(0, ([1, 2, 4, 6, 23], fun _ _ => (.normal, eLG, HG x z2 n (n + n))))] }) (k := 60) TY_ok mixed fn11_ok
    (A := Gu x z n ∧ Gf x z n (n + n) ∧ LP x z z2 n (n + n) ∧ AOut.ret (gRes 3 (n + n) 0) = .ret (gRes 3 (n + n) 0) ∧ Hf x z2 n (n + n) = Hf x z2 n (n + n)) ⟨g1, g2, g3, rfl, rfl⟩ (by kernel_rfl)
theorem runBad {x : List Int} {n : Nat} (g : Ge x n) : Sum Tryz.prog 11 [gV 0 n] [some ⟨ints x, false⟩] fun o _ => o = .ret (gErr 7) :=
  tFun_sum (S := { dir := dd [((1, 2), ansD (gErr 7) id)], know := kk [], loop := noloop }) (k := 60) TY_ok mixed fn11_ok (A := Ge x n ∧ AOut.ret (gErr 7) = .ret (gErr 7)) ⟨g, rfl⟩ (by kernel_rfl)

-- no tetrahedra
abbrev Gn (x : List Int) : Prop := Gives Tryz.prog 21 [gV 0 0, gV 0 0] (Hc x 0) (.ret GU.gNo) (Hc x 0) ∧ ∃ y, Hc x 0 = Hc x 0 ++ y
def Hn (x : List Int) : Heap := [some ⟨ints x, false⟩, some ⟨[gS 0 0], true⟩, some ⟨[.slice none 0 0], true⟩, some ⟨[sE], true⟩, some ⟨[.int .i64 0], true⟩]
def Hm (x : List Int) : Heap := Hn x ++ [some ⟨[gS 0 0], true⟩]
def Hl (x : List Int) : Heap := [some ⟨ints x, false⟩, some ⟨[gS 0 0], true⟩, some ⟨[sE], true⟩, some ⟨[sE], true⟩, some ⟨[.int .i64 0], true⟩, some ⟨[gS 0 0], true⟩]
abbrev Gg (x : List Int) : Prop := Gives Tryz.prog 39 [gV 0 0] (Hn x) (.ret (GC.facesF 5)) (Hm x) ∧ ∃ y, Hm x = Hn x ++ y
def eLn : List (Nat × Value) := [(1, .pointer (some ⟨1, 0, none⟩)), (2, .pointer (some ⟨2, 0, none⟩)), (4, .pointer (some ⟨3, 0, none⟩)), (6, .pointer (some ⟨4, 0, none⟩)), (23, GC.facesF 5)]
abbrev LN (x : List Int) : Prop := (obs Tryz.prog TY none ([], true) 62).loop 1 (fb Tryz.f11 0) eLn (Hm x) .normal eLn (Hm x)
theorem range0 {x : List Int} (hx : x.length = 20 * 0) : LN x := by
  have hseq := faces_seq2 (n := 0) (by omega) hx
  have hl : ∀ p ∈ eLn, envL (mkE 62 eLn) p.1 = some p.2 ∧ sub (idS 6) p.2 p.2 := by
    intro p hp
    simp only [eLn, List.mem_cons, List.not_mem_nil, or_false] at hp
    rcases hp with rfl | rfl | rfl | rfl | rfl <;> exact ⟨rfl, belowB_sub _ rfl⟩
  have len : (facesL 0 x).length = 0 := facesL_length 0 x
  refine comes_range (N := 6) TY fb_eq rfl (by omega) rfl hseq (s := [some 5, some 0]) ⟨_, _, rfl, ⟨5, rfl, rfl⟩, rfl⟩ ?_ hl (by decide) facesL_shape (fun _ => Hm x) (fun _ => rfl) ?_ (fun _ => ?_) rfl (fun _ y => ?_) (fun _ => []) (fun i args ha => by have := (List.getElem?_eq_some_iff.1 ha).1; omega) 0 (Nat.zero_le _) (fun lid i hi => by omega) (.inl ⟨len.symm, rfl, rfl, rfl⟩)
  · intro i j h
    match i with
    | 0 => simp at h; omega
    | 1 => simp at h; omega
    | i + 2 => simp at h
  · intro i hi
    match i, hi with
    | 0, _ => rfl
    | 1, _ => rfl
    | 2, _ => rfl
    | 3, _ => rfl
    | 4, _ => rfl
    | 5, _ => rfl
  · exact closedH_cons (subL_plain _ _ (ints_plain x)) (closedH_cons (belowL_sub _ rfl) (closedH_cons (subL_plain _ _ rfl) (closedH_cons (belowL_sub _ rfl) (closedH_cons (subL_plain _ _ rfl) (closedH_cons (belowL_sub _ rfl) closedH_nil)))))
  · refine ⟨rfl, ?_, ?_⟩
    · intro i b2 hi
      match i with
      | 0 => simp [hblk, faceH2] at hi; subst hi; exact .inl ⟨5, _, rfl, rfl, ⟨_, _, rfl, .inr ⟨0, rfl, rfl⟩, rfl⟩, fun hh => by cases hh⟩
      | 1 => simp [hblk, faceH2] at hi; subst hi; exact .inl ⟨0, _, rfl, rfl, subL_plain _ _ (ints_plain x), fun hh => by cases hh⟩
      | i + 2 => simp [hblk, faceH2] at hi
    · intro i j k2 b2 b2' _ hi ho
      match i with
      | 0 => simp [hblk, faceH2] at hi; subst hi; cases ho
      | 1 => simp [hblk, faceH2] at hi; subst hi; cases ho
      | i + 2 => simp [hblk, faceH2] at hi
theorem run0 {x : List Int} (g1 : Gn x) (g2 : Gg x) (g3 : LN x) : Sum Tryz.prog 11 [gV 0 0] [some ⟨ints x, false⟩] fun o h2 => o = .ret GU.gNo ∧ h2 = Hl x :=
  tFun_sum (S := { dir := dd [((1, 2), (none, .ans fun _ h => (GU.gNo, h))), ((5, 1), (none, .ans fun _ _ => (GC.facesF 5, Hm x)))], know := kk [], loop := loops [(0, ([1, 2, 4, 6, 23], fun _ _ => (.normal, eLn, Hm x)))] }) (k := 60) TY_ok mixed fn11_ok
    (A := Gn x ∧ Gg x ∧ LN x ∧ AOut.ret GU.gNo = .ret GU.gNo ∧ Hl x = Hl x) ⟨g1, g2, g3, rfl, rfl⟩ (by kernel_rfl)
end TG

theorem gtwofold_ok {x : List Int} {n : Nat} (hn : n ≤ 500) (h0 : 0 < n) (hx : x.length = 20 * n) (cx : chk n x = 0) (hv : ∀ t f, t < n → f < 4 → ile 0 (fc x t f).u = true → (fc x t f).p.valid = true) :
    Sum Tryz.prog 11 [gV 0 n] [some ⟨ints x, false⟩] fun o h2 => o = .ret (gRes 1 (n + n) 0) ∧ h2 = [some ⟨ints x, false⟩] ++ [some ⟨ints (build (n + n) (gtw x n)), true⟩] := by
  have gu : TG.Gu x (build (n + n) (uniF x n)) n := by
    have := gives_two_new (b := 0) (c := 0) (h := TG.Hc x n) (w := false) (w' := false) (gunion_ok (by omega) (by omega) hx hx cx cx) rfl rfl
    rw [uni_build hx] at this
    exact this
  have gf : TG.Gf x (build (n + n) (uniF x n)) n (n + n) := faces_gives (TG.Hb x (build (n + n) (uniF x n)) n (n + n))
  have hs := TG.run gu gf (TG.range_ok hn hx hv)
  exact Sum.pick (ks := [0, 3]) hs (by kernel_rfl) ⟨⟨_, rfl, subL_plain _ _ (ints_plain x), id⟩, ⟨_, rfl, subL_plain _ _ (ints_plain _), id⟩, trivial⟩ (by kernel_rfl) ⟨_, rfl, _, _, rfl, sub_gV rfl, _, _, rfl, rfl, rfl⟩
theorem gtwofold_bad {x : List Int} {n : Nat} (hx : x.length = 20 * n) (cx : chk n x = 7) : Sum Tryz.prog 11 [gV 0 n] [some ⟨ints x, false⟩] fun o _ => o = .ret (gErr 7) :=
  TG.runBad (gives_two (b := 0) (c := 0) (h := TG.Hc x n) (w := false) (w' := false) (gunion_bad hx hx (.inl cx)) rfl rfl rfl)
theorem gtwofold_no {x : List Int} (hx : x.length = 20 * 0) (cx : chk 0 x = 0) : Sum Tryz.prog 11 [gV 0 0] [some ⟨ints x, false⟩] fun o h2 => o = .ret GU.gNo ∧ h2 = [some ⟨ints x, false⟩] := by
  have gn : TG.Gn x := gives_no (gunion_no hx hx cx cx) (h := TG.Hc x 0) (w := false) (w' := false) (b := 0) (c := 0) rfl rfl
  have gf : TG.Gg x := faces_gives (TG.Hn x)
  exact Sum.pick (ks := [0]) (TG.run0 gn gf (TG.range0 hx)) (by kernel_rfl) ⟨⟨_, rfl, subL_plain _ _ (ints_plain x), id⟩, trivial⟩ (by kernel_rfl) ⟨_, rfl, _, _, rfl, ⟨_, rfl, _, _, rfl, .inr ⟨0, rfl, rfl⟩, rfl⟩, _, _, rfl, rfl, rfl⟩
end Go.Ab

namespace Go.Ab
open Go.Proofs

/-- What Double makes of a face. -/
def gdb (x : List Int) (n : Nat) : FF := fun t f => if t < n then (if ilt (fc x t f).u 0 = true then ⟨IntKind.i64.wrap ((t : Int) + n), DG.idP⟩ else fc x t f)
  else (if ilt (fc x (t - n) f).u 0 = true then ⟨((t - n : Nat) : Int), DG.idP⟩ else (fc x (t - n) f).sh n)

namespace DG
theorem step (lid : Nat) {x : List Int} {n i : Nat} (hn : n ≤ 500) (hi : i < 4 * n) :
    B lid x (build (n + n) (mixi (uniF x n) (gdb x n) n i)) (build (n + n) (mixi (uniF x n) (gdb x n) n (i + 1))) n (n + n) (i / 4) (i % 4) (fc x (i / 4) (i % 4)) := by
  have ht : i / 4 < n := by omega
  have hf : i % 4 < 4 := by omega
  have e1 : uniF x n (i / 4) (i % 4) = fc x (i / 4) (i % 4) := if_pos ht
  have e2 : uniF x n (i / 4 + n) (i % 4) = (fc x (i / 4) (i % 4)).sh n := by simp only [uniF]; rw [if_neg (by omega), show i / 4 + n - n = i / 4 by omega]
  have g1 : gdb x n (i / 4) (i % 4) = if ilt (fc x (i / 4) (i % 4)).u 0 = true then ⟨IntKind.i64.wrap (((i / 4 : Nat) : Int) + n), idP⟩ else fc x (i / 4) (i % 4) := if_pos ht
  have g2 : gdb x n (i / 4 + n) (i % 4) = if ilt (fc x (i / 4) (i % 4)).u 0 = true then ⟨((i / 4 : Nat) : Int), idP⟩ else (fc x (i / 4) (i % 4)).sh n := by
    simp only [gdb]; rw [if_neg (by omega), show i / 4 + n - n = i / 4 by omega]
  cases hc : ilt (fc x (i / 4) (i % 4)).u 0 with
  | true =>
    rw [if_pos hc] at g1 g2
    have hw : IntKind.i64.wrap (((i / 4 : Nat) : Int) + n) = ((i / 4 + n : Nat) : Int) := by rw [wrap_of (by omega) (by omega)]; omega
    refine bC (z2 := build (n + n) (upd (mixi (uniF x n) (gdb x n) n i) (i / 4) (i % 4) (gdb x n (i / 4) (i % 4)))) hc ⟨by omega, by omega⟩ ⟨by omega, by omega⟩ ?_ (by rw [hw]; exact ⟨by omega, by omega⟩) ?_
    · unfold W1
      rw [wr_face (b := 3) (F := mixi (uniF x n) (gdb x n) n i) rfl (by omega) hf, g1]
      rfl
    · unfold W2
      rw [hw, show ((i / 4 + n : Nat) : Int).toNat = i / 4 + n by omega, wr_face (b := 3) (F := upd (mixi (uniF x n) (gdb x n) n i) (i / 4) (i % 4) (gdb x n (i / 4) (i % 4))) rfl (by omega) hf]
      rw [← g2, mixi_succ hi]
      rfl
  | false =>
    rw [if_neg (by rw [hc]; simp)] at g1 g2
    rw [mixi_skip hi (by rw [g1, e1]) (by rw [g2, e2])]
    exact bA hc
end DG

namespace DG
theorem range_ok {x : List Int} {n : Nat} (hn : n ≤ 500) (hx : x.length = 20 * n) :
    (obs Tryz.prog TY none ([], true) 58).loop 1 (fb Tryz.f12 0) eLG (HG x (build (n + n) (uniF x n)) n (n + n)) .normal eLG (HG x (build (n + n) (gdb x n)) n (n + n)) := by
  have hseq := faces_seq2 (show n < 1000000000 by omega) hx
  have hl : ∀ p ∈ eLG, envL (mkE 58 eLG) p.1 = some p.2 ∧ sub (idS 7) p.2 p.2 := by
    intro p hp
    simp only [eLG, List.mem_cons, List.not_mem_nil, or_false] at hp
    rcases hp with rfl | rfl | rfl | rfl | rfl <;> exact ⟨rfl, belowB_sub _ rfl⟩
  have len : (facesL n x).length = 4 * n := facesL_length n x
  refine comes_range (N := 7) TY fb_eq rfl (by omega) rfl hseq ⟨_, _, rfl, ⟨6, rfl, rfl⟩, rfl⟩ hsaG hl (by decide) facesL_shape (fun i => HG x (build (n + n) (mixi (uniF x n) (gdb x n) n i)) n (n + n)) (fun _ => rfl) hliveG (fun _ => HG_closed x _ n _) (by simp only [mixi_zero]) (fun _ y => emb_HG y)
    (fun i => ePG (i / 4) (i % 4) (fc x (i / 4) (i % 4))) (fun i args ha => lpG_ok (N := 58) (by decide) hx ha (by decide) (fun v w p hp => by
      simp only [List.mem_cons, List.not_mem_nil, or_false] at hp
      rcases hp with rfl | rfl | rfl | rfl | rfl | rfl <;> rfl))
    (facesL n x).length (Nat.le_refl _) ?_ (.inl ⟨rfl, rfl, rfl, by rw [len, mixi_all]⟩)
  intro lid i hi
  exact ⟨_, _, _, aRun lid, step lid hn (by omega)⟩

def Hc (x : List Int) (n : Nat) : Heap := [some ⟨ints x, false⟩, some ⟨[gS 0 n], true⟩, some ⟨[.slice none 0 0], true⟩]
abbrev Gu (x z : List Int) (n : Nat) : Prop := Gives Tryz.prog 21 [gV 0 n, gV 0 n] (Hc x n) (.ret (gRes 3 (n + n) 0)) (Hc x n ++ [some ⟨ints z, true⟩]) ∧ ∃ y, Hc x n ++ [some ⟨ints z, true⟩] = Hc x n ++ y
abbrev Ge (x : List Int) (n : Nat) : Prop := Gives Tryz.prog 21 [gV 0 n, gV 0 n] (Hc x n) (.ret (gErr 7)) (Hc x n) ∧ ∃ y, Hc x n = Hc x n ++ y
def Hb (x z : List Int) (n N : Nat) : Heap := [some ⟨ints x, false⟩, some ⟨[gS 0 n], true⟩, some ⟨[.slice none 0 0], true⟩, some ⟨ints z, true⟩, some ⟨[gS 3 N], true⟩, some ⟨[.int .i64 n], true⟩]
abbrev Gf (x z : List Int) (n N : Nat) : Prop := Gives Tryz.prog 39 [gV 0 n] (Hb x z n N) (.ret (GC.facesF 6)) (HG x z n N) ∧ ∃ y, HG x z n N = Hb x z n N ++ y
def Hf (x z : List Int) (n N : Nat) : Heap := [some ⟨ints x, false⟩, some ⟨[gS 0 n], true⟩, some ⟨[gS 3 N], true⟩, some ⟨ints z, true⟩, some ⟨[gS 3 N], true⟩, some ⟨[.int .i64 n], true⟩, some ⟨[gS 0 n], true⟩]
abbrev LP (x z z2 : List Int) (n N : Nat) : Prop := (obs Tryz.prog TY none ([], true) 58).loop 1 (fb Tryz.f12 0) eLG (HG x z n N) .normal eLG (HG x z2 n N)
theorem run {x z z2 : List Int} {n : Nat} (g1 : Gu x z n) (g2 : Gf x z n (n + n)) (g3 : LP x z z2 n (n + n)) : Sum Tryz.prog 12 [gV 0 n] [some ⟨ints x, false⟩] fun o h2 => o = .ret (gRes 3 (n + n) 0) ∧ h2 = Hf x z2 n (n + n) :=
  tFun_sum (S := { dir := dd [((1, 2), (none, .ans fun _ _ => (gRes 3 (n + n) 0, Hc x n ++ [some ⟨ints z, true⟩]))), ((5, 1), (none, .ans fun _ _ => (GC.facesF 6, HG x z n (n + n))))], know := kk [], loop := loops [(0, ([1, 2, 4, 6, 23], fun _ _ => (.normal, eLG, HG x z2 n (n + n))))] }) (k := 60) TY_ok mixed fn12_ok
    (A := Gu x z n ∧ Gf x z n (n + n) ∧ LP x z z2 n (n + n) ∧ AOut.ret (gRes 3 (n + n) 0) = .ret (gRes 3 (n + n) 0) ∧ Hf x z2 n (n + n) = Hf x z2 n (n + n)) ⟨g1, g2, g3, rfl, rfl⟩ (by kernel_rfl)
theorem runBad {x : List Int} {n : Nat} (g : Ge x n) : Sum Tryz.prog 12 [gV 0 n] [some ⟨ints x, false⟩] fun o _ => o = .ret (gErr 7) :=
  tFun_sum (S := { dir := dd [((1, 2), ansD (gErr 7) id)], know := kk [], loop := noloop }) (k := 60) TY_ok mixed fn12_ok (A := Ge x n ∧ AOut.ret (gErr 7) = .ret (gErr 7)) ⟨g, rfl⟩ (by kernel_rfl)

-- no tetrahedra
abbrev Gn (x : List Int) : Prop := Gives Tryz.prog 21 [gV 0 0, gV 0 0] (Hc x 0) (.ret GU.gNo) (Hc x 0) ∧ ∃ y, Hc x 0 = Hc x 0 ++ y
def Hn (x : List Int) : Heap := [some ⟨ints x, false⟩, some ⟨[gS 0 0], true⟩, some ⟨[.slice none 0 0], true⟩, some ⟨[sE], true⟩, some ⟨[.int .i64 0], true⟩]
def Hm (x : List Int) : Heap := Hn x ++ [some ⟨[gS 0 0], true⟩]
def Hl (x : List Int) : Heap := [some ⟨ints x, false⟩, some ⟨[gS 0 0], true⟩, some ⟨[sE], true⟩, some ⟨[sE], true⟩, some ⟨[.int .i64 0], true⟩, some ⟨[gS 0 0], true⟩]
abbrev Gg (x : List Int) : Prop := Gives Tryz.prog 39 [gV 0 0] (Hn x) (.ret (GC.facesF 5)) (Hm x) ∧ ∃ y, Hm x = Hn x ++ y
def eLn : List (Nat × Value) := [(1, .pointer (some ⟨1, 0, none⟩)), (2, .pointer (some ⟨2, 0, none⟩)), (4, .pointer (some ⟨3, 0, none⟩)), (6, .pointer (some ⟨4, 0, none⟩)), (23, GC.facesF 5)]
abbrev LN (x : List Int) : Prop := (obs Tryz.prog TY none ([], true) 58).loop 1 (fb Tryz.f12 0) eLn (Hm x) .normal eLn (Hm x)
theorem range0 {x : List Int} (hx : x.length = 20 * 0) : LN x := by
  have hseq := faces_seq2 (n := 0) (by omega) hx
  have hl : ∀ p ∈ eLn, envL (mkE 58 eLn) p.1 = some p.2 ∧ sub (idS 6) p.2 p.2 := by
    intro p hp
    simp only [eLn, List.mem_cons, List.not_mem_nil, or_false] at hp
    rcases hp with rfl | rfl | rfl | rfl | rfl <;> exact ⟨rfl, belowB_sub _ rfl⟩
  have len : (facesL 0 x).length = 0 := facesL_length 0 x
  refine comes_range (N := 6) TY fb_eq rfl (by omega) rfl hseq (s := [some 5, some 0]) ⟨_, _, rfl, ⟨5, rfl, rfl⟩, rfl⟩ ?_ hl (by decide) facesL_shape (fun _ => Hm x) (fun _ => rfl) ?_ (fun _ => ?_) rfl (fun _ y => ?_) (fun _ => []) (fun i args ha => by have := (List.getElem?_eq_some_iff.1 ha).1; omega) 0 (Nat.zero_le _) (fun lid i hi => by omega) (.inl ⟨len.symm, rfl, rfl, rfl⟩)
  · intro i j h
    match i with
    | 0 => simp at h; omega
    | 1 => simp at h; omega
    | i + 2 => simp at h
  · intro i hi
    match i, hi with
    | 0, _ => rfl
    | 1, _ => rfl
    | 2, _ => rfl
    | 3, _ => rfl
    | 4, _ => rfl
    | 5, _ => rfl
  · exact closedH_cons (subL_plain _ _ (ints_plain x)) (closedH_cons (belowL_sub _ rfl) (closedH_cons (subL_plain _ _ rfl) (closedH_cons (belowL_sub _ rfl) (closedH_cons (subL_plain _ _ rfl) (closedH_cons (belowL_sub _ rfl) closedH_nil)))))
  · refine ⟨rfl, ?_, ?_⟩
    · intro i b2 hi
      match i with
      | 0 => simp [hblk, faceH2] at hi; subst hi; exact .inl ⟨5, _, rfl, rfl, ⟨_, _, rfl, .inr ⟨0, rfl, rfl⟩, rfl⟩, fun hh => by cases hh⟩
      | 1 => simp [hblk, faceH2] at hi; subst hi; exact .inl ⟨0, _, rfl, rfl, subL_plain _ _ (ints_plain x), fun hh => by cases hh⟩
      | i + 2 => simp [hblk, faceH2] at hi
    · intro i j k2 b2 b2' _ hi ho
      match i with
      | 0 => simp [hblk, faceH2] at hi; subst hi; cases ho
      | 1 => simp [hblk, faceH2] at hi; subst hi; cases ho
      | i + 2 => simp [hblk, faceH2] at hi
theorem run0 {x : List Int} (g1 : Gn x) (g2 : Gg x) (g3 : LN x) : Sum Tryz.prog 12 [gV 0 0] [some ⟨ints x, false⟩] fun o h2 => o = .ret GU.gNo ∧ h2 = Hl x :=
  tFun_sum (S := { dir := dd [((1, 2), (none, .ans fun _ h => (GU.gNo, h))), ((5, 1), (none, .ans fun _ _ => (GC.facesF 5, Hm x)))], know := kk [], loop := loops [(0, ([1, 2, 4, 6, 23], fun _ _ => (.normal, eLn, Hm x)))] }) (k := 60) TY_ok mixed fn12_ok
    (A := Gn x ∧ Gg x ∧ LN x ∧ AOut.ret GU.gNo = .ret GU.gNo ∧ Hl x = Hl x) ⟨g1, g2, g3, rfl, rfl⟩ (by kernel_rfl)
end DG

theorem gdouble_ok {x : List Int} {n : Nat} (hn : n ≤ 500) (h0 : 0 < n) (hx : x.length = 20 * n) (cx : chk n x = 0) :
    Sum Tryz.prog 12 [gV 0 n] [some ⟨ints x, false⟩] fun o h2 => o = .ret (gRes 1 (n + n) 0) ∧ h2 = [some ⟨ints x, false⟩] ++ [some ⟨ints (build (n + n) (gdb x n)), true⟩] := by
  have gu : DG.Gu x (build (n + n) (uniF x n)) n := by
    have := gives_two_new (b := 0) (c := 0) (h := DG.Hc x n) (w := false) (w' := false) (gunion_ok (by omega) (by omega) hx hx cx cx) rfl rfl
    rw [uni_build hx] at this
    exact this
  have gf : DG.Gf x (build (n + n) (uniF x n)) n (n + n) := faces_gives (DG.Hb x (build (n + n) (uniF x n)) n (n + n))
  have hs := DG.run gu gf (DG.range_ok hn hx)
  exact Sum.pick (ks := [0, 3]) hs (by kernel_rfl) ⟨⟨_, rfl, subL_plain _ _ (ints_plain x), id⟩, ⟨_, rfl, subL_plain _ _ (ints_plain _), id⟩, trivial⟩ (by kernel_rfl) ⟨_, rfl, _, _, rfl, sub_gV rfl, _, _, rfl, rfl, rfl⟩
theorem gdouble_bad {x : List Int} {n : Nat} (hx : x.length = 20 * n) (cx : chk n x = 7) : Sum Tryz.prog 12 [gV 0 n] [some ⟨ints x, false⟩] fun o _ => o = .ret (gErr 7) :=
  DG.runBad (gives_two (b := 0) (c := 0) (h := DG.Hc x n) (w := false) (w' := false) (gunion_bad hx hx (.inl cx)) rfl rfl rfl)
theorem gdouble_no {x : List Int} (hx : x.length = 20 * 0) (cx : chk 0 x = 0) : Sum Tryz.prog 12 [gV 0 0] [some ⟨ints x, false⟩] fun o h2 => o = .ret GU.gNo ∧ h2 = [some ⟨ints x, false⟩] := by
  have gn : DG.Gn x := gives_no (gunion_no hx hx cx cx) (h := DG.Hc x 0) (w := false) (w' := false) (b := 0) (c := 0) rfl rfl
  have gf : DG.Gg x := faces_gives (DG.Hn x)
  exact Sum.pick (ks := [0]) (DG.run0 gn gf (DG.range0 hx)) (by kernel_rfl) ⟨⟨_, rfl, subL_plain _ _ (ints_plain x), id⟩, trivial⟩ (by kernel_rfl) ⟨_, rfl, _, _, rfl, ⟨_, rfl, _, _, rfl, .inr ⟨0, rfl, rfl⟩, rfl⟩, _, _, rfl, rfl, rfl⟩
end Go.Ab
