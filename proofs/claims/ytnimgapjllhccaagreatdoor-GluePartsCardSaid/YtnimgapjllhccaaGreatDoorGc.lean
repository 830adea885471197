/- The function glue.Check answers as the same plain function, for all gluings. Conditions: none beyond the given model and program. -/
import Derived.Test.YtnimgapjllhccaaGreatDoorRc
import Derived.Test.YtnimgapjllhccaaGreatDoorIu
import Derived.Test.YtnimgapjllhccaaGreatDoorAbD
namespace Go.Ab
open Go.Proofs

namespace GC
def none5 : List Value := [.int .i64 (-1), .int .i64 0, .int .i64 0, .int .i64 0, .int .i64 0]
def HC (x : List Int) (n : Nat) (k : Int) : Heap := [some ⟨ints x, false⟩, some ⟨[gS 0 n], true⟩, some ⟨[.int .i64 k], true⟩, some ⟨none5, true⟩, some ⟨[gS 0 n], true⟩]
theorem HC_closed (x : List Int) (n : Nat) (k : Int) : closedH 5 (HC x n k) :=
  closedH_cons (subL_plain _ _ (ints_plain x)) (closedH_cons (belowL_sub _ rfl) (closedH_cons (belowL_sub _ rfl) (closedH_cons (belowL_sub _ rfl) (closedH_cons (belowL_sub _ rfl) closedH_nil))))
def facesF (b : Nat) : Value := .func (.func 62) #[] #[.pointer (some ⟨b, 0, none⟩)]
def eL : List (Nat × Value) := [(1, .pointer (some ⟨1, 0, none⟩)), (2, .pointer (some ⟨2, 0, none⟩)), (3, .pointer (some ⟨3, 0, none⟩)), (12, facesF 4)]
def plc (t f : Nat) : List Value := [.int .i64 t, .int .i64 f]
def eP (t f : Nat) (a : Fc) : List (Nat × Value) := [(14, .agg ⟨a.cells⟩), (13, .agg ⟨plc t f⟩), (1, .pointer (some ⟨1, 0, none⟩)), (2, .pointer (some ⟨2, 0, none⟩)), (3, .pointer (some ⟨3, 0, none⟩))]
def eB : List (Nat × Value) := [(4, .pointer (some ⟨5, 0, none⟩)), (5, .pointer (some ⟨6, 0, none⟩)), (1, .pointer (some ⟨1, 0, none⟩)), (2, .pointer (some ⟨2, 0, none⟩)), (3, .pointer (some ⟨3, 0, none⟩))]
def jk (t f : Nat) (a : Fc) : Heap := [some ⟨plc t f, true⟩, some ⟨a.cells, true⟩]
noncomputable def rfB : Code := match fb Tryz.f13 0 with | .block _ (.rangeFunc _ _ _ b) => b | _ => .skip
noncomputable def rfA : Code := match fb Tryz.f13 0 with | .block _ (.rangeFunc _ _ a _) => a | _ => .skip
theorem fb_eq : fb Tryz.f13 0 = .block 0 (.rangeFunc (.tmp 12) [13, 14].toArray rfA rfB) := by kernel_rfl
theorem okA : codeOk 71 rfA = true := by kernel_rfl
theorem okB : codeOk 71 rfB = true := by kernel_rfl

theorem aRun (lid : Nat) {x : List Int} {n t f : Nat} {a : Fc} {k : Int} : ComesX (some lid) ([], false) Tryz.prog 71 5 rfA (eP t f a) (HC x n k) .normal eB (HC x n k ++ jk t f a) :=
  comesX_run (S := { dir := dd [], know := kk [], loop := noloop }) (k := 60) (ts := [4, 5, 1, 2, 3]) (A := Dn .normal eB (HC x n k ++ jk t f a)) TY_ok mixed (fun _ => rfl) okA (dn _ _ _) (by kernel_rfl)

def B (lid : Nat) (x : List Int) (n t f : Nat) (a : Fc) (ax : AX) (k : Int) : Prop := ComesX (some lid) ([], false) Tryz.prog 71 5 rfB eB (HC x n 0 ++ jk t f a) ax [] (HC x n k ++ jk t f a)
/-- A free face. -/
theorem bFree {lid : Nat} {x : List Int} {n t f : Nat} {a : Fc}  (h1 : a.free = true) : B lid x n t f a .normal 0 :=
  comesX_run (S := { dir := dd [], know := kk [(17, true)], loop := noloop }) (k := 60) (ts := [])
    (A := (a.free = true) ∧ Dn .normal [] (HC x n 0 ++ jk t f a))
    TY_ok mixed (fun _ => rfl) okB ⟨h1, dn _ _ _⟩ (by kernel_rfl)
/-- A negative number. -/
theorem bNeg {lid : Nat} {x : List Int} {n t f : Nat} {a : Fc}  (h1 : a.free = false) (h3 : ilt a.u 0 = true) : B lid x n t f a .ret 7 :=
  comesX_run (S := { dir := dd [((8, 4), knowD true)], know := kk [(17, false)], loop := noloop }) (k := 60) (ts := [])
    (A := (a.free = false) ∧ (ilt a.u 0 = true) ∧ Dn .ret [] (HC x n 7 ++ jk t f a))
    TY_ok mixed (fun _ => rfl) okB ⟨h1, h3, dn _ _ _⟩ (by kernel_rfl)
/-- A number too great. -/
theorem bBig {lid : Nat} {x : List Int} {n t f : Nat} {a : Fc}  (h1 : a.free = false) (h3 : ilt a.u 0 = false) (h4 : ile (n : Int) a.u = true) : B lid x n t f a .ret 7 :=
  comesX_run (S := { dir := dd [((8, 4), knowD false), ((8, 12), knowD true)], know := kk [(17, false)], loop := noloop }) (k := 60) (ts := [])
    (A := (a.free = false) ∧ (ilt a.u 0 = false) ∧ (ile (n : Int) a.u = true) ∧ Dn .ret [] (HC x n 7 ++ jk t f a))
    TY_ok mixed (fun _ => rfl) okB ⟨h1, h3, h4, dn _ _ _⟩ (by kernel_rfl)
/-- No permutation. -/
theorem bInv {lid : Nat} {x : List Int} {n t f : Nat} {a : Fc}  (h1 : a.free = false) (h3 : ilt a.u 0 = false) (h4 : ile (n : Int) a.u = false) (h5 : Plain Tryz.prog 37 [pmv a.p] (.bool false)) : B lid x n t f a .ret 7 :=
  comesX_run (S := { dir := dd [((8, 4), knowD false), ((8, 12), knowD false), ((8, 14), plD (.bool false))], know := kk [(17, false)], loop := noloop }) (k := 60) (ts := [])
    (A := (a.free = false) ∧ (ilt a.u 0 = false) ∧ (ile (n : Int) a.u = false) ∧ (Plain Tryz.prog 37 [pmv a.p] (.bool false)) ∧ Dn .ret [] (HC x n 7 ++ jk t f a))
    TY_ok mixed (fun _ => rfl) okB ⟨h1, h3, h4, h5, dn _ _ _⟩ (by kernel_rfl)
/-- A face that is glued to itself. -/
theorem bFix {lid : Nat} {x : List Int} {n t f : Nat} {a : Fc} {q : Int} (h1 : a.free = false) (h3 : ilt a.u 0 = false) (h4 : ile (n : Int) a.u = false) (h5 : Plain Tryz.prog 37 [pmv a.p] (.bool true)) (h6 : (a.u == (t : Int)) = true) (h7 : 0 ≤ (f : Int) ∧ (f : Int) < ((4 : Nat) : Int)) (h8 : readCells (HC x n 0 ++ jk t f a) ⟨6, 1 + f * 1, none⟩ 1 = some [.int .i64 q]) (h9 : (q == (f : Int)) = true) : B lid x n t f a .ret 7 :=
  comesX_run (S := { dir := dd [((8, 4), knowD false), ((8, 12), knowD false), ((8, 14), plD (.bool true)), ((8, 24), knowD true), ((8, 27), ixD), ((8, 28), ldC [.int .i64 q])], know := kk [(17, false), (51, true)], loop := noloop }) (k := 60) (ts := [])
    (A := (a.free = false) ∧ (ilt a.u 0 = false) ∧ (ile (n : Int) a.u = false) ∧ (Plain Tryz.prog 37 [pmv a.p] (.bool true)) ∧ ((a.u == (t : Int)) = true) ∧ (0 ≤ (f : Int) ∧ (f : Int) < ((4 : Nat) : Int)) ∧ (readCells (HC x n 0 ++ jk t f a) ⟨6, 1 + f * 1, none⟩ 1 = some [.int .i64 q]) ∧ ((q == (f : Int)) = true) ∧ Dn .ret [] (HC x n 7 ++ jk t f a))
    TY_ok mixed (fun _ => rfl) okB ⟨h1, h3, h4, h5, h6, h7, h8, h9, dn _ _ _⟩ (by kernel_rfl)
/-- A face and the face where it is glued. -/
theorem bSelfGood {lid : Nat} {x : List Int} {n t f : Nat} {a : Fc} {q : Int} {b : Fc} (h1 : a.free = false) (h3 : ilt a.u 0 = false) (h4 : ile (n : Int) a.u = false) (h5 : Plain Tryz.prog 37 [pmv a.p] (.bool true)) (h6 : (a.u == (t : Int)) = true) (h7 : 0 ≤ (f : Int) ∧ (f : Int) < ((4 : Nat) : Int)) (h8 : readCells (HC x n 0 ++ jk t f a) ⟨6, 1 + f * 1, none⟩ 1 = some [.int .i64 q]) (h9 : (q == (f : Int)) = false) (k1 : 0 ≤ (f : Int) ∧ (f : Int) < ((4 : Nat) : Int)) (k2 : readCells (HC x n 0 ++ jk t f a) ⟨6, 1 + f * 1, none⟩ 1 = some [.int .i64 q]) (k3 : 0 ≤ a.u ∧ a.u < (n : Int)) (k4 : 0 ≤ q ∧ q < ((4 : Nat) : Int)) (k5 : readCells (HC x n 0 ++ jk t f a) ⟨0, 0 + a.u.toNat * 20 + q.toNat * 5, none⟩ 5 = some b.cells) (k6 : Plain Tryz.prog 42 [pmv a.p] (pmv (inverseP a.p))) (k7 : (!(b.u == (t : Int) && eqP b.p (inverseP a.p))) = false) : B lid x n t f a .normal 0 :=
  comesX_run (S := { dir := dd [((8, 4), knowD false), ((8, 12), knowD false), ((8, 14), plD (.bool true)), ((8, 24), knowD true), ((8, 27), ixD), ((8, 28), ldC [.int .i64 q]), ((10, 7), ixD), ((10, 8), ldC [.int .i64 q]), ((10, 9), ixD), ((10, 10), ixD), ((10, 11), ldF b), ((10, 16), plD (pmv (inverseP a.p)))], know := kk [(17, false), (51, false), (70, false)], loop := noloop }) (k := 60) (ts := [])
    (A := (a.free = false) ∧ (ilt a.u 0 = false) ∧ (ile (n : Int) a.u = false) ∧ (Plain Tryz.prog 37 [pmv a.p] (.bool true)) ∧ ((a.u == (t : Int)) = true) ∧ (0 ≤ (f : Int) ∧ (f : Int) < ((4 : Nat) : Int)) ∧ (readCells (HC x n 0 ++ jk t f a) ⟨6, 1 + f * 1, none⟩ 1 = some [.int .i64 q]) ∧ ((q == (f : Int)) = false) ∧ (0 ≤ (f : Int) ∧ (f : Int) < ((4 : Nat) : Int)) ∧ (readCells (HC x n 0 ++ jk t f a) ⟨6, 1 + f * 1, none⟩ 1 = some [.int .i64 q]) ∧ (0 ≤ a.u ∧ a.u < (n : Int)) ∧ (0 ≤ q ∧ q < ((4 : Nat) : Int)) ∧ (readCells (HC x n 0 ++ jk t f a) ⟨0, 0 + a.u.toNat * 20 + q.toNat * 5, none⟩ 5 = some b.cells) ∧ (Plain Tryz.prog 42 [pmv a.p] (pmv (inverseP a.p))) ∧ ((!(b.u == (t : Int) && eqP b.p (inverseP a.p))) = false) ∧ Dn .normal [] (HC x n 0 ++ jk t f a))
    TY_ok mixed (fun _ => rfl) okB ⟨h1, h3, h4, h5, h6, h7, h8, h9, k1, k2, k3, k4, k5, k6, k7, dn _ _ _⟩ (by kernel_rfl)
/-- A face and the face where it is glued. -/
theorem bSelfBad {lid : Nat} {x : List Int} {n t f : Nat} {a : Fc} {q : Int} {b : Fc} (h1 : a.free = false) (h3 : ilt a.u 0 = false) (h4 : ile (n : Int) a.u = false) (h5 : Plain Tryz.prog 37 [pmv a.p] (.bool true)) (h6 : (a.u == (t : Int)) = true) (h7 : 0 ≤ (f : Int) ∧ (f : Int) < ((4 : Nat) : Int)) (h8 : readCells (HC x n 0 ++ jk t f a) ⟨6, 1 + f * 1, none⟩ 1 = some [.int .i64 q]) (h9 : (q == (f : Int)) = false) (k1 : 0 ≤ (f : Int) ∧ (f : Int) < ((4 : Nat) : Int)) (k2 : readCells (HC x n 0 ++ jk t f a) ⟨6, 1 + f * 1, none⟩ 1 = some [.int .i64 q]) (k3 : 0 ≤ a.u ∧ a.u < (n : Int)) (k4 : 0 ≤ q ∧ q < ((4 : Nat) : Int)) (k5 : readCells (HC x n 0 ++ jk t f a) ⟨0, 0 + a.u.toNat * 20 + q.toNat * 5, none⟩ 5 = some b.cells) (k6 : Plain Tryz.prog 42 [pmv a.p] (pmv (inverseP a.p))) (k7 : (!(b.u == (t : Int) && eqP b.p (inverseP a.p))) = true) : B lid x n t f a .ret 7 :=
  comesX_run (S := { dir := dd [((8, 4), knowD false), ((8, 12), knowD false), ((8, 14), plD (.bool true)), ((8, 24), knowD true), ((8, 27), ixD), ((8, 28), ldC [.int .i64 q]), ((10, 7), ixD), ((10, 8), ldC [.int .i64 q]), ((10, 9), ixD), ((10, 10), ixD), ((10, 11), ldF b), ((10, 16), plD (pmv (inverseP a.p)))], know := kk [(17, false), (51, false), (70, true)], loop := noloop }) (k := 60) (ts := [])
    (A := (a.free = false) ∧ (ilt a.u 0 = false) ∧ (ile (n : Int) a.u = false) ∧ (Plain Tryz.prog 37 [pmv a.p] (.bool true)) ∧ ((a.u == (t : Int)) = true) ∧ (0 ≤ (f : Int) ∧ (f : Int) < ((4 : Nat) : Int)) ∧ (readCells (HC x n 0 ++ jk t f a) ⟨6, 1 + f * 1, none⟩ 1 = some [.int .i64 q]) ∧ ((q == (f : Int)) = false) ∧ (0 ≤ (f : Int) ∧ (f : Int) < ((4 : Nat) : Int)) ∧ (readCells (HC x n 0 ++ jk t f a) ⟨6, 1 + f * 1, none⟩ 1 = some [.int .i64 q]) ∧ (0 ≤ a.u ∧ a.u < (n : Int)) ∧ (0 ≤ q ∧ q < ((4 : Nat) : Int)) ∧ (readCells (HC x n 0 ++ jk t f a) ⟨0, 0 + a.u.toNat * 20 + q.toNat * 5, none⟩ 5 = some b.cells) ∧ (Plain Tryz.prog 42 [pmv a.p] (pmv (inverseP a.p))) ∧ ((!(b.u == (t : Int) && eqP b.p (inverseP a.p))) = true) ∧ Dn .ret [] (HC x n 7 ++ jk t f a))
    TY_ok mixed (fun _ => rfl) okB ⟨h1, h3, h4, h5, h6, h7, h8, h9, k1, k2, k3, k4, k5, k6, k7, dn _ _ _⟩ (by kernel_rfl)
/-- A face and the face where it is glued. -/
theorem bOthGood {lid : Nat} {x : List Int} {n t f : Nat} {a : Fc} {q : Int} {b : Fc} (h1 : a.free = false) (h3 : ilt a.u 0 = false) (h4 : ile (n : Int) a.u = false) (h5 : Plain Tryz.prog 37 [pmv a.p] (.bool true)) (h6 : (a.u == (t : Int)) = false) (k1 : 0 ≤ (f : Int) ∧ (f : Int) < ((4 : Nat) : Int)) (k2 : readCells (HC x n 0 ++ jk t f a) ⟨6, 1 + f * 1, none⟩ 1 = some [.int .i64 q]) (k3 : 0 ≤ a.u ∧ a.u < (n : Int)) (k4 : 0 ≤ q ∧ q < ((4 : Nat) : Int)) (k5 : readCells (HC x n 0 ++ jk t f a) ⟨0, 0 + a.u.toNat * 20 + q.toNat * 5, none⟩ 5 = some b.cells) (k6 : Plain Tryz.prog 42 [pmv a.p] (pmv (inverseP a.p))) (k7 : (!(b.u == (t : Int) && eqP b.p (inverseP a.p))) = false) : B lid x n t f a .normal 0 :=
  comesX_run (S := { dir := dd [((8, 4), knowD false), ((8, 12), knowD false), ((8, 14), plD (.bool true)), ((8, 24), knowD false), ((10, 7), ixD), ((10, 8), ldC [.int .i64 q]), ((10, 9), ixD), ((10, 10), ixD), ((10, 11), ldF b), ((10, 16), plD (pmv (inverseP a.p)))], know := kk [(17, false), (70, false)], loop := noloop }) (k := 60) (ts := [])
    (A := (a.free = false) ∧ (ilt a.u 0 = false) ∧ (ile (n : Int) a.u = false) ∧ (Plain Tryz.prog 37 [pmv a.p] (.bool true)) ∧ ((a.u == (t : Int)) = false) ∧ (0 ≤ (f : Int) ∧ (f : Int) < ((4 : Nat) : Int)) ∧ (readCells (HC x n 0 ++ jk t f a) ⟨6, 1 + f * 1, none⟩ 1 = some [.int .i64 q]) ∧ (0 ≤ a.u ∧ a.u < (n : Int)) ∧ (0 ≤ q ∧ q < ((4 : Nat) : Int)) ∧ (readCells (HC x n 0 ++ jk t f a) ⟨0, 0 + a.u.toNat * 20 + q.toNat * 5, none⟩ 5 = some b.cells) ∧ (Plain Tryz.prog 42 [pmv a.p] (pmv (inverseP a.p))) ∧ ((!(b.u == (t : Int) && eqP b.p (inverseP a.p))) = false) ∧ Dn .normal [] (HC x n 0 ++ jk t f a))
    TY_ok mixed (fun _ => rfl) okB ⟨h1, h3, h4, h5, h6, k1, k2, k3, k4, k5, k6, k7, dn _ _ _⟩ (by kernel_rfl)
/-- A face and the face where it is glued. -/
theorem bOthBad {lid : Nat} {x : List Int} {n t f : Nat} {a : Fc} {q : Int} {b : Fc} (h1 : a.free = false) (h3 : ilt a.u 0 = false) (h4 : ile (n : Int) a.u = false) (h5 : Plain Tryz.prog 37 [pmv a.p] (.bool true)) (h6 : (a.u == (t : Int)) = false) (k1 : 0 ≤ (f : Int) ∧ (f : Int) < ((4 : Nat) : Int)) (k2 : readCells (HC x n 0 ++ jk t f a) ⟨6, 1 + f * 1, none⟩ 1 = some [.int .i64 q]) (k3 : 0 ≤ a.u ∧ a.u < (n : Int)) (k4 : 0 ≤ q ∧ q < ((4 : Nat) : Int)) (k5 : readCells (HC x n 0 ++ jk t f a) ⟨0, 0 + a.u.toNat * 20 + q.toNat * 5, none⟩ 5 = some b.cells) (k6 : Plain Tryz.prog 42 [pmv a.p] (pmv (inverseP a.p))) (k7 : (!(b.u == (t : Int) && eqP b.p (inverseP a.p))) = true) : B lid x n t f a .ret 7 :=
  comesX_run (S := { dir := dd [((8, 4), knowD false), ((8, 12), knowD false), ((8, 14), plD (.bool true)), ((8, 24), knowD false), ((10, 7), ixD), ((10, 8), ldC [.int .i64 q]), ((10, 9), ixD), ((10, 10), ixD), ((10, 11), ldF b), ((10, 16), plD (pmv (inverseP a.p)))], know := kk [(17, false), (70, true)], loop := noloop }) (k := 60) (ts := [])
    (A := (a.free = false) ∧ (ilt a.u 0 = false) ∧ (ile (n : Int) a.u = false) ∧ (Plain Tryz.prog 37 [pmv a.p] (.bool true)) ∧ ((a.u == (t : Int)) = false) ∧ (0 ≤ (f : Int) ∧ (f : Int) < ((4 : Nat) : Int)) ∧ (readCells (HC x n 0 ++ jk t f a) ⟨6, 1 + f * 1, none⟩ 1 = some [.int .i64 q]) ∧ (0 ≤ a.u ∧ a.u < (n : Int)) ∧ (0 ≤ q ∧ q < ((4 : Nat) : Int)) ∧ (readCells (HC x n 0 ++ jk t f a) ⟨0, 0 + a.u.toNat * 20 + q.toNat * 5, none⟩ 5 = some b.cells) ∧ (Plain Tryz.prog 42 [pmv a.p] (pmv (inverseP a.p))) ∧ ((!(b.u == (t : Int) && eqP b.p (inverseP a.p))) = true) ∧ Dn .ret [] (HC x n 7 ++ jk t f a))
    TY_ok mixed (fun _ => rfl) okB ⟨h1, h3, h4, h5, h6, k1, k2, k3, k4, k5, k6, k7, dn _ _ _⟩ (by kernel_rfl)
end GC
end Go.Ab

namespace Go.Ab
open Go.Proofs

/-- What the function faces comes to: a function over a box of the gluing. -/
theorem faces_gives {b n : Nat} (h : Heap) : Gives Tryz.prog 39 [gV b n] h (.ret (GC.facesF h.length)) (h ++ [some ⟨[gS b n], true⟩]) ∧ ∃ x, h ++ [some ⟨[gS b n], true⟩] = h ++ x := by
  refine ⟨.inr ⟨fun o h2 => o = .ret (GC.facesF (roH h).length) ∧ h2 = roH h ++ [some ⟨[gS b n], true⟩], ?_, ?_⟩, _, rfl⟩
  · generalize roH h = k
    exact tFun_sum (S := { dir := dd [], know := kk [], loop := noloop }) (k := 30) TY_ok mixed fn39_ok
      (A := AOut.ret (GC.facesF k.length) = .ret (GC.facesF k.length) ∧ k ++ [some ⟨[gS b n], true⟩] = k ++ [some ⟨[gS b n], true⟩]) ⟨rfl, rfl⟩ (by kernel_rfl)
  · rintro o h2 ⟨rfl, rfl⟩
    refine .inr ⟨by rw [roH_length], ?_⟩
    rw [List.drop_left' roH_length]

namespace GC
theorem rd_at {x : List Int} {n t f : Nat} {a : Fc} (hf : f < 4) : readCells (HC x n 0 ++ jk t f a) ⟨6, 1 + f * 1, none⟩ 1 = some [.int .i64 (a.p.at f)] := by
  have : f = 0 ∨ f = 1 ∨ f = 2 ∨ f = 3 := by omega
  rcases this with rfl | rfl | rfl | rfl <;> rfl

theorem gStep (lid : Nat) {x : List Int} {n t f : Nat} (hx : x.length = 20 * n) (hf : f < 4) :
    (faceOk n x t f = true → B lid x n t f (fc x t f) .normal 0) ∧ (faceOk n x t f = false → B lid x n t f (fc x t f) .ret 7) := by
  unfold faceOk
  generalize ha : fc x t f = a
  simp only
  cases hfr : a.free with
  | true => exact ⟨fun _ => bFree hfr, fun h => by simp at h⟩
  | false =>
    simp only [Bool.false_or]
    cases h3 : ilt a.u 0 with
    | true =>
      have h3' : a.u < 0 := by rw [ilt_eq] at h3; simpa using h3
      refine ⟨fun h => ?_, fun _ => bNeg hfr h3⟩
      have : decide (0 ≤ a.u) = false := by simp; omega
      rw [this] at h; simp at h
    | false =>
      have h3' : 0 ≤ a.u := by rw [ilt_eq] at h3; simpa using h3
      rw [show decide (0 ≤ a.u) = true by simpa using h3']
      simp only [Bool.true_and]
      cases h4 : ile (n : Int) a.u with
      | true =>
        have h4' : (n : Int) ≤ a.u := by rw [ile_eq] at h4; simpa using h4
        refine ⟨fun h => ?_, fun _ => bBig hfr h3 h4⟩
        have : decide (a.u < (n : Int)) = false := by simp; omega
        rw [this] at h; simp at h
      | false =>
        have h4' : a.u < (n : Int) := by rw [ile_eq] at h4; simpa using h4
        rw [show decide (a.u < (n : Int)) = true by simpa using h4']
        simp only [Bool.true_and]
        cases h5 : a.p.valid with
        | false => exact ⟨fun h => by simp at h, fun _ => bInv hfr h3 h4 (v5 h5)⟩
        | true =>
          simp only [Bool.true_and]
          have hq := valid_at h5 hf
          have k5 : readCells (HC x n 0 ++ jk t f a) ⟨0, 0 + a.u.toNat * 20 + (a.p.at f).toNat * 5, none⟩ 5 = some (fc x a.u.toNat (a.p.at f).toNat).cells := by
            rw [show 0 + a.u.toNat * 20 + (a.p.at f).toNat * 5 = 20 * a.u.toNat + 5 * (a.p.at f).toNat by omega]
            exact rd_face (w := false) rfl (by omega)
          have k1 : 0 ≤ (f : Int) ∧ (f : Int) < ((4 : Nat) : Int) := ⟨by omega, by omega⟩
          have k4 : 0 ≤ a.p.at f ∧ a.p.at f < ((4 : Nat) : Int) := ⟨hq.1, by have := hq.2; omega⟩
          generalize hb : fc x a.u.toNat (a.p.at f).toNat = b at k5
          cases h6 : (a.u == (t : Int)) with
          | true =>
            cases h9 : (a.p.at f == (f : Int)) with
            | true => exact ⟨fun h => by simp at h, fun _ => bFix hfr h3 h4 (v5 h5) h6 k1 (rd_at hf) h9⟩
            | false =>
              simp only [Bool.true_and, Bool.not_false]
              cases h7 : (b.u == (t : Int) && eqP b.p (inverseP a.p)) with
              | true => exact ⟨fun _ => bSelfGood hfr h3 h4 (v5 h5) h6 k1 (rd_at hf) h9 k1 (rd_at hf) ⟨h3', h4'⟩ k4 k5 (inverse24 h5) (by rw [h7]; rfl), fun h => by simp at h⟩
              | false => exact ⟨fun h => by simp at h, fun _ => bSelfBad hfr h3 h4 (v5 h5) h6 k1 (rd_at hf) h9 k1 (rd_at hf) ⟨h3', h4'⟩ k4 k5 (inverse24 h5) (by rw [h7]; rfl)⟩
          | false =>
            simp only [Bool.false_and, Bool.not_false, Bool.true_and]
            cases h7 : (b.u == (t : Int) && eqP b.p (inverseP a.p)) with
            | true => exact ⟨fun _ => bOthGood hfr h3 h4 (v5 h5) h6 k1 (rd_at hf) ⟨h3', h4'⟩ k4 k5 (inverse24 h5) (by rw [h7]; rfl), fun h => by simp at h⟩
            | false => exact ⟨fun h => by simp at h, fun _ => bOthBad hfr h3 h4 (v5 h5) h6 k1 (rd_at hf) ⟨h3', h4'⟩ k4 k5 (inverse24 h5) (by rw [h7]; rfl)⟩
end GC

theorem fc_ints {x : List Int} {t f : Nat} (h : 20 * t + 5 * f + 5 ≤ x.length) : ints (faceAt x (4 * t + f)) = (fc x t f).cells := by
  have := cells_ints x (20 * t + 5 * f) 5 h
  simp only [faceAt, show 5 * (4 * t + f) = 20 * t + 5 * f by omega]
  rw [show ints ((x.drop (20 * t + 5 * f)).take 5) = ((ints x).drop (20 * t + 5 * f)).take 5 by simp [ints, List.map_drop, List.map_take], this]
  rfl

theorem facesL_at {x : List Int} {n i : Nat} (hx : x.length = 20 * n) (hi : i < 4 * n) : (facesL n x)[i]? = some [.agg ⟨GC.plc (i / 4) (i % 4)⟩, .agg ⟨(fc x (i / 4) (i % 4)).cells⟩] := by
  have h1 : i / 4 < n := by omega
  have h2 : i % 4 < 4 := by omega
  have := facesL_get (x := x) h1 h2
  rw [show 4 * (i / 4) + i % 4 = i by omega] at this
  rw [this, show ints (faceAt x i) = (fc x (i / 4) (i % 4)).cells by rw [← fc_ints (by omega)]; congr 2; omega]
  rfl
theorem facesL_shape {x : List Int} {n : Nat} : ∀ args ∈ facesL n x, args.length = 2 ∧ ∀ v ∈ args, plain v = true := by
  intro args ha
  simp only [facesL, List.mem_map] at ha
  obtain ⟨i, _, rfl⟩ := ha
  refine ⟨rfl, fun v hv => ?_⟩
  simp only [List.mem_cons, List.not_mem_nil, or_false] at hv
  rcases hv with rfl | rfl
  · rfl
  · exact ints_plain _
end Go.Ab

namespace Go.Ab
open Go.Proofs
namespace GC
theorem emb_faces {x : List Int} {n : Nat} {k : Int} (y : Heap) : Emb [some 4, some 0] (faceH2 n x) (HC x n k ++ y) := by
  refine ⟨rfl, ?_, ?_⟩
  · intro i b2 hi
    match i with
    | 0 => simp [hblk, faceH2] at hi; subst hi; exact .inl ⟨4, _, rfl, rfl, ⟨_, _, rfl, .inr ⟨0, rfl, rfl⟩, rfl⟩, fun hh => by cases hh⟩
    | 1 => simp [hblk, faceH2] at hi; subst hi; exact .inl ⟨0, _, rfl, rfl, subL_plain _ _ (ints_plain x), fun hh => by cases hh⟩
    | i + 2 => simp [hblk, faceH2] at hi
  · intro i j k2 b2 b2' _ hi ho
    match i with
    | 0 => simp [hblk, faceH2] at hi; subst hi; cases ho
    | 1 => simp [hblk, faceH2] at hi; subst hi; cases ho
    | i + 2 => simp [hblk, faceH2] at hi

theorem lp_ok {x : List Int} {n i : Nat} {args : List Value} (hx : x.length = 20 * n) (ha : (facesL n x)[i]? = some args) : ∀ p ∈ eP (i / 4) (i % 4) (fc x (i / 4) (i % 4)), putPs [13, 14] args (envL (mkE 71 eL)) p.1 = some p.2 ∧ sub (idS 5) p.2 p.2 := by
  have hi : i < 4 * n := by rw [← facesL_length n x]; exact (List.getElem?_eq_some_iff.1 ha).1
  rw [facesL_at hx hi] at ha
  cases ha
  intro p hp
  simp only [eP, List.mem_cons, List.not_mem_nil, or_false] at hp
  rcases hp with rfl | rfl | rfl | rfl | rfl
  · exact ⟨rfl, belowB_sub _ rfl⟩
  · exact ⟨rfl, belowB_sub _ rfl⟩
  · exact ⟨rfl, belowB_sub _ rfl⟩
  · exact ⟨rfl, belowB_sub _ rfl⟩
  · exact ⟨rfl, belowB_sub _ rfl⟩

theorem range_ok {x : List Int} {n : Nat} (hn : n ≤ 1000) (hx : x.length = 20 * n) :
    ((List.range n).all (RC.rowOk n x) = true → (obs Tryz.prog TY none ([], true) 71).loop 1 (fb Tryz.f13 0) eL (HC x n 0) .normal eL (HC x n 0)) ∧
    ((List.range n).all (RC.rowOk n x) = false → (obs Tryz.prog TY none ([], true) 71).loop 1 (fb Tryz.f13 0) eL (HC x n 0) .ret [(2, .pointer (some ⟨2, 0, none⟩))] (HC x n 7)) := by
  have hseq := faces_seq2 (show n < 1000000000 by omega) hx
  have hl : ∀ p ∈ eL, envL (mkE 71 eL) p.1 = some p.2 ∧ sub (idS 5) p.2 p.2 := by
    intro p hp
    simp only [eL, List.mem_cons, List.not_mem_nil, or_false] at hp
    rcases hp with rfl | rfl | rfl | rfl
    · exact ⟨rfl, belowB_sub _ rfl⟩
    · exact ⟨rfl, belowB_sub _ rfl⟩
    · exact ⟨rfl, belowB_sub _ rfl⟩
    · exact ⟨rfl, belowB_sub _ rfl⟩
  have hlive : ∀ i, i < 5 → (hblk (HC x n 0) i).isSome = true := by
    intro i hi
    match i, hi with
    | 0, _ => rfl
    | 1, _ => rfl
    | 2, _ => rfl
    | 3, _ => rfl
    | 4, _ => rfl
  have hsa : ∀ i j : Nat, ([some 4, some 0] : List (Option Nat))[i]? = some (some j) → j < 5 := by
    intro i j h
    match i with
    | 0 => simp at h; omega
    | 1 => simp at h; omega
    | i + 2 => simp at h
  have len : (facesL n x).length = 4 * n := facesL_length n x
  refine ⟨fun h => ?_, fun h => ?_⟩
  · have hall : ∀ i, i < 4 * n → faceOk n x (i / 4) (i % 4) = true := fun i hi =>
      List.all_eq_true.1 (show RC.rowOk n x (i / 4) = true from List.all_eq_true.1 h _ (List.mem_range.2 (by omega))) _ (List.mem_range.2 (by omega))
    refine comes_range (N := 5) TY fb_eq rfl (by omega) rfl hseq ⟨_, _, rfl, ⟨4, rfl, rfl⟩, rfl⟩ hsa hl (by decide) facesL_shape (fun _ => HC x n 0) (fun _ => rfl) hlive (fun _ => HC_closed x n 0) rfl (fun _ y => emb_faces y) (fun i => eP (i / 4) (i % 4) (fc x (i / 4) (i % 4))) (fun i args ha => lp_ok hx ha)
      (facesL n x).length (Nat.le_refl _) ?_ (.inl ⟨rfl, rfl, rfl, rfl⟩)
    intro lid i hi
    exact ⟨_, _, _, aRun lid, (gStep lid hx (by omega)).1 (hall i (by omega))⟩
  · obtain ⟨j, hj, hbad⟩ := RC.all_range_not h
    obtain ⟨f, hf, hbad⟩ := RC.all_range_not (show (List.range 4).all (fun f => faceOk n x j f) = false from hbad)
    have hex : ∃ i, i < 4 * n ∧ faceOk n x (i / 4) (i % 4) = false := ⟨4 * j + f, by omega, by rw [show (4 * j + f) / 4 = j by omega, show (4 * j + f) % 4 = f by omega]; exact hbad⟩
    obtain ⟨i, ⟨hi, hib⟩, hmin⟩ := least_of (fun i => i < 4 * n ∧ faceOk n x (i / 4) (i % 4) = false) hex
    have hgood : ∀ k, k < i → faceOk n x (k / 4) (k % 4) = true := by
      intro k hk
      cases hc : faceOk n x (k / 4) (k % 4) with
      | true => rfl
      | false => have := hmin k ⟨by omega, hc⟩; omega
    refine comes_range (N := 5) TY fb_eq rfl (by omega) rfl hseq ⟨_, _, rfl, ⟨4, rfl, rfl⟩, rfl⟩ hsa hl (by decide) facesL_shape (fun _ => HC x n 0) (fun _ => rfl) hlive (fun _ => HC_closed x n 0) rfl (fun _ y => emb_faces y) (fun i => eP (i / 4) (i % 4) (fc x (i / 4) (i % 4))) (fun i args ha => lp_ok hx ha)
      i (by omega) ?_ (.inr ⟨by omega, rfl, (show 1 ≤ 5 by omega), HC_closed x n 7, ?_, fun y => emb_faces y, ?_⟩)
    · intro lid k hk
      exact ⟨_, _, _, aRun lid, (gStep lid hx (by omega)).1 (hgood k hk)⟩
    · intro p hp
      simp only [List.mem_cons, List.not_mem_nil, or_false] at hp
      subst hp
      exact ⟨rfl, belowB_sub (k := 5) _ rfl⟩
    · intro lid
      exact ⟨_, _, _, aRun lid, (gStep lid hx (by omega)).2 hib⟩
end GC

/-- The contract. -/
theorem gcheck_sum {x : List Int} {n : Nat} (hx : x.length = 20 * n) : Sum Tryz.prog 13 [gV 0 n] [some ⟨ints x, false⟩] fun o _ => o = .ret (.int .i64 (chk n x)) := by
  by_cases hn : n ≤ 1000
  · have hlt : ilt 1000 (n : Int) = false := by rw [ilt_eq]; simp; omega
    have hk : chk n x = if (List.range n).all (RC.rowOk n x) = true then 0 else 7 := by
      simp only [chk, checkB, show decide (n ≤ 1000) = true by simpa using hn, Bool.true_and]; rfl
    have hf := faces_gives (b := 0) (n := n) ([some ⟨ints x, false⟩, some ⟨[gS 0 n], true⟩, some ⟨[.int .i64 0], true⟩, some ⟨GC.none5, true⟩] : Heap)
    rw [hk]
    cases hc : (List.range n).all (RC.rowOk n x) with
    | true =>
      exact tFun_sum (S := { dir := dd [((4, 1), ansD (GC.facesF 4) fun h => h ++ [some ⟨[gS 0 n], true⟩])], know := kk [(9, false)], loop := loops [(0, ([1, 2, 3, 12], fun _ _ => (.normal, GC.eL, GC.HC x n 0)))] }) (k := 60) TY_ok mixed fn13_ok
        (A := ilt 1000 (n : Int) = false ∧ (obs Tryz.prog TY none ([], true) 71).gives 39 [gV 0 n] [some ⟨ints x, false⟩, some ⟨[gS 0 n], true⟩, some ⟨[.int .i64 0], true⟩, some ⟨GC.none5, true⟩] (.ret (GC.facesF 4)) (GC.HC x n 0) ∧
          (obs Tryz.prog TY none ([], true) 71).loop 1 (fb Tryz.f13 0) GC.eL (GC.HC x n 0) .normal GC.eL (GC.HC x n 0) ∧ AOut.ret (.int .i64 0) = .ret (.int .i64 0)) ⟨hlt, hf, (GC.range_ok hn hx).1 hc, rfl⟩ (by kernel_rfl)
    | false =>
      exact tFun_sum (S := { dir := dd [((4, 1), ansD (GC.facesF 4) fun h => h ++ [some ⟨[gS 0 n], true⟩])], know := kk [(9, false)], loop := loops [(0, ([1, 2, 3, 12], fun _ _ => (.ret, [(2, .pointer (some ⟨2, 0, none⟩))], GC.HC x n 7)))] }) (k := 60) TY_ok mixed fn13_ok
        (A := ilt 1000 (n : Int) = false ∧ (obs Tryz.prog TY none ([], true) 71).gives 39 [gV 0 n] [some ⟨ints x, false⟩, some ⟨[gS 0 n], true⟩, some ⟨[.int .i64 0], true⟩, some ⟨GC.none5, true⟩] (.ret (GC.facesF 4)) (GC.HC x n 0) ∧
          (obs Tryz.prog TY none ([], true) 71).loop 1 (fb Tryz.f13 0) GC.eL (GC.HC x n 0) .ret [(2, .pointer (some ⟨2, 0, none⟩))] (GC.HC x n 7) ∧ AOut.ret (.int .i64 7) = .ret (.int .i64 7)) ⟨hlt, hf, (GC.range_ok hn hx).2 hc, rfl⟩ (by kernel_rfl)
  · have hk : chk n x = 7 := by simp [chk, checkB, hn]
    rw [hk]
    exact tFun_sum (S := { dir := dd [], know := kk [(9, true)], loop := noloop }) (k := 60) TY_ok mixed fn13_ok
      (A := ilt 1000 (n : Int) = true ∧ AOut.ret (.int .i64 7) = .ret (.int .i64 7)) ⟨by rw [ilt_eq]; simp; omega, rfl⟩ (by kernel_rfl)
end Go.Ab
