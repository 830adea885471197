/- The function glue.Valid answers for all four numbers. Conditions: none beyond the given model and program. -/
import Derived.Test.YtnimgapjllhccaaDoorVa
namespace Go.Ab
open Go.Proofs

noncomputable def okV (f : FuncId) (a b c d : Int) : Bool := okRet (xCall (XX 100) 10 f [pm a b c d] []) (.bool (validB a b c d))

theorem g0 (n : Nat) (b c d : Int) : bad (fun a => okV 5 a b c d) n = true := by kernel_rfl
theorem g1 (n : Nat) (c d : Int) : all4 (fun a => bad (fun b => okV 5 a b c d) n) = true := by kernel_rfl
theorem g2 (n : Nat) (d : Int) : all4 (fun a => all4 fun b => bad (fun c => okV 5 a b c d) n) = true := by kernel_rfl
theorem g3 (n : Nat) : all4 (fun a => all4 fun b => all4 fun c => bad (fun d => okV 5 a b c d) n) = true := by kernel_rfl
theorem g40 : all4 (fun b => all4 fun c => all4 fun d => okV 5 0 b c d) = true := by kernel_rfl
theorem g41 : all4 (fun b => all4 fun c => all4 fun d => okV 5 1 b c d) = true := by kernel_rfl
theorem g42 : all4 (fun b => all4 fun c => all4 fun d => okV 5 2 b c d) = true := by kernel_rfl
theorem g43 : all4 (fun b => all4 fun c => all4 fun d => okV 5 3 b c d) = true := by kernel_rfl
theorem g4 : all4 (fun a => all4 fun b => all4 fun c => all4 fun d => okV 5 a b c d) = true := all4_mk g40 g41 g42 g43
theorem okG (a b c d : Int) : okV 5 a b c d = true := forms4 (okV 5) g0 g1 g2 g3 g4 a b c d

end Go.Ab
