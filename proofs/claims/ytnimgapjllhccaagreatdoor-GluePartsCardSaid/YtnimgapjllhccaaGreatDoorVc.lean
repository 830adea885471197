/- The functions Valid answer for all four numbers. Conditions: none beyond the given model and program. -/
import Derived.Test.YtnimgapjllhccaaGreatDoorVa
namespace Go.Ab
open Go.Proofs

theorem r0 (n : Nat) (b c d : Int) : bad (fun a => okV 38 a b c d) n = true := by kernel_rfl
theorem r1 (n : Nat) (c d : Int) : all4 (fun a => bad (fun b => okV 38 a b c d) n) = true := by kernel_rfl
theorem r2 (n : Nat) (d : Int) : all4 (fun a => all4 fun b => bad (fun c => okV 38 a b c d) n) = true := by kernel_rfl
theorem r3 (n : Nat) : all4 (fun a => all4 fun b => all4 fun c => bad (fun d => okV 38 a b c d) n) = true := by kernel_rfl
theorem r40 : all4 (fun b => all4 fun c => all4 fun d => okV 38 0 b c d) = true := by kernel_rfl
theorem r41 : all4 (fun b => all4 fun c => all4 fun d => okV 38 1 b c d) = true := by kernel_rfl
theorem r42 : all4 (fun b => all4 fun c => all4 fun d => okV 38 2 b c d) = true := by kernel_rfl
theorem r43 : all4 (fun b => all4 fun c => all4 fun d => okV 38 3 b c d) = true := by kernel_rfl
theorem r4 : all4 (fun a => all4 fun b => all4 fun c => all4 fun d => okV 38 a b c d) = true := all4_mk r40 r41 r42 r43
theorem okR (a b c d : Int) : okV 38 a b c d = true := forms4 (okV 38) r0 r1 r2 r3 r4 a b c d
end Go.Ab

