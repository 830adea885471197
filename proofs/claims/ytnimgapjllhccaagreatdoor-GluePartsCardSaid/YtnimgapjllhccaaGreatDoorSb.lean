/- The function sane returns true over every heap. Conditions: none beyond the given model and program. -/
import Derived.Test.YtnimgapjllhccaaGreatDoorMf
namespace Go.Ab
open Go.Proofs

noncomputable def LIB3 : CallF := fun f args h => match memoG tblS f args h with | some r => some r | none => LIB2 f args h
theorem LIB3_ok : ∀ f args h o h', LIB3 f args h = some (o, h') → Gives Tryz.prog f args h o h' ∧ ∃ x, h' = h ++ x := by
  intro f args h o h' hx
  unfold LIB3 at hx
  split at hx
  · rename_i r hr
    cases hx
    exact memoG_ok tblS_ok _ _ _ _ _ hr
  · exact LIB2_ok _ _ _ _ _ hx
noncomputable def XC4 : XC := { T := TY, fn := FN, lib := LIB3, seqs := SQ, own := fun _ => false, fuel := 300 }
theorem XC4_ok : XC4.ok Tryz.prog := ⟨TY_ok, by kernel_rfl, FN_ok, LIB3_ok, SQ_ok⟩
theorem sane_run : okRet (xCall XC4 10 8 [] []) (.bool true) = true := by kernel_rfl

theorem sane_sum (h : Heap) : Sum Tryz.prog 8 [] h fun o h2 => o = .ret (.bool true) ∧ h2 = h := by
  have hr := sane_run
  unfold okRet at hr
  split at hr
  · rename_i u hx
    have hu := veq_eq _ _ hr
    subst hu
    have hg := ((xCall_sound XC4_ok 10).1 _ _ _ _ _ hx).sum
    exact Sum.lift0 hg (fun o h' hh => hh.1) (by simp) rfl h
  · cases hr
end Go.Ab
