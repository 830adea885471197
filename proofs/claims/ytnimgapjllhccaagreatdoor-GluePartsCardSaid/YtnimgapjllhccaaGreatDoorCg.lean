/- A world that meets the conditions of the row. Conditions: none beyond the given model and program. -/
import Derived.Test.YtnimgapjllhccaaGreatDoorCc
namespace Go.Ab
open Go.ChangeShapes Go.WideShapes Go.RowKit Go.Proofs

def litV : DataW Unit → Value
  | .lit (.int k n) => .int k n
  | _ => .nilIface
def aggV : DataW Unit → Array Value
  | .agg l => (l.map litV).toArray
  | _ => #[]
def laidAt (t : DataW Unit) : Obj → Obj
  | .cells _ ty fz => .cells (aggV t) ty fz
  | o => o

noncomputable def laidWorld (os : Os) : World :=
  { World.doorLaid Tryz.prog 2000 os with heap := (World.doorLaid Tryz.prog 2000 os).heap.modify 4 (laidAt Go.Pinned.utf8First) }

noncomputable abbrev wArgs : Array Value := #[.agg #[.slice none 0 0], .agg #[.slice none 0 0]]
noncomputable def wMem (os : Os) : World := ((laidWorld os).forCall (fun _ _ => 0) ⟨#[], wArgs, []⟩).memory

theorem met1 (os : Os) : (DataW.laidRun Tryz.prog (wMem os) 8 ((YtnimgapjllhccaaGreatDoor.Rows.gluePartsRow.laid.filter fun x => x.2.handleName?.isNone).map (·.1))).map (·.1) = some (YtnimgapjllhccaaGreatDoor.Rows.gluePartsRow.laid.filter fun x => x.2.handleName?.isNone) := by kernel_rfl
theorem met2 (os : Os) : (DataW.laidRun Tryz.prog (wMem os) 8 ((YtnimgapjllhccaaGreatDoor.Rows.gluePartsRow.laid.filter fun x => x.2.handleName?.isNone).map (·.1))).map (fun x => decide x.2.Nodup && laidRowsB Tryz.prog (wMem os) x.2) = some true := by kernel_rfl
theorem met3 (os : Os) : (YtnimgapjllhccaaGreatDoor.Rows.gluePartsRow.laid.filter fun x => x.2.handleName?.isSome && x.2.funcsIn?.isNone).all (handleAtB Tryz.prog (wMem os)) = true := by kernel_rfl
theorem met4 (os : Os) : funcsRun Tryz.prog (wMem os) 8 ((funcsListed YtnimgapjllhccaaGreatDoor.Rows.gluePartsRow.laid).map (·.1)) = some ((funcsListed YtnimgapjllhccaaGreatDoor.Rows.gluePartsRow.laid).map (·.2.funcsOut)) := by kernel_rfl
theorem laid_met (os : Os) : laidMetH Tryz.prog YtnimgapjllhccaaGreatDoor.Rows.gluePartsRow.laid (wMem os) := laidMetH_of_parts3 (fuel := 8) (laidMet_of_run' 8 (met1 os) (met2 os)) (met3 os) (met4 os)
end Go.Ab
