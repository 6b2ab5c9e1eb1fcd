/- THE WITNESS of BackupNone's row: a world in which each listed variable is laid, without a run of the door; conditions: none. -/
import Derived.Test.YtbbfdnknbghffaaGreatDoorRows
import Derived.Lay
import Derived.LaidHandle
import Derived.LaidMore
import Derived.RowKit
namespace Go.Proofs.YtbbfdnknbghffaaGreatDoor
open Go

/-- the settled world with the handle of 'error' and the two sentinels in their variables -/
noncomputable def w00 (os : Os) : World :=
  { World.holding Tryz.prog os ⟨#[], #[], []⟩ with heap := ⟨Lay.setRows (World.holding Tryz.prog os ⟨#[], #[], []⟩).heap.toList
      [(0, [.iface 366 (.agg #[typeHandle Tryz.prog 167])]),
       (4, [.iface 731 (.pointer (some ⟨14, 0, none⟩))]),
       (5, [.iface 731 (.pointer (some ⟨15, 0, none⟩))])]
      ++ [.cells #[.string ⟨#[105, 110, 118, 97, 108, 105, 100, 32, 115, 121, 110, 116, 97, 120]⟩] 733, .cells #[.string ⟨#[118, 97, 108, 117, 101, 32, 111, 117, 116, 32, 111, 102, 32, 114, 97, 110, 103, 101]⟩] 733]⟩ }
def great : List String := ["unicode/utf8.first", "unicode/utf8.acceptRanges", "internal/strconv.uint64pow10", "math/bits.deBruijn32tab", "math/bits.deBruijn64tab"]
noncomputable def plainLaid : List (String × DataW Unit) := Rows.backupNoneRow.laid.filter fun x => x.2.handleName?.isNone
noncomputable def greatLaid : List (String × DataW Unit) := plainLaid.filter fun x => great.contains x.1
noncomputable def smallLaid : List (String × DataW Unit) := plainLaid.filter fun x => !great.contains x.1
noncomputable def wit (os : Os) : World := (w00 os).layVars Tryz.prog greatLaid
theorem wit_os (os : Os) : (wit os).os = os := World.layVars_os _ _ _
theorem wit_size (os : Os) : (World.holding Tryz.prog os ⟨#[], #[], []⟩).heap.size = 14 := by kernel_rfl
theorem heap_call (w : World) (args : Array Value) : (w.forCall (fun _ _ => 0) ⟨#[], args, []⟩).memory.heap = w.heap := by simp [World.memory, World.forCall, Input.heap]
theorem wit_fits (os : Os) : (w00 os).layFits Tryz.prog greatLaid [4, 5, 14, 15] = true := by kernel_rfl
theorem wit_ifaces (os : Os) (args : Array Value) : (w00 os).layIfaces Tryz.prog greatLaid ((wit os).forCall (fun _ _ => 0) ⟨#[], args, []⟩).memory = true := by kernel_rfl
theorem small1 (os : Os) (args : Array Value) : (DataW.laidRun Tryz.prog ((wit os).forCall (fun _ _ => 0) ⟨#[], args, []⟩).memory 8 (smallLaid.map (·.1))).map (·.1) = some smallLaid := by kernel_rfl
theorem small2 (os : Os) (args : Array Value) : (DataW.laidRun Tryz.prog ((wit os).forCall (fun _ _ => 0) ⟨#[], args, []⟩).memory 8 (smallLaid.map (·.1))).map (fun x => nodupB (x.2.map MemPlace.codeOf)) = some true := by kernel_rfl
theorem small3 (os : Os) (args : Array Value) : (DataW.laidRun Tryz.prog ((wit os).forCall (fun _ _ => 0) ⟨#[], args, []⟩).memory 8 (smallLaid.map (·.1))).map (fun x => laidRowsB Tryz.prog ((wit os).forCall (fun _ _ => 0) ⟨#[], args, []⟩).memory x.2) = some true := by kernel_rfl
theorem small4 (os : Os) (args : Array Value) : (DataW.laidRun Tryz.prog ((wit os).forCall (fun _ _ => 0) ⟨#[], args, []⟩).memory 8 (smallLaid.map (·.1))).map (fun x => x.2.all fun p => [4, 5, 14, 15].contains p.block) = some true := by kernel_rfl
theorem wit_plain (os : Os) (args : Array Value) : laidMet Tryz.prog plainLaid ((wit os).forCall (fun _ _ => 0) ⟨#[], args, []⟩).memory :=
  laidMet_layVars (w0 := w00 os) great [4, 5, 14, 15] (heap_call (wit os) args) (wit_fits os) (wit_ifaces os args)
    (LaidIn.of_run [4, 5, 14, 15] 8 (small1 os args) (small2 os args) (small3 os args) (small4 os args))
theorem wit_handles (os : Os) (args : Array Value) : (Rows.backupNoneRow.laid.filter fun x => x.2.handleName?.isSome && x.2.funcsIn?.isNone).all (handleAtB Tryz.prog ((wit os).forCall (fun _ _ => 0) ⟨#[], args, []⟩).memory) = true := by kernel_rfl
theorem wit_funcs (os : Os) (args : Array Value) : funcsRun Tryz.prog ((wit os).forCall (fun _ _ => 0) ⟨#[], args, []⟩).memory 8 ((funcsListed Rows.backupNoneRow.laid).map (·.1)) = some ((funcsListed Rows.backupNoneRow.laid).map (·.2.funcsOut)) := by kernel_rfl
theorem wit_shaped (os : Os) (args : Array Value) : ((wit os).forCall (fun _ _ => 0) ⟨#[], args, []⟩).Shaped Tryz.prog := World.shaped_of_ZipB (by kernel_rfl) (by kernel_rfl)
/-- the witness meets the condition -/
theorem door_met (os : Os) (args : Array Value) : laidMetH Tryz.prog Rows.backupNoneRow.laid ((wit os).forCall (fun _ _ => 0) ⟨#[], args, []⟩).memory :=
  laidMetH_of_parts3 (fuel := 8) (wit_plain os args) (wit_handles os args) (wit_funcs os args)
#print axioms door_met
end Go.Proofs.YtbbfdnknbghffaaGreatDoor
