/- FACTS: the closed facts on the row of BackupNone that reckon over all functions; conditions: none. -/
import Derived.Test.YtbbfdnknbghffaaGreatDoorBook
namespace Go.Proofs.YtbbfdnknbghffaaGreatDoor
theorem j03 : mapsRowed Tryz.pinned.checked.prog = true := by kernel_rfl
theorem j06 : (Rows.backupNoneRow.inPlace == Tryz.pinned.checked.prog.inPlace 3) = true := by kernel_rfl
theorem j07 : (Rows.backupNoneRow.unfollowed == Tryz.pinned.checked.prog.unfollowed 3) = true := by kernel_rfl
theorem j08 : (Rows.backupNoneRow.recurses == Tryz.pinned.checked.prog.recurses 3) = true := by kernel_rfl
theorem j09 : (Rows.backupNoneRow.named == Tryz.pinned.checked.prog.varsNamed 3) = true := by kernel_rfl
theorem j11 : Tryz.pinned.checked.prog.funcNamed "strongroom/strongroomlaw31.BackupNone" = some 3 := by kernel_rfl
end Go.Proofs.YtbbfdnknbghffaaGreatDoor
