/- FACTS: the program of BackupNone is laid out, piece by piece; conditions: none. -/
import Derived.Test.YtbbfdnknbghffaaGreatDoorBook
namespace Go.Proofs.YtbbfdnknbghffaaGreatDoor
/-- a piece of the types -/
def pieceB (P : Program) (o n : Nat) : Bool := (List.range n).all fun i => rowFine P (o + i)
theorem pieces {P : Program} {n : Nat} : ∀ (k o : Nat), (∀ j, j < k → pieceB P (o + j * n) n = true) → ∀ i, i < k * n → rowFine P (o + i) = true := by
  intro k o h i hi
  have hn : 0 < n := by
    rcases Nat.eq_zero_or_pos n with h0 | h0
    · subst h0
      simp at hi
    · exact h0
  have hj : i / n < k := by
    rw [Nat.div_lt_iff_lt_mul hn]
    exact hi
  have h1 := List.all_eq_true.1 (h (i / n) hj) (i % n) (List.mem_range.2 (Nat.mod_lt _ hn))
  have e : o + i / n * n + i % n = o + i := by
    rw [Nat.mul_comm]
    have := Nat.div_add_mod i n
    omega
  rwa [e] at h1
theorem laid_of {P : Program} {k n : Nat} (hs : P.types.size = k * n) (h : ∀ j, j < k → pieceB P (0 + j * n) n = true) (hg : P.globals.all (fun g => decide (g.type < P.types.size)) = true) (hf : P.funcs.all (fun f => f.params.all fun t => decide (t < P.types.size)) = true) : laidOutB P = true := by
  unfold laidOutB
  rw [hg, hf]
  simp only [Bool.and_true, List.all_eq_true, List.mem_range]
  intro i hi
  have := pieces k 0 h i (by omega)
  rwa [Nat.zero_add] at this
theorem p00 : pieceB Tryz.pinned.checked.prog 0 55 = true := by kernel_rfl
theorem p01 : pieceB Tryz.pinned.checked.prog 55 55 = true := by kernel_rfl
theorem p02 : pieceB Tryz.pinned.checked.prog 110 55 = true := by kernel_rfl
theorem p03 : pieceB Tryz.pinned.checked.prog 165 55 = true := by kernel_rfl
theorem p04 : pieceB Tryz.pinned.checked.prog 220 55 = true := by kernel_rfl
theorem p05 : pieceB Tryz.pinned.checked.prog 275 55 = true := by kernel_rfl
theorem p06 : pieceB Tryz.pinned.checked.prog 330 55 = true := by kernel_rfl
theorem p07 : pieceB Tryz.pinned.checked.prog 385 55 = true := by kernel_rfl
theorem p08 : pieceB Tryz.pinned.checked.prog 440 55 = true := by kernel_rfl
theorem p09 : pieceB Tryz.pinned.checked.prog 495 55 = true := by kernel_rfl
theorem p10 : pieceB Tryz.pinned.checked.prog 550 55 = true := by kernel_rfl
theorem p11 : pieceB Tryz.pinned.checked.prog 605 55 = true := by kernel_rfl
theorem p12 : pieceB Tryz.pinned.checked.prog 660 55 = true := by kernel_rfl
theorem p13 : pieceB Tryz.pinned.checked.prog 715 55 = true := by kernel_rfl
theorem p14 : pieceB Tryz.pinned.checked.prog 770 55 = true := by kernel_rfl
theorem types_size : Tryz.pinned.checked.prog.types.size = 15 * 55 := by kernel_rfl
theorem globals_fine : (Tryz.pinned.checked.prog.globals.all fun g => decide (g.type < Tryz.pinned.checked.prog.types.size)) = true := by kernel_rfl
theorem params_fine : (Tryz.pinned.checked.prog.funcs.all fun f => f.params.all fun t => decide (t < Tryz.pinned.checked.prog.types.size)) = true := by kernel_rfl
theorem j02 : laidOutB Tryz.pinned.checked.prog = true :=
  laid_of types_size (fun j hj => by
    rcases (by omega : j = 0 ∨ j = 1 ∨ j = 2 ∨ j = 3 ∨ j = 4 ∨ j = 5 ∨ j = 6 ∨ j = 7 ∨ j = 8 ∨ j = 9 ∨ j = 10 ∨ j = 11 ∨ j = 12 ∨ j = 13 ∨ j = 14) with rfl | rfl | rfl | rfl | rfl | rfl | rfl | rfl | rfl | rfl | rfl | rfl | rfl | rfl | rfl
    · exact p00
    · exact p01
    · exact p02
    · exact p03
    · exact p04
    · exact p05
    · exact p06
    · exact p07
    · exact p08
    · exact p09
    · exact p10
    · exact p11
    · exact p12
    · exact p13
    · exact p14
    ) globals_fine params_fine
end Go.Proofs.YtbbfdnknbghffaaGreatDoor
