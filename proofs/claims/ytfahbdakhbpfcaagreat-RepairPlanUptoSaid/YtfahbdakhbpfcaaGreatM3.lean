/-
  Rot: WALK: bits.RotateLeft32 to the right by the numbers that SHA-256 asks for, and the document's turn; conditions: none.
-/
import Derived.Test.YtfahbdakhbpfcaaGreatM1
import Derived.Test.YtfahbdakhbpfcaaGreatM2
import Derived.Test.YtfahbdakhbpfcaaGreatProg
import Derived.KernelRfl
namespace Go.Proofs.YtfahbdakhbpfcaaGreat
open Go.RowKit

theorem rot2 (x : Sha.U) (w : World) : Calls Tryz.prog 103 #[Sha.uv x, .int .i64 (-2)] w fun e w' => e = .returned (Sha.uv (Sha.rot x 2)) ∧ w = w' := by
  have hb : bits BinOp.and IntKind.u64 (IntKind.u64.wrap (-2)) 31 = 30 := by kernel_rfl
  go_enter Tryz.func103, Tryz.ntmps103
  go_wp2_with fail
  go_ret
  refine ⟨?_, rfl⟩
  have h1 := Sha.shl_w x 30
  have h2 := Sha.shr_w x 2
  simp only [Nat.reducePow, Int.cast_ofNat_Int] at h1 h2
  show Ending.returned (.int .u32 (bits .or .u32 ((x.toNat : Int) * 1073741824 % 4294967296) ((x.toNat : Int) / 4))) = _
  rw [h1, h2, Sha.or_w, BitVec.or_comm]
  rfl
theorem turn2 (x : Sha.U) (w : World) : Calls Tryz.prog 92 #[Sha.uv x, .int .u64 2] w fun e w' => e = .returned (Sha.uv (Sha.rot x 2)) ∧ w = w' := by
  go_enter Tryz.func92, Tryz.ntmps92
  go_wp2_with fail
  go_ret
  refine ⟨?_, rfl⟩
  have h1 := Sha.shl_w x 30
  have h2 := Sha.shr_w x 2
  simp only [Nat.reducePow, Int.cast_ofNat_Int] at h1 h2
  show Ending.returned (.int .u32 (bits .or .u32 ((x.toNat : Int) / 4) ((x.toNat : Int) * 1073741824 % 4294967296))) = _
  rw [h1, h2, Sha.or_w]
  rfl
theorem rot6 (x : Sha.U) (w : World) : Calls Tryz.prog 103 #[Sha.uv x, .int .i64 (-6)] w fun e w' => e = .returned (Sha.uv (Sha.rot x 6)) ∧ w = w' := by
  have hb : bits BinOp.and IntKind.u64 (IntKind.u64.wrap (-6)) 31 = 26 := by kernel_rfl
  go_enter Tryz.func103, Tryz.ntmps103
  go_wp2_with fail
  go_ret
  refine ⟨?_, rfl⟩
  have h1 := Sha.shl_w x 26
  have h2 := Sha.shr_w x 6
  simp only [Nat.reducePow, Int.cast_ofNat_Int] at h1 h2
  show Ending.returned (.int .u32 (bits .or .u32 ((x.toNat : Int) * 67108864 % 4294967296) ((x.toNat : Int) / 64))) = _
  rw [h1, h2, Sha.or_w, BitVec.or_comm]
  rfl
theorem turn6 (x : Sha.U) (w : World) : Calls Tryz.prog 92 #[Sha.uv x, .int .u64 6] w fun e w' => e = .returned (Sha.uv (Sha.rot x 6)) ∧ w = w' := by
  go_enter Tryz.func92, Tryz.ntmps92
  go_wp2_with fail
  go_ret
  refine ⟨?_, rfl⟩
  have h1 := Sha.shl_w x 26
  have h2 := Sha.shr_w x 6
  simp only [Nat.reducePow, Int.cast_ofNat_Int] at h1 h2
  show Ending.returned (.int .u32 (bits .or .u32 ((x.toNat : Int) / 64) ((x.toNat : Int) * 67108864 % 4294967296))) = _
  rw [h1, h2, Sha.or_w]
  rfl
theorem rot7 (x : Sha.U) (w : World) : Calls Tryz.prog 103 #[Sha.uv x, .int .i64 (-7)] w fun e w' => e = .returned (Sha.uv (Sha.rot x 7)) ∧ w = w' := by
  have hb : bits BinOp.and IntKind.u64 (IntKind.u64.wrap (-7)) 31 = 25 := by kernel_rfl
  go_enter Tryz.func103, Tryz.ntmps103
  go_wp2_with fail
  go_ret
  refine ⟨?_, rfl⟩
  have h1 := Sha.shl_w x 25
  have h2 := Sha.shr_w x 7
  simp only [Nat.reducePow, Int.cast_ofNat_Int] at h1 h2
  show Ending.returned (.int .u32 (bits .or .u32 ((x.toNat : Int) * 33554432 % 4294967296) ((x.toNat : Int) / 128))) = _
  rw [h1, h2, Sha.or_w, BitVec.or_comm]
  rfl
theorem turn7 (x : Sha.U) (w : World) : Calls Tryz.prog 92 #[Sha.uv x, .int .u64 7] w fun e w' => e = .returned (Sha.uv (Sha.rot x 7)) ∧ w = w' := by
  go_enter Tryz.func92, Tryz.ntmps92
  go_wp2_with fail
  go_ret
  refine ⟨?_, rfl⟩
  have h1 := Sha.shl_w x 25
  have h2 := Sha.shr_w x 7
  simp only [Nat.reducePow, Int.cast_ofNat_Int] at h1 h2
  show Ending.returned (.int .u32 (bits .or .u32 ((x.toNat : Int) / 128) ((x.toNat : Int) * 33554432 % 4294967296))) = _
  rw [h1, h2, Sha.or_w]
  rfl
theorem rot11 (x : Sha.U) (w : World) : Calls Tryz.prog 103 #[Sha.uv x, .int .i64 (-11)] w fun e w' => e = .returned (Sha.uv (Sha.rot x 11)) ∧ w = w' := by
  have hb : bits BinOp.and IntKind.u64 (IntKind.u64.wrap (-11)) 31 = 21 := by kernel_rfl
  go_enter Tryz.func103, Tryz.ntmps103
  go_wp2_with fail
  go_ret
  refine ⟨?_, rfl⟩
  have h1 := Sha.shl_w x 21
  have h2 := Sha.shr_w x 11
  simp only [Nat.reducePow, Int.cast_ofNat_Int] at h1 h2
  show Ending.returned (.int .u32 (bits .or .u32 ((x.toNat : Int) * 2097152 % 4294967296) ((x.toNat : Int) / 2048))) = _
  rw [h1, h2, Sha.or_w, BitVec.or_comm]
  rfl
theorem turn11 (x : Sha.U) (w : World) : Calls Tryz.prog 92 #[Sha.uv x, .int .u64 11] w fun e w' => e = .returned (Sha.uv (Sha.rot x 11)) ∧ w = w' := by
  go_enter Tryz.func92, Tryz.ntmps92
  go_wp2_with fail
  go_ret
  refine ⟨?_, rfl⟩
  have h1 := Sha.shl_w x 21
  have h2 := Sha.shr_w x 11
  simp only [Nat.reducePow, Int.cast_ofNat_Int] at h1 h2
  show Ending.returned (.int .u32 (bits .or .u32 ((x.toNat : Int) / 2048) ((x.toNat : Int) * 2097152 % 4294967296))) = _
  rw [h1, h2, Sha.or_w]
  rfl
theorem rot13 (x : Sha.U) (w : World) : Calls Tryz.prog 103 #[Sha.uv x, .int .i64 (-13)] w fun e w' => e = .returned (Sha.uv (Sha.rot x 13)) ∧ w = w' := by
  have hb : bits BinOp.and IntKind.u64 (IntKind.u64.wrap (-13)) 31 = 19 := by kernel_rfl
  go_enter Tryz.func103, Tryz.ntmps103
  go_wp2_with fail
  go_ret
  refine ⟨?_, rfl⟩
  have h1 := Sha.shl_w x 19
  have h2 := Sha.shr_w x 13
  simp only [Nat.reducePow, Int.cast_ofNat_Int] at h1 h2
  show Ending.returned (.int .u32 (bits .or .u32 ((x.toNat : Int) * 524288 % 4294967296) ((x.toNat : Int) / 8192))) = _
  rw [h1, h2, Sha.or_w, BitVec.or_comm]
  rfl
theorem turn13 (x : Sha.U) (w : World) : Calls Tryz.prog 92 #[Sha.uv x, .int .u64 13] w fun e w' => e = .returned (Sha.uv (Sha.rot x 13)) ∧ w = w' := by
  go_enter Tryz.func92, Tryz.ntmps92
  go_wp2_with fail
  go_ret
  refine ⟨?_, rfl⟩
  have h1 := Sha.shl_w x 19
  have h2 := Sha.shr_w x 13
  simp only [Nat.reducePow, Int.cast_ofNat_Int] at h1 h2
  show Ending.returned (.int .u32 (bits .or .u32 ((x.toNat : Int) / 8192) ((x.toNat : Int) * 524288 % 4294967296))) = _
  rw [h1, h2, Sha.or_w]
  rfl
theorem rot17 (x : Sha.U) (w : World) : Calls Tryz.prog 103 #[Sha.uv x, .int .i64 (-17)] w fun e w' => e = .returned (Sha.uv (Sha.rot x 17)) ∧ w = w' := by
  have hb : bits BinOp.and IntKind.u64 (IntKind.u64.wrap (-17)) 31 = 15 := by kernel_rfl
  go_enter Tryz.func103, Tryz.ntmps103
  go_wp2_with fail
  go_ret
  refine ⟨?_, rfl⟩
  have h1 := Sha.shl_w x 15
  have h2 := Sha.shr_w x 17
  simp only [Nat.reducePow, Int.cast_ofNat_Int] at h1 h2
  show Ending.returned (.int .u32 (bits .or .u32 ((x.toNat : Int) * 32768 % 4294967296) ((x.toNat : Int) / 131072))) = _
  rw [h1, h2, Sha.or_w, BitVec.or_comm]
  rfl
theorem turn17 (x : Sha.U) (w : World) : Calls Tryz.prog 92 #[Sha.uv x, .int .u64 17] w fun e w' => e = .returned (Sha.uv (Sha.rot x 17)) ∧ w = w' := by
  go_enter Tryz.func92, Tryz.ntmps92
  go_wp2_with fail
  go_ret
  refine ⟨?_, rfl⟩
  have h1 := Sha.shl_w x 15
  have h2 := Sha.shr_w x 17
  simp only [Nat.reducePow, Int.cast_ofNat_Int] at h1 h2
  show Ending.returned (.int .u32 (bits .or .u32 ((x.toNat : Int) / 131072) ((x.toNat : Int) * 32768 % 4294967296))) = _
  rw [h1, h2, Sha.or_w]
  rfl
theorem rot18 (x : Sha.U) (w : World) : Calls Tryz.prog 103 #[Sha.uv x, .int .i64 (-18)] w fun e w' => e = .returned (Sha.uv (Sha.rot x 18)) ∧ w = w' := by
  have hb : bits BinOp.and IntKind.u64 (IntKind.u64.wrap (-18)) 31 = 14 := by kernel_rfl
  go_enter Tryz.func103, Tryz.ntmps103
  go_wp2_with fail
  go_ret
  refine ⟨?_, rfl⟩
  have h1 := Sha.shl_w x 14
  have h2 := Sha.shr_w x 18
  simp only [Nat.reducePow, Int.cast_ofNat_Int] at h1 h2
  show Ending.returned (.int .u32 (bits .or .u32 ((x.toNat : Int) * 16384 % 4294967296) ((x.toNat : Int) / 262144))) = _
  rw [h1, h2, Sha.or_w, BitVec.or_comm]
  rfl
theorem turn18 (x : Sha.U) (w : World) : Calls Tryz.prog 92 #[Sha.uv x, .int .u64 18] w fun e w' => e = .returned (Sha.uv (Sha.rot x 18)) ∧ w = w' := by
  go_enter Tryz.func92, Tryz.ntmps92
  go_wp2_with fail
  go_ret
  refine ⟨?_, rfl⟩
  have h1 := Sha.shl_w x 14
  have h2 := Sha.shr_w x 18
  simp only [Nat.reducePow, Int.cast_ofNat_Int] at h1 h2
  show Ending.returned (.int .u32 (bits .or .u32 ((x.toNat : Int) / 262144) ((x.toNat : Int) * 16384 % 4294967296))) = _
  rw [h1, h2, Sha.or_w]
  rfl
theorem rot19 (x : Sha.U) (w : World) : Calls Tryz.prog 103 #[Sha.uv x, .int .i64 (-19)] w fun e w' => e = .returned (Sha.uv (Sha.rot x 19)) ∧ w = w' := by
  have hb : bits BinOp.and IntKind.u64 (IntKind.u64.wrap (-19)) 31 = 13 := by kernel_rfl
  go_enter Tryz.func103, Tryz.ntmps103
  go_wp2_with fail
  go_ret
  refine ⟨?_, rfl⟩
  have h1 := Sha.shl_w x 13
  have h2 := Sha.shr_w x 19
  simp only [Nat.reducePow, Int.cast_ofNat_Int] at h1 h2
  show Ending.returned (.int .u32 (bits .or .u32 ((x.toNat : Int) * 8192 % 4294967296) ((x.toNat : Int) / 524288))) = _
  rw [h1, h2, Sha.or_w, BitVec.or_comm]
  rfl
theorem turn19 (x : Sha.U) (w : World) : Calls Tryz.prog 92 #[Sha.uv x, .int .u64 19] w fun e w' => e = .returned (Sha.uv (Sha.rot x 19)) ∧ w = w' := by
  go_enter Tryz.func92, Tryz.ntmps92
  go_wp2_with fail
  go_ret
  refine ⟨?_, rfl⟩
  have h1 := Sha.shl_w x 13
  have h2 := Sha.shr_w x 19
  simp only [Nat.reducePow, Int.cast_ofNat_Int] at h1 h2
  show Ending.returned (.int .u32 (bits .or .u32 ((x.toNat : Int) / 524288) ((x.toNat : Int) * 8192 % 4294967296))) = _
  rw [h1, h2, Sha.or_w]
  rfl
theorem rot22 (x : Sha.U) (w : World) : Calls Tryz.prog 103 #[Sha.uv x, .int .i64 (-22)] w fun e w' => e = .returned (Sha.uv (Sha.rot x 22)) ∧ w = w' := by
  have hb : bits BinOp.and IntKind.u64 (IntKind.u64.wrap (-22)) 31 = 10 := by kernel_rfl
  go_enter Tryz.func103, Tryz.ntmps103
  go_wp2_with fail
  go_ret
  refine ⟨?_, rfl⟩
  have h1 := Sha.shl_w x 10
  have h2 := Sha.shr_w x 22
  simp only [Nat.reducePow, Int.cast_ofNat_Int] at h1 h2
  show Ending.returned (.int .u32 (bits .or .u32 ((x.toNat : Int) * 1024 % 4294967296) ((x.toNat : Int) / 4194304))) = _
  rw [h1, h2, Sha.or_w, BitVec.or_comm]
  rfl
theorem turn22 (x : Sha.U) (w : World) : Calls Tryz.prog 92 #[Sha.uv x, .int .u64 22] w fun e w' => e = .returned (Sha.uv (Sha.rot x 22)) ∧ w = w' := by
  go_enter Tryz.func92, Tryz.ntmps92
  go_wp2_with fail
  go_ret
  refine ⟨?_, rfl⟩
  have h1 := Sha.shl_w x 10
  have h2 := Sha.shr_w x 22
  simp only [Nat.reducePow, Int.cast_ofNat_Int] at h1 h2
  show Ending.returned (.int .u32 (bits .or .u32 ((x.toNat : Int) / 4194304) ((x.toNat : Int) * 1024 % 4294967296))) = _
  rw [h1, h2, Sha.or_w]
  rfl
theorem rot25 (x : Sha.U) (w : World) : Calls Tryz.prog 103 #[Sha.uv x, .int .i64 (-25)] w fun e w' => e = .returned (Sha.uv (Sha.rot x 25)) ∧ w = w' := by
  have hb : bits BinOp.and IntKind.u64 (IntKind.u64.wrap (-25)) 31 = 7 := by kernel_rfl
  go_enter Tryz.func103, Tryz.ntmps103
  go_wp2_with fail
  go_ret
  refine ⟨?_, rfl⟩
  have h1 := Sha.shl_w x 7
  have h2 := Sha.shr_w x 25
  simp only [Nat.reducePow, Int.cast_ofNat_Int] at h1 h2
  show Ending.returned (.int .u32 (bits .or .u32 ((x.toNat : Int) * 128 % 4294967296) ((x.toNat : Int) / 33554432))) = _
  rw [h1, h2, Sha.or_w, BitVec.or_comm]
  rfl
theorem turn25 (x : Sha.U) (w : World) : Calls Tryz.prog 92 #[Sha.uv x, .int .u64 25] w fun e w' => e = .returned (Sha.uv (Sha.rot x 25)) ∧ w = w' := by
  go_enter Tryz.func92, Tryz.ntmps92
  go_wp2_with fail
  go_ret
  refine ⟨?_, rfl⟩
  have h1 := Sha.shl_w x 7
  have h2 := Sha.shr_w x 25
  simp only [Nat.reducePow, Int.cast_ofNat_Int] at h1 h2
  show Ending.returned (.int .u32 (bits .or .u32 ((x.toNat : Int) / 33554432) ((x.toNat : Int) * 128 % 4294967296))) = _
  rw [h1, h2, Sha.or_w]
  rfl

theorem rotk (x : Sha.U) (k : Int) (hk : k ∈ [(-2 : Int), -6, -7, -11, -13, -17, -18, -19, -22, -25]) (w : World) : Calls Tryz.prog 103 #[Sha.uv x, .int .i64 k] w fun e w' => e = .returned (Sha.uv (Sha.rot x k.natAbs)) ∧ w = w' := by
  simp only [List.mem_cons, List.not_mem_nil, or_false] at hk
  rcases hk with rfl | rfl | rfl | rfl | rfl | rfl | rfl | rfl | rfl | rfl
  · exact rot2 x w
  · exact rot6 x w
  · exact rot7 x w
  · exact rot11 x w
  · exact rot13 x w
  · exact rot17 x w
  · exact rot18 x w
  · exact rot19 x w
  · exact rot22 x w
  · exact rot25 x w
theorem turnk (x : Sha.U) (k : Nat) (hk : k ∈ [2, 6, 7, 11, 13, 17, 18, 19, 22, 25]) (w : World) : Calls Tryz.prog 92 #[Sha.uv x, .int .u64 k] w fun e w' => e = .returned (Sha.uv (Sha.rot x k)) ∧ w = w' := by
  simp only [List.mem_cons, List.not_mem_nil, or_false] at hk
  rcases hk with rfl | rfl | rfl | rfl | rfl | rfl | rfl | rfl | rfl | rfl
  · exact turn2 x w
  · exact turn6 x w
  · exact turn7 x w
  · exact turn11 x w
  · exact turn13 x w
  · exact turn17 x w
  · exact turn18 x w
  · exact turn19 x w
  · exact turn22 x w
  · exact turn25 x w
end Go.Proofs.YtfahbdakhbpfcaaGreat
