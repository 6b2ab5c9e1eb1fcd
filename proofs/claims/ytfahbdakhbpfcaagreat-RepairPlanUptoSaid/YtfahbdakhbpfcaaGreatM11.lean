/-
  Words: WALK: strongroomref02.words: the 64 words of a block, the document's; conditions: the block has 64 bytes.
-/
import Derived.Test.YtfahbdakhbpfcaaGreatM6
namespace Go.Proofs.YtfahbdakhbpfcaaGreat
open Go.RowKit

/-- the number of a word's first i bytes -/
def pw (l : List UInt8) (t : Nat) : Nat → Nat
  | 0 => 0
  | i + 1 => pw l t i * 256 + (Sha.at8 l (4 * t + i)).toNat
theorem pw_lt (l : List UInt8) (t : Nat) : ∀ i, pw l t i < 256 ^ i
  | 0 => by simp [pw]
  | i + 1 => by
    have h1 := pw_lt l t i
    have h2 := (Sha.at8 l (4 * t + i)).toNat_lt
    simp only [pw, Nat.pow_succ]
    omega
theorem pw_four (l : List UInt8) (t : Nat) (ht : t < 16) : pw l t 4 = (Sha.W l t).toNat := by
  rw [Sha.W_lt l t ht, Sha.be32, BitVec.toNat_ofNat]
  have h0 := (Sha.at8 l (4 * t)).toNat_lt
  have h1 := (Sha.at8 l (4 * t + 1)).toNat_lt
  have h2 := (Sha.at8 l (4 * t + 2)).toNat_lt
  have h3 := (Sha.at8 l (4 * t + 3)).toNat_lt
  simp only [pw, Nat.add_zero]
  omega
/-- the words so far, the next one in part -/
def wPart (l : List UInt8) (t i : Nat) : Array Value := arr (fun j => if j < t then Sha.uv (Sha.W l j) else if j = t then .int .u32 (pw l t i) else .int .u32 0) 64
theorem wPart_zero (l : List UInt8) (t : Nat) : wArr l t = wPart l t 0 := arr_congr fun j _ => by
  by_cases h : j < t
  · simp [h]
  · by_cases h2 : j = t
    · simp [h2, pw]
    · simp [h, h2]
theorem wPart_four (l : List UInt8) (t : Nat) (ht : t < 16) : wPart l t 4 = wArr l (t + 1) := arr_congr fun j _ => by
  by_cases h : j < t
  · have h3 : j < t + 1 := by omega
    simp [h, h3]
  · by_cases h2 : j = t
    · subst h2
      simp [pw_four l j ht]
    · have h3 : ¬ j < t + 1 := by omega
      simp [h, h2, h3]
theorem wPart_set (l : List UInt8) (t i : Nat) : (wPart l t i).setIfInBounds t (.int .u32 (pw l t (i + 1))) = wPart l t (i + 1) := by
  unfold wPart
  rw [arr_set]
  refine arr_congr fun j _ => ?_
  by_cases h : j = t
  · subst h
    simp
  · simp [h]

theorem pw_step (l : List UInt8) (t i : Nat) (hi : i < 4) : IntKind.u32.wrap (IntKind.u32.wrap ((pw l t i : Int) * 256) + IntKind.u32.wrap ((Sha.at8 l (4 * t + i)).toNat : Int)) = ((pw l t (i + 1) : Nat) : Int) := by
  have h1 := pw_lt l t i
  have h2 := (Sha.at8 l (4 * t + i)).toNat_lt
  have h3 : 256 ^ i ≤ 256 ^ 3 := Nat.pow_le_pow_right (by omega) (by omega)
  simp only [Nat.reducePow] at h3
  rw [wrap32 ((pw l t i : Int) * 256) (by omega) (by omega), wrap32 ((Sha.at8 l (4 * t + i)).toNat : Int) (by omega) (by omega), wrap32 _ (by omega) (by omega)]
  simp [pw]
theorem turnz (x : Sha.U) (k : Int) (hk : k ∈ [(2 : Int), 6, 7, 11, 13, 17, 18, 19, 22, 25]) (w : World) : Calls Tryz.prog 92 #[Sha.uv x, .int .u64 k] w fun e w' => e = .returned (Sha.uv (Sha.rot x k.natAbs)) ∧ w = w' := by
  simp only [List.mem_cons, List.not_mem_nil, or_false] at hk
  rcases hk with rfl | rfl | rfl | rfl | rfl | rfl | rfl | rfl | rfl | rfl
  · exact turn2 x w
  · exact turn6 x w
  · exact turn7 x w
  · exact turn11 x w
  · exact turn13 x w
  · exact turn17 x w
  · exact turn18 x w
  · exact turn19 x w
  · exact turn22 x w
  · exact turn25 x w

set_option maxRecDepth 100000 in
set_option maxHeartbeats 4000000 in
theorem words02_at (l : List UInt8) (hl : l.length = 64) (w : World) : Calls Tryz.prog 90 #[.agg (blk l)] w fun e w' => e = .returned (.agg (arr (fun j => Sha.uv (Sha.W l j)) 64)) ∧ Below w.heap.size w w' := by
  go_enter Tryz.func90, Tryz.ntmps90
  go_wp2_with fail
  generalize hW : ((w.alloc _).alloc _).alloc _ = W0
  obtain ⟨q1, q2, q3, hb0⟩ := sched_world w l W0 hW
  clear hW
  go_loopw [4] (fun p wr => ∃ k : Nat, k ≤ 16 ∧ p = .int .i64 k ∧ Row wr w.heap.size 130 (blk l) ∧ Row wr (w.heap.size + 1) 143 zCells ∧ Row wr (w.heap.size + 1 + 1) 143 (wArr l k) ∧ Below w.heap.size w wr) (fun p _ => 16 - (intOf p).toNat)
  case atStart => exact ⟨0, Nat.zero_le _, rfl, q1, q2, q3, hb0⟩
  case round =>
    clear q1 q2 q3 hb0
    obtain ⟨k, hk, rfl, r1, r2, r3, hb⟩ := hrel
    rw [wPart_zero] at r3
    iterate 14 go_step
    · have hk16 : k < 16 := by
        have : (k : Int) < 16 := by assumption
        omega
      go_wp2_with fail
      have hd : decide ((k : Int) < 16) = true := decide_eq_true (by omega)
      simp only [hd]
      clear hd
      go_loopw [5] (fun p wr => ∃ i : Nat, i ≤ 4 ∧ p = .int .i64 i ∧ Row wr w.heap.size 130 (blk l) ∧ Row wr (w.heap.size + 1) 143 zCells ∧ Row wr (w.heap.size + 1 + 1) 143 (wPart l k i) ∧ Below w.heap.size w wr) (fun p _ => 4 - (intOf p).toNat)
      case atStart => exact ⟨0, Nat.zero_le _, rfl, r1, r2, r3, hb⟩
      case round =>
        clear r1 r2 r3 hb
        obtain ⟨i, hi, rfl, r1, r2, r3, hb⟩ := hrel
        iterate 14 go_step
        · have hi4 : i < 4 := by
            have : (i : Int) < 4 := by assumption
            omega
          have e0 := wrap_id (4 * (k : Int)) (by omega) (by omega)
          have e1 := wrap_id (4 * (k : Int) + (i : Int)) (by omega) (by omega)
          have a1 : (0 : Int) ≤ 4 * (k : Int) + (i : Int) := by omega
          have b1 : 4 * (k : Int) + (i : Int) < 64 := by omega
          have b4 : (k : Int) < 64 := by omega
          have t1 : (4 * (k : Int) + (i : Int)).toNat = 4 * k + i := by omega
          have c1 : wr.cell? ⟨w.heap.size, 4 * k + i, none⟩ = some (Sha.bv (Sha.at8 l (4 * k + i))) := (r1.cell _).trans (blk_get l _ (by omega))
          have c4 : wr.cell? ⟨w.heap.size + 1 + 1, k, none⟩ = some (.int .u32 (pw l k i)) := (r3.cell _).trans ((arr_get _ _ _ (by omega)).trans (by simp))
          have f4 := r3.frozen k
          go_wp2_with fail
          go_still_tail 14, (by kernel_rfl)
          change wpList _ _ _ _ _ wr.drew
          rw [pw_step l k i hi4]
          clear e0 e1 a1 b1 b4 t1 c1
          have S3 := (r3.drew).store k (.int .u32 (pw l k (i + 1)))
          rw [wPart_set] at S3
          have S1 := (r1.drew).other ⟨w.heap.size + 1 + 1, k, none⟩ (.int .u32 (pw l k (i + 1))) (by simp; omega)
          have S2 := (r2.drew).other ⟨w.heap.size + 1 + 1, k, none⟩ (.int .u32 (pw l k (i + 1))) (by simp)
          have SB := (hb.drew).setCell (p := ⟨w.heap.size + 1 + 1, k, none⟩) (by simp; omega) (.int .u32 (pw l k (i + 1)))
          clear r1 r2 r3 hb
          go_wp2_with fail
          go_roundw
          case rel => exact ⟨i + 1, by omega, by go_num, S1, S2, S3, SB⟩
          case measure => simp [intOf]; omega
        · have hi4 : i = 4 := by
            have : (4 : Int) ≤ (i : Int) := by assumption
            omega
          subst hi4
          rw [wPart_four l k hk16] at r3
          go_wp2_with fail
          refine ⟨⟨k + 1, by omega, by go_num, r1, r2, r3, hb⟩, ?_⟩
          simp [intOf]
          omega
    · have hk16 : k = 16 := by
        have : (16 : Int) ≤ (k : Int) := by assumption
        omega
      subst hk16
      rw [← wPart_zero] at r3
      go_wp2_with fail
      simp only [Int.cast_ofNat_Int, Int.lt_irrefl, decide_false]
      go_loopw [6] (fun p wr => ∃ k : Nat, 16 ≤ k ∧ k ≤ 64 ∧ p = .int .i64 k ∧ Row wr (w.heap.size + 1) 143 zCells ∧ Row wr (w.heap.size + 1 + 1) 143 (wArr l k) ∧ Below w.heap.size w wr) (fun p _ => 64 - (intOf p).toNat)
      case atStart => exact ⟨16, by omega, by omega, rfl, r2, r3, hb⟩
      case round =>
        clear r1 r2 r3 hb
        obtain ⟨k, hk1, hk2, rfl, r2, r3, hb⟩ := hrel
        iterate 14 go_step
        · have hk64 : k < 64 := by
            have : (k : Int) < 64 := by assumption
            omega
          have e15 := wrap_id ((k : Int) - 15) (by omega) (by omega)
          have e2 := wrap_id ((k : Int) - 2) (by omega) (by omega)
          have e7 := wrap_id ((k : Int) - 7) (by omega) (by omega)
          have e16 := wrap_id ((k : Int) - 16) (by omega) (by omega)
          have a15 : (0 : Int) ≤ (k : Int) - 15 := by omega
          have a2 : (0 : Int) ≤ (k : Int) - 2 := by omega
          have a7 : (0 : Int) ≤ (k : Int) - 7 := by omega
          have a16 : (0 : Int) ≤ (k : Int) - 16 := by omega
          have b15 : (k : Int) - 15 < 64 := by omega
          have b2 : (k : Int) - 2 < 64 := by omega
          have b7 : (k : Int) - 7 < 64 := by omega
          have b16 : (k : Int) - 16 < 64 := by omega
          have b0 : (k : Int) < 64 := by omega
          have t15 : ((k : Int) - 15).toNat = k - 15 := by omega
          have t2 : ((k : Int) - 2).toNat = k - 2 := by omega
          have t7 : ((k : Int) - 7).toNat = k - 7 := by omega
          have t16 : ((k : Int) - 16).toNat = k - 16 := by omega
          have c15 : wr.cell? ⟨w.heap.size + 1 + 1, k - 15, none⟩ = some (Sha.uv (Sha.W l (k - 15))) := (r3.cell _).trans ((wArr_get l k _ (by omega)).trans (by rw [if_pos (by omega)]))
          have c2 : wr.cell? ⟨w.heap.size + 1 + 1, k - 2, none⟩ = some (Sha.uv (Sha.W l (k - 2))) := (r3.cell _).trans ((wArr_get l k _ (by omega)).trans (by rw [if_pos (by omega)]))
          have c7 : wr.cell? ⟨w.heap.size + 1 + 1, k - 7, none⟩ = some (Sha.uv (Sha.W l (k - 7))) := (r3.cell _).trans ((wArr_get l k _ (by omega)).trans (by rw [if_pos (by omega)]))
          have c16 : wr.cell? ⟨w.heap.size + 1 + 1, k - 16, none⟩ = some (Sha.uv (Sha.W l (k - 16))) := (r3.cell _).trans ((wArr_get l k _ (by omega)).trans (by rw [if_pos (by omega)]))
          have c0 : wr.cell? ⟨w.heap.size + 1 + 1, k, none⟩ = some (.int .u32 0) := (r3.cell _).trans ((wArr_get l k k (by omega)).trans (by simp))
          have f0 := r3.frozen k
          go_wp2_with (go_at_call 92; refine (turnz _ _ (by decide) _).mono ?_; rintro e w1 ⟨rfl, rfl⟩)
          rw [s0_w, s1_w]
          have n7 : (7 : Int) ≤ (k : Int) := by omega
          have n16 : (16 : Int) ≤ (k : Int) := by omega
          have m7 : (k : Int) < 71 := by omega
          have m16 : (k : Int) < 80 := by omega
          go_still_tail 15, (by kernel_rfl)
          change wpList _ _ _ _ _ wr.drew
          rw [sum4w, ← Sha.W_ge l k hk1]
          clear e15 e2 e7 e16 a15 a2 a7 a16 b15 b2 b7 b16 b0 t15 t2 t7 t16 c7 c16 n7 n16 m7 m16 c15 c2
          have S3 := (r3.drew).store k (Sha.uv (Sha.W l k))
          rw [wArr_set] at S3
          have S2 := (r2.drew).other ⟨w.heap.size + 1 + 1, k, none⟩ (Sha.uv (Sha.W l k)) (by simp)
          have SB := (hb.drew).setCell (p := ⟨w.heap.size + 1 + 1, k, none⟩) (by simp; omega) (Sha.uv (Sha.W l k))
          clear r2 r3 hb
          go_wp2_with fail
          go_roundw
          case rel => exact ⟨k + 1, by omega, by omega, by go_num, S2, S3, SB⟩
          case measure => simp [intOf]; omega
        · have hk64 : k = 64 := by
            have : (64 : Int) ≤ (k : Int) := by assumption
            omega
          subst hk64
          iterate 7 go_step
          refine wpList_load_row rfl 143 (.tmp 3) rfl _ rfl 143 (wArr l 64) (0, 0) _ r3 Tryz.underlying143 rfl (wArr_size l 64) ?_
          refine wpList_store_row rfl 143 (.tmp 2) _ rfl (w.heap.size + 1) (wArr l 64) rfl rfl 143 zCells r2 (wArr_size l 64) (by rw [wArr, arr_size]; rfl) (wArr_one l 64) ?_
          go_wp2_with fail
          refine bodyPost_ret (results_cell_row Tryz.results90 _ _ _ _ _ _ _ rfl (r2.setRow (wArr l 64)) Tryz.underlying143 rfl (wArr_size l 64)) rfl ⟨by rw [wArr_all], below_setRow hb (by omega) _⟩
end Go.Proofs.YtfahbdakhbpfcaaGreat
