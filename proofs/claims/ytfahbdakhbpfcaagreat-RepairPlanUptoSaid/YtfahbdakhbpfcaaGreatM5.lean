/-
  Sched: WALK: sha.schedule: the 64 words of a block; conditions: the block has 64 bytes.
-/
import Derived.Test.YtfahbdakhbpfcaaGreatM4
import Derived.StillTailTactics
import Derived.BigRegion
namespace Go.Proofs.YtfahbdakhbpfcaaGreat
open Go.RowKit

theorem Row.load {P : Program} {w : World} {b : Nat} {t : TypeId} {cs : Array Value} {n : Nat} (h : Row w b t cs) (hn : cs.size = n) : (loadCellsFrom ⟨b, 0, none⟩ 0 n #[]).run P w = .ok cs w := by
  subst hn
  have := run_loadCells_list (P := P) w ⟨b, 0, none⟩ cs.toList (fun j v hv => by
    have hadd : (⟨b, 0, none⟩ : Addr).add j = ⟨b, j, none⟩ := by unfold Addr.add; split <;> simp_all
    rw [hadd, cell_of_row w b j cs t (0, 0) h]
    simpa using hv)
  simpa [loadCells] using this

/-- a block's cells -/
def blk (l : List UInt8) : Array Value := (l.map Sha.bv).toArray
/-- the words so far -/
def wArr (l : List UInt8) (k : Nat) : Array Value := arr (fun j => if j < k then Sha.uv (Sha.W l j) else .int .u32 0) 64

def zCells : Array Value := #[.int .u32 0, .int .u32 0, .int .u32 0, .int .u32 0, .int .u32 0, .int .u32 0, .int .u32 0, .int .u32 0, .int .u32 0, .int .u32 0, .int .u32 0, .int .u32 0, .int .u32 0, .int .u32 0, .int .u32 0, .int .u32 0, .int .u32 0, .int .u32 0, .int .u32 0, .int .u32 0, .int .u32 0, .int .u32 0, .int .u32 0, .int .u32 0, .int .u32 0, .int .u32 0, .int .u32 0, .int .u32 0, .int .u32 0, .int .u32 0, .int .u32 0, .int .u32 0, .int .u32 0, .int .u32 0, .int .u32 0, .int .u32 0, .int .u32 0, .int .u32 0, .int .u32 0, .int .u32 0, .int .u32 0, .int .u32 0, .int .u32 0, .int .u32 0, .int .u32 0, .int .u32 0, .int .u32 0, .int .u32 0, .int .u32 0, .int .u32 0, .int .u32 0, .int .u32 0, .int .u32 0, .int .u32 0, .int .u32 0, .int .u32 0, .int .u32 0, .int .u32 0, .int .u32 0, .int .u32 0, .int .u32 0, .int .u32 0, .int .u32 0, .int .u32 0]
theorem zCells_eq (l : List UInt8) : zCells = wArr l 0 := by kernel_rfl
theorem blk_size (l : List UInt8) : (blk l).size = l.length := by simp [blk]
theorem blk_get (l : List UInt8) (i : Nat) (h : i < l.length) : (blk l)[i]? = some (Sha.bv (Sha.at8 l i)) := by
  simp [blk, Sha.at8, h]
theorem wArr_get (l : List UInt8) (k i : Nat) (h : i < 64) : (wArr l k)[i]? = some (if i < k then Sha.uv (Sha.W l i) else .int .u32 0) := arr_get _ _ _ h
theorem wArr_set (l : List UInt8) (k : Nat) : (wArr l k).setIfInBounds k (Sha.uv (Sha.W l k)) = wArr l (k + 1) := by
  unfold wArr
  rw [arr_set]
  refine arr_congr fun j _ => ?_
  by_cases h : j = k
  · subst h
    simp
  · by_cases h2 : j < k
    · have h3 : j < k + 1 := by omega
      simp [h, h2, h3]
    · have h3 : ¬ j < k + 1 := by omega
      simp [h, h2, h3]

theorem wrap_id (x : Int) (h1 : -9223372036854775808 ≤ x) (h2 : x < 9223372036854775808) : IntKind.i64.wrap x = x := by
  simp [IntKind.wrap, IntKind.signed, IntKind.bits] <;> (try split) <;> omega

theorem wrap32 (x : Int) (h1 : 0 ≤ x) (h2 : x < 4294967296) : IntKind.u32.wrap x = x := by
  simp [IntKind.wrap, IntKind.signed, IntKind.bits]
  omega
theorem be32_or (l : List UInt8) (k : Nat) : bits .or .u32 (bits .or .u32 (bits .or .u32 (IntKind.u32.wrap (IntKind.u32.wrap ((Sha.at8 l (4 * k)).toNat : Int) * 16777216)) (IntKind.u32.wrap (IntKind.u32.wrap ((Sha.at8 l (4 * k + 1)).toNat : Int) * 65536)))
    (IntKind.u32.wrap (IntKind.u32.wrap ((Sha.at8 l (4 * k + 2)).toNat : Int) * 256))) (IntKind.u32.wrap ((Sha.at8 l (4 * k + 3)).toNat : Int)) = ((Sha.be32 l k).toNat : Int) := by
  have h0 := (Sha.at8 l (4 * k)).toNat_lt
  have h1 := (Sha.at8 l (4 * k + 1)).toNat_lt
  have h2 := (Sha.at8 l (4 * k + 2)).toNat_lt
  have h3 := (Sha.at8 l (4 * k + 3)).toNat_lt
  rw [Sha.be32]
  generalize (Sha.at8 l (4 * k)).toNat = a at *
  generalize (Sha.at8 l (4 * k + 1)).toNat = b at *
  generalize (Sha.at8 l (4 * k + 2)).toNat = c at *
  generalize (Sha.at8 l (4 * k + 3)).toNat = d at *
  rw [wrap32 (a : Int) (by omega) (by omega), wrap32 (b : Int) (by omega) (by omega), wrap32 (c : Int) (by omega) (by omega), wrap32 (d : Int) (by omega) (by omega),
    wrap32 ((a : Int) * 16777216) (by omega) (by omega), wrap32 ((b : Int) * 65536) (by omega) (by omega), wrap32 ((c : Int) * 256) (by omega) (by omega)]
  have o1 : a * 16777216 ||| b * 65536 = a * 16777216 + b * 65536 := by
    have h := Nat.two_pow_add_eq_or_of_lt (i := 24) (b := b * 65536) (by omega) a
    simp only [Nat.reducePow] at h
    rw [Nat.mul_comm a, ← h]
  have o2 : (a * 16777216 + b * 65536) ||| c * 256 = a * 16777216 + b * 65536 + c * 256 := by
    have h := Nat.two_pow_add_eq_or_of_lt (i := 16) (b := c * 256) (by omega) (a * 256 + b)
    simp only [Nat.reducePow] at h
    have e : a * 16777216 + b * 65536 = 65536 * (a * 256 + b) := by omega
    rw [e, ← h]
  have o3 : (a * 16777216 + b * 65536 + c * 256) ||| d = a * 16777216 + b * 65536 + c * 256 + d := by
    have h := Nat.two_pow_add_eq_or_of_lt (i := 8) (b := d) (by omega) (a * 65536 + b * 256 + c)
    simp only [Nat.reducePow] at h
    have e : a * 16777216 + b * 65536 + c * 256 = 256 * (a * 65536 + b * 256 + c) := by omega
    rw [e, ← h]
  have i1 : ((a : Int) * 16777216) = ((a * 16777216 : Nat) : Int) := by simp
  have i2 : ((b : Int) * 65536) = ((b * 65536 : Nat) : Int) := by simp
  have i3 : ((c : Int) * 256) = ((c * 256 : Nat) : Int) := by simp
  rw [i1, i2, i3, u32_or_nat _ _ (by omega) (by omega), o1, u32_or_nat _ _ (by omega) (by omega), o2, u32_or_nat _ _ (by omega) (by omega), o3, BitVec.toNat_ofNat]
  omega

theorem wArr_size (l : List UInt8) (k : Nat) : (Tryz.prog.info? 143).map (·.size) = some (wArr l k).size := by
  rw [wArr, arr_size]
  exact arr64_size
theorem arr_one (f : Nat → Value) (n : Nat) (h : ∀ i, i < n → (f i).oneCell' = true) : (arr f n).all (·.oneCell') = true := by
  rw [Array.all_eq_true_iff_forall_mem]
  intro v hv
  obtain ⟨i, hi, rfl⟩ := Array.mem_iff_getElem.1 hv
  simp [arr] at hi ⊢
  exact h i hi
theorem wArr_one (l : List UInt8) (k : Nat) : (wArr l k).all (·.oneCell') = true :=
  arr_one _ _ fun i _ => by
    split <;> rfl
theorem wArr_all (l : List UInt8) : wArr l 64 = arr (fun j => Sha.uv (Sha.W l j)) 64 := arr_congr fun i h => by rw [if_pos h]
theorem s0_w (x : Sha.U) : bits .xor .u32 (bits .xor .u32 ((Sha.rot x 7).toNat : Int) ((Sha.rot x 18).toNat : Int)) ((x.toNat : Int) / 8) = ((Sha.s0 x).toNat : Int) := by
  have h := Sha.shr_w x 3
  simp only [Nat.reducePow, Int.cast_ofNat_Int] at h
  rw [h, Sha.xor_w, Sha.xor_w]
  rfl
theorem s1_w (x : Sha.U) : bits .xor .u32 (bits .xor .u32 ((Sha.rot x 17).toNat : Int) ((Sha.rot x 19).toNat : Int)) ((x.toNat : Int) / 1024) = ((Sha.s1 x).toNat : Int) := by
  have h := Sha.shr_w x 10
  simp only [Nat.reducePow, Int.cast_ofNat_Int] at h
  rw [h, Sha.xor_w, Sha.xor_w]
  rfl
theorem sum4 (a b c d : Sha.U) : ((a.toNat : Int) + b.toNat + c.toNat + d.toNat) % 4294967296 = ((a + b + c + d).toNat : Int) := by
  simp only [BitVec.toNat_add]
  omega

theorem sum4w (a b c d : Sha.U) : IntKind.u32.wrap (IntKind.u32.wrap (IntKind.u32.wrap ((a.toNat : Int) + b.toNat) + c.toNat) + d.toNat) = ((a + b + c + d).toNat : Int) := by
  have h : ∀ x y : Sha.U, IntKind.u32.wrap ((x.toNat : Int) + y.toNat) = ((x + y).toNat : Int) := fun x y => by
    rw [← Sha.add_w]
    simp [IntKind.wrap, IntKind.signed, IntKind.bits]
  rw [h, h, h]

theorem sched_world (w : World) (l : List UInt8) (W : World) (hW : ((w.alloc (.cells (blk l) 130)).alloc (.cells zCells 143)).alloc (.cells zCells 143) = W) :
    Row W w.heap.size 130 (blk l) ∧ Row W (w.heap.size + 1) 143 zCells ∧ Row W (w.heap.size + 1 + 1) 143 (wArr l 0) ∧ Below w.heap.size w W := by
  subst hW
  have h2 := (Row.new (w.alloc (.cells (blk l) 130)) 143 zCells).alloc (.cells zCells 143)
  have h3 := Row.new ((w.alloc (.cells (blk l) 130)).alloc (.cells zCells 143)) 143 zCells
  simp only [World.size_alloc] at h2 h3
  exact ⟨((Row.new w 130 (blk l)).alloc _).alloc _, h2, (zCells_eq l) ▸ h3, (((Below.refl _ w).alloc (Nat.le_refl _) _).alloc (by simp) _).alloc (by simp; omega) _⟩

set_option maxRecDepth 100000 in
set_option maxHeartbeats 4000000 in
theorem schedule_at (l : List UInt8) (hl : l.length = 64) (w : World) : Calls Tryz.prog 97 #[.agg (blk l)] w fun e w' => e = .returned (.agg (arr (fun j => Sha.uv (Sha.W l j)) 64)) ∧ Below w.heap.size w w' := by
  go_enter Tryz.func97, Tryz.ntmps97
  go_wp2_with fail
  generalize hW : ((w.alloc _).alloc _).alloc _ = W0
  obtain ⟨q1, q2, q3, hb0⟩ := sched_world w l W0 hW
  clear hW
  go_loopw [10] (fun p wr => ∃ k : Nat, k ≤ 16 ∧ p = .int .i64 k ∧ Row wr w.heap.size 130 (blk l) ∧ Row wr (w.heap.size + 1) 143 zCells ∧ Row wr (w.heap.size + 1 + 1) 143 (wArr l k) ∧ Below w.heap.size w wr) (fun p _ => 16 - (intOf p).toNat)
  case atStart => exact ⟨0, Nat.zero_le _, rfl, q1, q2, q3, hb0⟩
  case round =>
    obtain ⟨k, hk, rfl, r1, r2, r3, hb⟩ := hrel
    go_wp2_with fail
    · have hk16 : k < 16 := by
        have : (k : Int) < 16 := by assumption
        omega
      have e0 := wrap_id (4 * (k : Int)) (by omega) (by omega)
      have e1 := wrap_id (4 * (k : Int) + 1) (by omega) (by omega)
      have e2 := wrap_id (4 * (k : Int) + 2) (by omega) (by omega)
      have e3 := wrap_id (4 * (k : Int) + 3) (by omega) (by omega)
      have a0 : (0 : Int) ≤ 4 * (k : Int) := by omega
      have a1 : (0 : Int) ≤ 4 * (k : Int) + 1 := by omega
      have a2 : (0 : Int) ≤ 4 * (k : Int) + 2 := by omega
      have a3 : (0 : Int) ≤ 4 * (k : Int) + 3 := by omega
      have b0 : 4 * (k : Int) < 64 := by omega
      have b1 : 4 * (k : Int) + 1 < 64 := by omega
      have b2 : 4 * (k : Int) + 2 < 64 := by omega
      have b3 : 4 * (k : Int) + 3 < 64 := by omega
      have b4 : (k : Int) < 64 := by omega
      have t0 : (4 * (k : Int)).toNat = 4 * k := by omega
      have t1 : (4 * (k : Int) + 1).toNat = 4 * k + 1 := by omega
      have t2 : (4 * (k : Int) + 2).toNat = 4 * k + 2 := by omega
      have t3 : (4 * (k : Int) + 3).toNat = 4 * k + 3 := by omega
      have c0 : wr.cell? ⟨w.heap.size, 4 * k, none⟩ = some (Sha.bv (Sha.at8 l (4 * k))) := (r1.cell _).trans (blk_get l _ (by omega))
      have c1 : wr.cell? ⟨w.heap.size, 4 * k + 1, none⟩ = some (Sha.bv (Sha.at8 l (4 * k + 1))) := (r1.cell _).trans (blk_get l _ (by omega))
      have c2 : wr.cell? ⟨w.heap.size, 4 * k + 2, none⟩ = some (Sha.bv (Sha.at8 l (4 * k + 2))) := (r1.cell _).trans (blk_get l _ (by omega))
      have c3 : wr.cell? ⟨w.heap.size, 4 * k + 3, none⟩ = some (Sha.bv (Sha.at8 l (4 * k + 3))) := (r1.cell _).trans (blk_get l _ (by omega))
      have c4 : wr.cell? ⟨w.heap.size + 1 + 1, k, none⟩ = some (.int .u32 0) := (r3.cell _).trans ((wArr_get l k k (by omega)).trans (by simp))
      have f4 := r3.frozen k
      go_still_tail 31, (by kernel_rfl)
      change wpList _ _ _ _ _ wr.drew
      rw [be32_or, ← Sha.W_lt l k hk16]
      clear e0 e1 e2 e3 a0 a1 a2 a3 b0 b1 b2 b3 t0 t1 t2 t3 c0 c1 c2 c3
      have R3 := (r3.drew).store k (Sha.uv (Sha.W l k))
      rw [wArr_set] at R3
      have R1 := (r1.drew).other ⟨w.heap.size + 1 + 1, k, none⟩ (Sha.uv (Sha.W l k)) (by simp; omega)
      have R2 := (r2.drew).other ⟨w.heap.size + 1 + 1, k, none⟩ (Sha.uv (Sha.W l k)) (by simp)
      have HB := (hb.drew).setCell (p := ⟨w.heap.size + 1 + 1, k, none⟩) (by simp; omega) (Sha.uv (Sha.W l k))
      go_wp2_with fail
      go_roundw
      case rel => exact ⟨k + 1, by omega, by go_num, R1, R2, R3, HB⟩
      case measure => simp [intOf]; omega
    · have hk16 : k = 16 := by
        have : (16 : Int) ≤ (k : Int) := by assumption
        omega
      subst hk16
      clear q1 q2 q3 hb0
      go_wp2_with fail
      simp only [Int.cast_ofNat_Int, Int.lt_irrefl, decide_false]
      go_loopw [5] (fun p wr => ∃ k : Nat, 16 ≤ k ∧ k ≤ 64 ∧ p = .int .i64 k ∧ Row wr (w.heap.size + 1) 143 zCells ∧ Row wr (w.heap.size + 1 + 1) 143 (wArr l k) ∧ Below w.heap.size w wr) (fun p _ => 64 - (intOf p).toNat)
      case atStart => exact ⟨16, by omega, by omega, rfl, r2, r3, hb⟩
      case round =>
        obtain ⟨k, hk1, hk2, rfl, r2, r3, hb⟩ := hrel
        iterate 14 go_step
        · have hk64 : k < 64 := by
            have : (k : Int) < 64 := by assumption
            omega
          have e15 := wrap_id ((k : Int) - 15) (by omega) (by omega)
          have e2 := wrap_id ((k : Int) - 2) (by omega) (by omega)
          have e7 := wrap_id ((k : Int) - 7) (by omega) (by omega)
          have e16 := wrap_id ((k : Int) - 16) (by omega) (by omega)
          have a15 : (0 : Int) ≤ (k : Int) - 15 := by omega
          have a2 : (0 : Int) ≤ (k : Int) - 2 := by omega
          have a7 : (0 : Int) ≤ (k : Int) - 7 := by omega
          have a16 : (0 : Int) ≤ (k : Int) - 16 := by omega
          have b15 : (k : Int) - 15 < 64 := by omega
          have b2 : (k : Int) - 2 < 64 := by omega
          have b7 : (k : Int) - 7 < 64 := by omega
          have b16 : (k : Int) - 16 < 64 := by omega
          have b0 : (k : Int) < 64 := by omega
          have t15 : ((k : Int) - 15).toNat = k - 15 := by omega
          have t2 : ((k : Int) - 2).toNat = k - 2 := by omega
          have t7 : ((k : Int) - 7).toNat = k - 7 := by omega
          have t16 : ((k : Int) - 16).toNat = k - 16 := by omega
          have c15 : wr.cell? ⟨w.heap.size + 1 + 1, k - 15, none⟩ = some (Sha.uv (Sha.W l (k - 15))) := (r3.cell _).trans ((wArr_get l k _ (by omega)).trans (by rw [if_pos (by omega)]))
          have c2 : wr.cell? ⟨w.heap.size + 1 + 1, k - 2, none⟩ = some (Sha.uv (Sha.W l (k - 2))) := (r3.cell _).trans ((wArr_get l k _ (by omega)).trans (by rw [if_pos (by omega)]))
          have c7 : wr.cell? ⟨w.heap.size + 1 + 1, k - 7, none⟩ = some (Sha.uv (Sha.W l (k - 7))) := (r3.cell _).trans ((wArr_get l k _ (by omega)).trans (by rw [if_pos (by omega)]))
          have c16 : wr.cell? ⟨w.heap.size + 1 + 1, k - 16, none⟩ = some (Sha.uv (Sha.W l (k - 16))) := (r3.cell _).trans ((wArr_get l k _ (by omega)).trans (by rw [if_pos (by omega)]))
          have c0 : wr.cell? ⟨w.heap.size + 1 + 1, k, none⟩ = some (.int .u32 0) := (r3.cell _).trans ((wArr_get l k k (by omega)).trans (by simp))
          have f0 := r3.frozen k
          go_wp2_with fail
          go_quiet (fail)
          go_wp2_with (go_at_call 103; refine (rotk _ _ (by decide) _).mono ?_; rintro e w1 ⟨rfl, rfl⟩)
          rw [s0_w, s1_w]
          have R3 := Lib.hid (r3.drewN nq)
          have R2 := Lib.hid (r2.drewN nq)
          have HB := Lib.hid (below_drewN hb nq)
          generalize wr.drewN nq = w2 at *
          clear c15 c2 c7 c16 c0 f0 r2 r3 hb
          have c7 : w2.cell? ⟨w.heap.size + 1 + 1, k - 7, none⟩ = some (Sha.uv (Sha.W l (k - 7))) := (R3.out.cell _).trans ((wArr_get l k _ (by omega)).trans (by rw [if_pos (by omega)]))
          have c16 : w2.cell? ⟨w.heap.size + 1 + 1, k - 16, none⟩ = some (Sha.uv (Sha.W l (k - 16))) := (R3.out.cell _).trans ((wArr_get l k _ (by omega)).trans (by rw [if_pos (by omega)]))
          have c0 : w2.cell? ⟨w.heap.size + 1 + 1, k, none⟩ = some (.int .u32 0) := (R3.out.cell _).trans ((wArr_get l k k (by omega)).trans (by simp))
          have f0 := R3.out.frozen k
          have n7 : (7 : Int) ≤ (k : Int) := by omega
          have n16 : (16 : Int) ≤ (k : Int) := by omega
          have m7 : (k : Int) < 71 := by omega
          have m16 : (k : Int) < 80 := by omega
          go_still_tail 15, (by kernel_rfl)
          change wpList _ _ _ _ _ w2.drew
          rw [sum4w, ← Sha.W_ge l k hk1]
          clear e15 e2 e7 e16 a15 a2 a7 a16 b15 b2 b7 b16 b0 t15 t2 t7 t16 c7 c16 n7 n16 m7 m16
          have S3 := (R3.out.drew).store k (Sha.uv (Sha.W l k))
          rw [wArr_set] at S3
          have S2 := (R2.out.drew).other ⟨w.heap.size + 1 + 1, k, none⟩ (Sha.uv (Sha.W l k)) (by simp)
          have SB := (HB.out.drew).setCell (p := ⟨w.heap.size + 1 + 1, k, none⟩) (by simp; omega) (Sha.uv (Sha.W l k))
          clear R3 R2 HB
          go_wp2_with fail
          go_roundw
          case rel => exact ⟨k + 1, by omega, by omega, by go_num, S2, S3, SB⟩
          case measure => simp [intOf]; omega
        · have hk64 : k = 64 := by
            have : (64 : Int) ≤ (k : Int) := by assumption
            omega
          subst hk64
          iterate 7 go_step
          refine wpList_load_row rfl 143 (.tmp 3) rfl _ rfl 143 (wArr l 64) (0, 0) _ r3 Tryz.underlying143 rfl (wArr_size l 64) ?_
          refine wpList_store_row rfl 143 (.tmp 2) _ rfl (w.heap.size + 1) (wArr l 64) rfl rfl 143 zCells r2 (wArr_size l 64) (by rw [wArr, arr_size]; rfl) (wArr_one l 64) ?_
          go_wp2_with fail
          refine bodyPost_ret (results_cell_row Tryz.results97 _ _ _ _ _ _ _ rfl (r2.setRow (wArr l 64)) Tryz.underlying143 rfl (wArr_size l 64)) rfl ⟨by rw [wArr_all], below_setRow hb (by omega) _⟩
end Go.Proofs.YtfahbdakhbpfcaaGreat
