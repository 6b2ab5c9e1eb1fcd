/-
  Ahead: WALK: strongroomref22.ahead: which of two servers stands ahead; conditions: two servers below 2000, the index of 16 bytes.
-/
import Derived.Test.YtfahbdakhbpfcaaGreatM15
import Derived.Test.YtfahbdakhbpfcaaGreatM45
namespace Go.Proofs.YtfahbdakhbpfcaaGreat
open Go.RowKit

theorem ring05_nat (L : List UInt8) (hL : L.length = 16) (i : Nat) (hi : i < 4294967296) (w : World) :
    Calls Tryz.prog 43 #[.agg (blk L), .int .u32 (i : Int)] w fun e w' => e = .returned (.agg (blk (rD L i))) ∧ Below w.heap.size w w' := by
  rw [uv_nat i hi]
  exact ring05_at L hL _ w
theorem rd_eql (L : List UInt8) (a b : Nat) (W : World) : (binOp .eql 25 (.agg (blk (rD L a))) (.agg (blk (rD L b)))).run Tryz.prog W = .ok (.bool (rD L a == rD L b)) W := digest_eql _ _ W

set_option maxRecDepth 100000 in
set_option maxHeartbeats 2000000 in
theorem ahead_at (L : List UInt8) (hL : L.length = 16) (a b : Nat) (ha : a ≤ 2000) (hb : b ≤ 2000) (w : World) :
    Calls Tryz.prog 38 #[.agg (blk L), .int .i64 a, .int .i64 b] w fun e w' => e = .returned (.bool (aheadB L a b)) ∧ Below w.heap.size w w' := by
  have HA := Lib.hid (fun W => ring05_nat L hL a (by omega) W)
  have HB := Lib.hid (fun W => ring05_nat L hL b (by omega) W)
  have HE := Lib.hid (rd_eql L a b)
  have hres : aheadB L a b = decide (cmpK ((rD L a).map UInt8.toNat ++ [a]) ((rD L b).map UInt8.toNat ++ [b]) < 0) := rfl
  have lX := rD_len L a
  have lY := rD_len L b
  rw [hres]
  clear hres
  have HI := Lib.hid (idx_info L hL)
  clear hL
  generalize rD L a = X at *
  generalize rD L b = Y at *
  have hua : IntKind.u32.wrap (a : Int) = (a : Int) := by rw [IntKind.wrap_u32]; omega
  have hub : IntKind.u32.wrap (b : Int) = (b : Int) := by rw [IntKind.wrap_u32]; omega
  have R0 := Row.new w 23 (blk L)
  have B0 := (Below.refl w.heap.size w).alloc (Nat.le_refl _) (.cells (blk L) 23)
  go_enter Tryz.func38, Tryz.ntmps38
  go_wp2_with (refine wpList_load_row rfl 23 (.tmp 3) rfl w.heap.size rfl 23 (blk L) (0, 0) _ R0 Tryz.underlying23 rfl HI.out ?_)
  refine (HA.out _).mono ?_
  rintro e w1 ⟨rfl, hb1⟩
  have R1 := R0.below hb1 R0.lt
  have B1 := B0.trans (hb1.mono B0.size)
  clear R0 B0 hb1 hua
  have RX := Row.new w1 25 z32
  have iX := blk32_info X lX
  have iY := blk32_info Y lY
  have sX : z32.size = (blk X).size := by rw [blk_size, lX]; rfl
  have sY : z32.size = (blk Y).size := by rw [blk_size, lY]; rfl
  have lt1 := R1.lt
  have R2 := (R1.alloc (.cells z32 25)).setRow_other (blk X) (g := w1.heap.size) (by omega)
  have X2 := RX.setRow (blk X)
  have B2 := below_setRow (B1.alloc B1.size (.cells z32 25)) (b := w1.heap.size) B1.size (blk X)
  go_wp2_with (first
    | (refine wpList_store_row rfl 25 (.tmp 7) (.tmp 12) rfl w1.heap.size (blk X) rfl rfl 25 z32 RX iX sX (blk_one _) ?_)
    | (refine wpList_load_row rfl 23 (.tmp 3) rfl w.heap.size rfl 23 (blk L) (0, 0) _ R2 Tryz.underlying23 rfl HI.out ?_))
  clear RX R1 B1
  generalize hW : (w1.alloc _).setRow _ _ = W
  have hW' : (w1.alloc (.cells z32 25)).setRow w1.heap.size (blk X) = W := hW
  rw [hW'] at R2 X2 B2
  clear hW hW'
  refine (HB.out _).mono ?_
  rintro e w2 ⟨rfl, hb2⟩
  have X3 := X2.below hb2 X2.lt
  have B3 := B2.trans (hb2.mono B2.size)
  have lt3 := X3.lt
  clear R2 X2 B2 hb2 hub
  have RY := Row.new w2 25 z32
  have X4 := (X3.alloc (.cells z32 25)).setRow_other (blk Y) (g := w2.heap.size) (by omega)
  have Y4 := RY.setRow (blk Y)
  have B4 := below_setRow (B3.alloc B3.size (.cells z32 25)) (b := w2.heap.size) B3.size (blk Y)
  by_cases hxy : X = Y
  · have he : ∀ W, (binOp .eql 25 (.agg (blk X)) (.agg (blk Y))).run Tryz.prog W = .ok (.bool true) W := fun W => by rw [HE.out, hxy, beq_self_eq_true]
    have hres : decide (cmpK (X.map UInt8.toNat ++ [a]) (Y.map UInt8.toNat ++ [b]) < 0) = decide (a < b) := by
      rw [hxy, cmpK_eq, cmpK_one, decide_eq_decide]
      omega
    have HR := Lib.hid hres
    clear hres hxy
    go_wp2_with (first
      | (refine wpList_store_row rfl 25 (.tmp 8) (.tmp 16) rfl w2.heap.size (blk Y) rfl rfl 25 z32 RY iY sY (blk_one _) ?_)
      | (refine wpList_load_row rfl 25 (.tmp 7) rfl w1.heap.size rfl 25 (blk X) (0, 0) _ X4 Tryz.underlying25 rfl iX ?_)
      | (refine wpList_load_row rfl 25 (.tmp 8) rfl w2.heap.size rfl 25 (blk Y) (0, 0) _ Y4 Tryz.underlying25 rfl iY ?_))
    go_ret
    exact ⟨by rw [HR.out]; rfl, B4⟩
  · have he : ∀ W, (binOp .eql 25 (.agg (blk X)) (.agg (blk Y))).run Tryz.prog W = .ok (.bool false) W := fun W => by
      rw [HE.out, beq_eq_false_iff_ne.2 hxy]
    have HN := Lib.hid hxy
    clear hxy
    go_wp2_with (first
      | (refine wpList_store_row rfl 25 (.tmp 8) (.tmp 16) rfl w2.heap.size (blk Y) rfl rfl 25 z32 RY iY sY (blk_one _) ?_)
      | (refine wpList_load_row rfl 25 (.tmp 7) rfl w1.heap.size rfl 25 (blk X) (0, 0) _ X4 Tryz.underlying25 rfl iX ?_)
      | (refine wpList_load_row rfl 25 (.tmp 8) rfl w2.heap.size rfl 25 (blk Y) (0, 0) _ Y4 Tryz.underlying25 rfl iY ?_))
    generalize hW : (w2.alloc _).setRow _ _ = W
    have hW' : (w2.alloc (.cells z32 25)).setRow w2.heap.size (blk Y) = W := hW
    rw [hW'] at X4 Y4 B4
    clear hW hW' RY X3 B3 he
    refine wp_region_any (by kernel_rfl) ?_
    change wpAny _ _ _ _ _ _ _ W.drew
    refine wpAny_takeL (i := 0) (v := ?_) rfl (by kernel_rfl) (by kernel_rfl) (by kernel_rfl) (fun _ _ _ h => h) (Or.inl ⟨by rfl, ?_⟩) ?_
    rotate_left
    · intro w
      go_simp
      try with_reducible rfl
    simp only [Act.put, List.setIfInBounds_toArray, List.set_cons_zero, List.set_cons_succ]
    refine wpAny_takeL (i := 1) (v := ?_) rfl (by kernel_rfl) (by kernel_rfl) (by kernel_rfl) (fun _ _ _ h => h) (Or.inl ⟨by rfl, ?_⟩) ?_
    rotate_left
    · intro w
      go_simp
      try with_reducible rfl
    simp only [Act.put, List.setIfInBounds_toArray, List.set_cons_zero, List.set_cons_succ]
    refine wpAny_of_idxL [2, 3] [_, _] _ _ rfl rfl (by kernel_rfl) ?_
    have cX : ∀ k, k < 32 → W.drew.cell? ⟨w1.heap.size, k, none⟩ = some (Sha.bv (Sha.at8 X k)) := fun k hk => (X4.drew.cell k).trans (blk_get X k (by omega))
    have cY : ∀ k, k < 32 → W.drew.cell? ⟨w2.heap.size, k, none⟩ = some (Sha.bv (Sha.at8 Y k)) := fun k hk => (Y4.drew.cell k).trans (blk_get Y k (by omega))
    have B5 := B4.drew
    clear X4 Y4 B4
    generalize W.drew = V at *
    go_wp2_with fail
    refine (less_at w1.heap.size w2.heap.size X Y a b V lX lY HN.out cX cY).mono ?_
    rintro e w3 ⟨rfl, q, rfl⟩
    clear cX cY
    go_wp2_with fail
    go_ret
    exact ⟨rfl, B5.trans ⟨rfl, rfl, rfl, Nat.le_refl _, fun _ _ => rfl⟩⟩
end Go.Proofs.YtfahbdakhbpfcaaGreat
