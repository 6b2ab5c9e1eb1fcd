/-
  Mix: WALK: sha.Mix: one block of SHA-256; conditions: the block has 64 bytes.
-/
import Derived.Test.YtfahbdakhbpfcaaGreatM5
namespace Go.Proofs.YtfahbdakhbpfcaaGreat
open Go.RowKit

theorem blk_info (l : List UInt8) (hl : l.length = 64) : (Tryz.prog.info? 130).map (·.size) = some (blk l).size := by
  rw [blk_size, hl]
  kernel_rfl
def z8 : Array Value := #[.int .u32 0, .int .u32 0, .int .u32 0, .int .u32 0, .int .u32 0, .int .u32 0, .int .u32 0, .int .u32 0]
theorem warr_info (l : List UInt8) : (Tryz.prog.info? 143).map (·.size) = some (arr (fun j => Sha.uv (Sha.W l j)) 64).size := by
  rw [arr_size]
  exact arr64_size
theorem warr_one (l : List UInt8) : (arr (fun j => Sha.uv (Sha.W l j)) 64).all (·.oneCell') = true := arr_one _ _ fun _ _ => rfl
theorem kCells_one : kCells.all (·.oneCell') = true := by kernel_rfl

theorem cells_one (s : Sha.St) : s.cells.all (·.oneCell') = true := by simp [Sha.St.cells, Value.oneCell']
theorem addw (x y : Sha.U) : IntKind.u32.wrap ((x.toNat : Int) + y.toNat) = ((x + y).toNat : Int) := by
  rw [← Sha.add_w]
  simp [IntKind.wrap, IntKind.signed, IntKind.bits]
def stAt (s : Sha.St) : Nat → Sha.U
  | 0 => s.a
  | 1 => s.b
  | 2 => s.c
  | 3 => s.d
  | 4 => s.e
  | 5 => s.f
  | 6 => s.g
  | _ => s.h
theorem cells_at (s : Sha.St) : s.cells = arr (fun i => Sha.uv (stAt s i)) 8 := rfl
/-- the words so far added -/
def hArr (s x : Sha.St) (k : Nat) : Array Value := arr (fun i => if i < k then Sha.uv (stAt s i + stAt x i) else Sha.uv (stAt s i)) 8
theorem hArr_zero (s x : Sha.St) : s.cells = hArr s x 0 := rfl
theorem hArr_all (s x : Sha.St) : hArr s x 8 = (Sha.add s x).cells := rfl
theorem hArr_set (s x : Sha.St) (k : Nat) : (hArr s x k).setIfInBounds k (Sha.uv (stAt s k + stAt x k)) = hArr s x (k + 1) := by
  unfold hArr
  rw [arr_set]
  refine arr_congr fun j _ => ?_
  by_cases h : j = k
  · subst h
    simp
  · by_cases h2 : j < k
    · have h3 : j < k + 1 := by omega
      simp [h, h2, h3]
    · have h3 : ¬ j < k + 1 := by omega
      simp [h, h2, h3]

/-- the world in which both tables are laid -/
theorem mix_world (w : World) (s : Sha.St) (l : List UInt8) (w1 w2 : World) (hb1 : Below (w.heap.size + 3) (((w.alloc (.cells s.cells 128)).alloc (.cells (blk l) 130)).alloc (.cells z8 128)) w1)
    (hb2 : Below w1.heap.size w1 w2) (W : World) (hW : (((w2.alloc (.cells zCells 143)).alloc (.cells zCells 143)).setRow w2.heap.size (arr (fun j => Sha.uv (Sha.W l j)) 64)).setRow (w2.heap.size + 1) kCells = W) :
    w.heap.size + 3 ≤ w2.heap.size ∧ Row W w.heap.size 128 s.cells ∧ Row W (w.heap.size + 1 + 1) 128 z8 ∧ Row W w2.heap.size 143 (arr (fun j => Sha.uv (Sha.W l j)) 64) ∧
    Row W (w2.heap.size + 1) 143 kCells ∧ Below w.heap.size w W ∧ W.heap.size = w2.heap.size + 2 := by
  have h1 := hb1.size
  have h2 := hb2.size
  simp only [World.size_alloc] at h1
  have hle : w.heap.size + 3 ≤ w2.heap.size := by omega
  have rA := (((Row.new w 128 s.cells).alloc (.cells (blk l) 130)).alloc (.cells z8 128)).below hb1 (by omega)
  have rR := Row.new ((w.alloc (.cells s.cells 128)).alloc (.cells (blk l) 130)) 128 z8
  simp only [World.size_alloc] at rR
  have rR := rR.below hb1 (by omega)
  have rA := rA.below hb2 (by omega)
  have rR := rR.below hb2 (by omega)
  have hb3 : Below w.heap.size w w2 := (((((Below.refl _ w).alloc (Nat.le_refl _) _).alloc (by simp) _).alloc (by simp; omega) _).trans (hb1.mono (by omega))).trans (hb2.mono (by omega))
  have rW := (Row.new w2 143 zCells).alloc (.cells zCells 143)
  have rK := Row.new (w2.alloc (.cells zCells 143)) 143 zCells
  simp only [World.size_alloc] at rK
  subst hW
  refine ⟨hle, ?_, ?_, ?_, ?_, ?_, by simp⟩
  · exact (((rA.alloc _).alloc _).setRow_other _ (by omega)).setRow_other _ (by omega)
  · exact (((rR.alloc _).alloc _).setRow_other _ (by omega)).setRow_other _ (by omega)
  · exact (rW.setRow _).setRow_other _ (by omega)
  · exact (rK.setRow_other _ (by omega)).setRow _
  · exact below_setRow (below_setRow ((hb3.alloc (by omega) _).alloc (by simp; omega) _) (by omega) _) (by omega) _

set_option maxRecDepth 100000 in
set_option maxHeartbeats 4000000 in
theorem mix_at (s : Sha.St) (l : List UInt8) (hl : l.length = 64) (w : World) : Calls Tryz.prog 87 #[.agg #[Sha.uv s.a, Sha.uv s.b, Sha.uv s.c, Sha.uv s.d, Sha.uv s.e, Sha.uv s.f, Sha.uv s.g, Sha.uv s.h], .agg (blk l)] w fun e w' => e = .returned (.agg (Sha.mix s l).cells) ∧ Below w.heap.size w w' := by
  have r2 := (Row.new (w.alloc (.cells s.cells 128)) 130 (blk l)).alloc (.cells z8 128)
  simp only [World.size_alloc] at r2
  go_enter Tryz.func87, Tryz.ntmps87
  iterate 17 go_step
  refine wpList_load_row rfl 130 (.tmp 3) rfl (w.heap.size + 1) rfl 130 (blk l) (0, 0) _ r2 Tryz.underlying130 rfl (blk_info l hl) ?_
  clear r2
  go_wp2_with fail
  refine (schedule_at l hl _).mono ?_
  rintro e w1 ⟨rfl, hb1⟩
  simp only [World.size_alloc] at hb1
  go_wp2_with fail
  refine (constants_at _).mono ?_
  rintro e w2 ⟨rfl, hb2⟩
  dsimp only
  iterate 7 go_step
  have ra := (Row.new w2 143 zCells).alloc (.cells zCells 143)
  have rb := Row.new (w2.alloc (.cells zCells 143)) 143 zCells
  simp only [World.size_alloc] at rb
  refine wpList_store_row rfl 143 (.tmp 5) _ rfl w2.heap.size (arr (fun j => Sha.uv (Sha.W l j)) 64) rfl rfl 143 zCells ra (warr_info l) (by rw [arr_size]; rfl) (warr_one l) ?_
  refine wpList_store_row rfl 143 (.tmp 6) _ rfl (w2.heap.size + 1) kCells rfl rfl 143 zCells (rb.setRow_other _ (by omega)) arr64_size rfl kCells_one ?_
  clear ra rb
  generalize hW : ((((w2.alloc _).alloc _).setRow _ _).setRow _ _) = W
  obtain ⟨hle, rA, rR, rW, rK, hb, hsz⟩ := mix_world w s l w1 w2 hb1 hb2 W hW
  clear hW hb1 hb2
  have a0 : W.cell? ⟨w.heap.size, 0, none⟩ = some (Sha.uv s.a) := rA.cell 0
  have a1 : W.cell? ⟨w.heap.size, 1, none⟩ = some (Sha.uv s.b) := rA.cell 1
  have a2 : W.cell? ⟨w.heap.size, 2, none⟩ = some (Sha.uv s.c) := rA.cell 2
  have a3 : W.cell? ⟨w.heap.size, 3, none⟩ = some (Sha.uv s.d) := rA.cell 3
  have a4 : W.cell? ⟨w.heap.size, 4, none⟩ = some (Sha.uv s.e) := rA.cell 4
  have a5 : W.cell? ⟨w.heap.size, 5, none⟩ = some (Sha.uv s.f) := rA.cell 5
  have a6 : W.cell? ⟨w.heap.size, 6, none⟩ = some (Sha.uv s.g) := rA.cell 6
  have a7 : W.cell? ⟨w.heap.size, 7, none⟩ = some (Sha.uv s.h) := rA.cell 7
  go_wp2_with fail
  clear a0 a1 a2 a3 a4 a5 a6 a7
  have rX : Row (W.alloc (.cells s.cells 128)) (w2.heap.size + 2) 128 s.cells := by
    have h := Row.new W 128 s.cells
    rw [hsz] at h
    exact h
  have rA := rA.alloc (.cells s.cells 128)
  have rR := rR.alloc (.cells s.cells 128)
  have rW := rW.alloc (.cells s.cells 128)
  have rK := rK.alloc (.cells s.cells 128)
  have hb := hb.alloc hb.size (.cells s.cells 128)
  generalize hW : W.alloc _ = W0
  have hW' : W.alloc (.cells s.cells 128) = W0 := hW
  rw [hW'] at rX rA rR rW rK hb
  clear hW hW' hsz
  go_loopw [14] (fun p wr => ∃ k : Nat, k ≤ 64 ∧ p = .int .i64 k ∧ Row wr w.heap.size 128 s.cells ∧ Row wr (w.heap.size + 1 + 1) 128 z8 ∧ Row wr w2.heap.size 143 (arr (fun j => Sha.uv (Sha.W l j)) 64) ∧ Row wr (w2.heap.size + 1) 143 kCells ∧ (∃ x : Sha.St, x = Sha.rounds l s k ∧ Row wr (w2.heap.size + 2) 128 x.cells) ∧ Below w.heap.size w wr) (fun p _ => 64 - (intOf p).toNat)
  case atStart => exact ⟨0, Nat.zero_le _, rfl, rA, rR, rW, rK, ⟨s, rfl, rX⟩, hb⟩
  case round =>
    clear rA rR rW rK rX hb
    obtain ⟨k, hk, rfl, rA, rR, rW, rK, ⟨st, hst, rX⟩, hb⟩ := hrel
    have HS := Lib.hid hst
    clear hst
    iterate 14 go_step
    · have hk64 : k < 64 := by
        have : (k : Int) < 64 := by assumption
        omega
      have hx := hb.size
      have cK : wr.cell? ⟨w2.heap.size + 1, k, none⟩ = some (Sha.uv (Sha.K k)) := (rK.cell k).trans (by rw [kCells_eq]; exact arr_get _ _ _ hk64)
      have cW : wr.cell? ⟨w2.heap.size, k, none⟩ = some (Sha.uv (Sha.W l k)) := (rW.cell k).trans (arr_get _ _ _ hk64)
      have a0 : wr.cell? ⟨w2.heap.size + 2, 0, none⟩ = some (Sha.uv st.a) := rX.cell 0
      have a1 : wr.cell? ⟨w2.heap.size + 2, 1, none⟩ = some (Sha.uv st.b) := rX.cell 1
      have a2 : wr.cell? ⟨w2.heap.size + 2, 2, none⟩ = some (Sha.uv st.c) := rX.cell 2
      have a3 : wr.cell? ⟨w2.heap.size + 2, 3, none⟩ = some (Sha.uv st.d) := rX.cell 3
      have a4 : wr.cell? ⟨w2.heap.size + 2, 4, none⟩ = some (Sha.uv st.e) := rX.cell 4
      have a5 : wr.cell? ⟨w2.heap.size + 2, 5, none⟩ = some (Sha.uv st.f) := rX.cell 5
      have a6 : wr.cell? ⟨w2.heap.size + 2, 6, none⟩ = some (Sha.uv st.g) := rX.cell 6
      have a7 : wr.cell? ⟨w2.heap.size + 2, 7, none⟩ = some (Sha.uv st.h) := rX.cell 7
      have b0 : (k : Int) < 64 := by omega
      go_wp2_with fail
      go_still_tail 8, (by kernel_rfl)
      change wpList _ _ _ _ _ wr.drew
      rw [addw]
      clear a0 a1 a2 a3 a4 a5 a6 a7 cK cW b0
      go_wp2_with fail
      rw [Sha.add_w]
      have lX := rX.lt
      have lA := rA.lt
      have lR := rR.lt
      have lW := rW.lt
      have lK := rK.lt
      refine (round_at st (Sha.K k + Sha.W l k) _).mono ?_
      rintro e w3 ⟨rfl, hb3⟩
      have hb3 : Below wr.heap.size wr.drew w3 := hb3
      dsimp only
      iterate 1 go_step
      have sX := rX.drew.below hb3 lX
      have hst' : Sha.rounds l s (k + 1) = Sha.step st (Sha.K k + Sha.W l k) := by rw [HS.out]; rfl
      refine wpList_store_row rfl 128 (.tmp 7) _ rfl (w2.heap.size + 2) (Sha.step st (Sha.K k + Sha.W l k)).cells rfl rfl 128 st.cells sX arr8_size rfl (cells_one _) ?_
      have tX := sX.setRow (Sha.step st (Sha.K k + Sha.W l k)).cells
      have tA := (rA.drew.below hb3 lA).setRow_other (Sha.step st (Sha.K k + Sha.W l k)).cells (g := w2.heap.size + 2) (by omega)
      have tR := (rR.drew.below hb3 lR).setRow_other (Sha.step st (Sha.K k + Sha.W l k)).cells (g := w2.heap.size + 2) (by omega)
      have tW := (rW.drew.below hb3 lW).setRow_other (Sha.step st (Sha.K k + Sha.W l k)).cells (g := w2.heap.size + 2) (by omega)
      have tK := (rK.drew.below hb3 lK).setRow_other (Sha.step st (Sha.K k + Sha.W l k)).cells (g := w2.heap.size + 2) (by omega)
      have tb := below_setRow (hb.drew.trans (hb3.mono hb.size)) (b := w2.heap.size + 2) (by omega) (Sha.step st (Sha.K k + Sha.W l k)).cells
      clear rX rA rR rW rK hb hb3 sX
      go_wp2_with fail
      go_roundw
      case rel => exact ⟨k + 1, by omega, by go_num, tA, tR, tW, tK, ⟨_, hst'.symm, tX⟩, tb⟩
      case measure => simp [intOf]; omega
    · have hk64 : k = 64 := by
        have : (64 : Int) ≤ (k : Int) := by assumption
        omega
      subst hk64
      clear rW rK
      go_wp2_with fail
      simp only [Int.cast_ofNat_Int, Int.lt_irrefl, decide_false]
      go_loopw [27] (fun p wr => ∃ k : Nat, k ≤ 8 ∧ p = .int .i64 k ∧ Row wr w.heap.size 128 (hArr s st k) ∧ Row wr (w.heap.size + 1 + 1) 128 z8 ∧ Row wr (w2.heap.size + 2) 128 st.cells ∧ Below w.heap.size w wr) (fun p _ => 8 - (intOf p).toNat)
      case atStart => exact ⟨0, Nat.zero_le _, rfl, rA, rR, rX, hb⟩
      case round =>
        clear rA rR rX hb
        obtain ⟨k, hk, rfl, rA, rR, rX, hb⟩ := hrel
        iterate 14 go_step
        · have hk8 : k < 8 := by
            have : (k : Int) < 8 := by assumption
            omega
          have c1 : wr.cell? ⟨w.heap.size, k, none⟩ = some (Sha.uv (stAt s k)) := (rA.cell k).trans ((arr_get _ _ _ hk8).trans (by simp))
          have c2 : wr.cell? ⟨w2.heap.size + 2, k, none⟩ = some (Sha.uv (stAt st k)) := (rX.cell k).trans (by rw [cells_at]; exact arr_get _ _ _ hk8)
          have b0 : (k : Int) < 8 := by omega
          have f1 := rA.frozen k
          go_wp2_with fail
          go_still_tail 8, (by kernel_rfl)
          change wpList _ _ _ _ _ wr.drew
          rw [addw]
          have tA := rA.drew.store k (Sha.uv (stAt s k + stAt st k))
          rw [hArr_set] at tA
          have tR := rR.drew.other ⟨w.heap.size, k, none⟩ (Sha.uv (stAt s k + stAt st k)) (by simp; omega)
          have tX := rX.drew.other ⟨w.heap.size, k, none⟩ (Sha.uv (stAt s k + stAt st k)) (by simp; omega)
          have tb := hb.drew.setCell (p := ⟨w.heap.size, k, none⟩) (Nat.le_refl _) (Sha.uv (stAt s k + stAt st k))
          clear rA rR rX hb
          go_wp2_with fail
          go_roundw
          case rel => exact ⟨k + 1, by omega, by go_num, tA, tR, tX, tb⟩
          case measure => simp [intOf]; omega
        · have hk8 : k = 8 := by
            have : (8 : Int) ≤ (k : Int) := by assumption
            omega
          subst hk8
          iterate 7 go_step
          refine wpList_load_row rfl 128 (.tmp 2) rfl w.heap.size rfl 128 (hArr s st 8) (0, 0) _ rA Tryz.underlying128 rfl arr8_size ?_
          refine wpList_store_row rfl 128 (.tmp 4) _ rfl (w.heap.size + 1 + 1) (hArr s st 8) rfl rfl 128 z8 rR arr8_size rfl (by rw [hArr_all]; exact cells_one _) ?_
          go_wp2_with fail
          refine bodyPost_ret (results_cell_row Tryz.results87 _ _ _ _ _ _ _ rfl (rR.setRow (hArr s st 8)) Tryz.underlying128 rfl arr8_size) rfl ⟨?_, below_setRow hb (by omega) _⟩
          rw [hArr_all, Sha.mix, HS.out]
end Go.Proofs.YtfahbdakhbpfcaaGreat
