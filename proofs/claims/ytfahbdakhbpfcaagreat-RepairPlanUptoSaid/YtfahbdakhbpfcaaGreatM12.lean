/-
  Mix02: WALK: strongroomref02.Mix: one block, the document's; conditions: the block has 64 bytes.
-/
import Derived.Test.YtfahbdakhbpfcaaGreatM11
namespace Go.Proofs.YtfahbdakhbpfcaaGreat
open Go.RowKit

theorem mix02_world (w : World) (s : Sha.St) (l : List UInt8) (w1 w2 : World) (hb1 : Below (w.heap.size + 3) (((w.alloc (.cells s.cells 128)).alloc (.cells (blk l) 130)).alloc (.cells z8 128)) w1)
    (hb2 : Below (w1.heap.size + 1) (w1.alloc (.cells (arr (fun j => Sha.uv (Sha.W l j)) 64) 143)) w2) (W : World) (hW : w2.alloc (.cells kCells 143) = W) :
    w.heap.size + 3 ≤ w1.heap.size ∧ w1.heap.size + 1 ≤ w2.heap.size ∧ Row W w.heap.size 128 s.cells ∧ Row W (w.heap.size + 1 + 1) 128 z8 ∧ Row W w1.heap.size 143 (arr (fun j => Sha.uv (Sha.W l j)) 64) ∧
    Row W w2.heap.size 143 kCells ∧ Below w.heap.size w W ∧ W.heap.size = w2.heap.size + 1 := by
  have h1 := hb1.size
  have h2 := hb2.size
  simp only [World.size_alloc] at h1 h2
  have hle : w.heap.size + 3 ≤ w1.heap.size := by omega
  have rA := (((Row.new w 128 s.cells).alloc (.cells (blk l) 130)).alloc (.cells z8 128)).below hb1 (by omega)
  have rR := Row.new ((w.alloc (.cells s.cells 128)).alloc (.cells (blk l) 130)) 128 z8
  simp only [World.size_alloc] at rR
  have rR := rR.below hb1 (by omega)
  have rA := (rA.alloc _).below hb2 (by omega)
  have rR := (rR.alloc _).below hb2 (by omega)
  have rW := (Row.new w1 143 (arr (fun j => Sha.uv (Sha.W l j)) 64)).below hb2 (by omega)
  have hb3 : Below w.heap.size w w2 := ((((((Below.refl _ w).alloc (Nat.le_refl _) _).alloc (by simp) _).alloc (by simp; omega) _).trans (hb1.mono (by omega))).alloc (by omega) _).trans (hb2.mono (by omega))
  subst hW
  exact ⟨hle, h2, rA.alloc _, rR.alloc _, rW.alloc _, Row.new _ _ _, hb3.alloc (by omega) _, by simp⟩

/-- eight cells stored, one by one -/
def set8 (w : World) (g : Nat) (v0 v1 v2 v3 v4 v5 v6 v7 : Value) : World := ((((((((w.setCell ⟨g, 0, none⟩ v0).setCell ⟨g, 1, none⟩ v1).setCell ⟨g, 2, none⟩ v2).setCell ⟨g, 3, none⟩ v3).setCell ⟨g, 4, none⟩ v4).setCell ⟨g, 5, none⟩ v5).setCell ⟨g, 6, none⟩ v6).setCell ⟨g, 7, none⟩ v7)
theorem Row.others8 {w : World} {b : Nat} {t : TypeId} {cs : Array Value} (h : Row w b t cs) (g : Nat) (v0 v1 v2 v3 v4 v5 v6 v7 : Value) (hne : b ≠ g) : Row (set8 w g v0 v1 v2 v3 v4 v5 v6 v7) b t cs := ((((((((h.other ⟨g, 0, none⟩ v0 hne).other ⟨g, 1, none⟩ v1 hne).other ⟨g, 2, none⟩ v2 hne).other ⟨g, 3, none⟩ v3 hne).other ⟨g, 4, none⟩ v4 hne).other ⟨g, 5, none⟩ v5 hne).other ⟨g, 6, none⟩ v6 hne).other ⟨g, 7, none⟩ v7 hne)
theorem Row.store8 {w : World} {g : Nat} {t : TypeId} {x0 x1 x2 x3 x4 x5 x6 x7 : Value} (h : Row w g t #[x0, x1, x2, x3, x4, x5, x6, x7]) (v0 v1 v2 v3 v4 v5 v6 v7 : Value) : Row (set8 w g v0 v1 v2 v3 v4 v5 v6 v7) g t #[v0, v1, v2, v3, v4, v5, v6, v7] := by
  have h8 := ((((((((h.store 0 v0).store 1 v1).store 2 v2).store 3 v3).store 4 v4).store 5 v5).store 6 v6).store 7 v7)
  simpa [set8] using h8
theorem below_set8 {B : Nat} {a w : World} (h : Below B a w) (g : Nat) (hB : B ≤ g) (v0 v1 v2 v3 v4 v5 v6 v7 : Value) : Below B a (set8 w g v0 v1 v2 v3 v4 v5 v6 v7) := ((((((((h.setCell (p := ⟨g, 0, none⟩) hB v0).setCell (p := ⟨g, 1, none⟩) hB v1).setCell (p := ⟨g, 2, none⟩) hB v2).setCell (p := ⟨g, 3, none⟩) hB v3).setCell (p := ⟨g, 4, none⟩) hB v4).setCell (p := ⟨g, 5, none⟩) hB v5).setCell (p := ⟨g, 6, none⟩) hB v6).setCell (p := ⟨g, 7, none⟩) hB v7)
theorem usum (a b c d e : Sha.U) : (((a.toNat : Int) + b.toNat + c.toNat + d.toNat) % 4294967296 + e.toNat) % 4294967296 = ((a + b + c + (d + e)).toNat : Int) := by
  simp only [BitVec.toNat_add]
  omega

theorem sum52 (a b c d e f g : Sha.U) : ((a.toNat : Int) + b.toNat + c.toNat + d.toNat + e.toNat + (f.toNat + g.toNat)) % 4294967296 = (((a + b + c + (d + e)) + (f + g)).toNat : Int) := by
  simp only [BitVec.toNat_add]
  omega
theorem sum15 (z a b c d e : Sha.U) : ((z.toNat : Int) + (a.toNat + b.toNat + c.toNat + d.toNat + e.toNat)) % 4294967296 = ((z + (a + b + c + (d + e))).toNat : Int) := by
  simp only [BitVec.toNat_add]
  omega

set_option maxRecDepth 100000 in
set_option maxHeartbeats 4000000 in
theorem mix02_at (s : Sha.St) (l : List UInt8) (hl : l.length = 64) (w : World) : Calls Tryz.prog 81 #[.agg #[Sha.uv s.a, Sha.uv s.b, Sha.uv s.c, Sha.uv s.d, Sha.uv s.e, Sha.uv s.f, Sha.uv s.g, Sha.uv s.h], .agg (blk l)] w fun e w' => e = .returned (.agg (Sha.mix s l).cells) ∧ Below w.heap.size w w' := by
  have r2 := (Row.new (w.alloc (.cells s.cells 128)) 130 (blk l)).alloc (.cells z8 128)
  simp only [World.size_alloc] at r2
  go_enter Tryz.func81, Tryz.ntmps81
  iterate 17 go_step
  refine wpList_load_row rfl 130 (.tmp 3) rfl (w.heap.size + 1) rfl 130 (blk l) (0, 0) _ r2 Tryz.underlying130 rfl (blk_info l hl) ?_
  clear r2
  go_wp2_with fail
  refine (words02_at l hl _).mono ?_
  rintro e w1 ⟨rfl, hb1⟩
  simp only [World.size_alloc] at hb1
  dsimp only
  iterate 4 go_step
  refine wpList_store_row rfl 143 (.tmp 5) _ rfl w1.heap.size (arr (fun j => Sha.uv (Sha.W l j)) 64) rfl rfl 143 zCells (Row.new w1 _ zCells) (warr_info l) (by rw [arr_size]; rfl) (warr_one l) ?_
  rw [World.setRow_alloc_new]
  go_wp2_with fail
  refine (constants02_at _).mono ?_
  rintro e w2 ⟨rfl, hb2⟩
  simp only [World.size_alloc] at hb2
  dsimp only
  iterate 4 go_step
  refine wpList_store_row rfl 143 (.tmp 6) _ rfl w2.heap.size kCells rfl rfl 143 zCells (Row.new w2 _ zCells) arr64_size rfl kCells_one ?_
  rw [World.setRow_alloc_new]
  generalize hW : w2.alloc _ = W
  obtain ⟨hle, hle2, rA, rR, rW, rK, hb, hsz⟩ := mix02_world w s l w1 w2 hb1 hb2 W hW
  clear hW hb1 hb2
  have a0 : W.cell? ⟨w.heap.size, 0, none⟩ = some (Sha.uv s.a) := rA.cell 0
  have a1 : W.cell? ⟨w.heap.size, 1, none⟩ = some (Sha.uv s.b) := rA.cell 1
  have a2 : W.cell? ⟨w.heap.size, 2, none⟩ = some (Sha.uv s.c) := rA.cell 2
  have a3 : W.cell? ⟨w.heap.size, 3, none⟩ = some (Sha.uv s.d) := rA.cell 3
  have a4 : W.cell? ⟨w.heap.size, 4, none⟩ = some (Sha.uv s.e) := rA.cell 4
  have a5 : W.cell? ⟨w.heap.size, 5, none⟩ = some (Sha.uv s.f) := rA.cell 5
  have a6 : W.cell? ⟨w.heap.size, 6, none⟩ = some (Sha.uv s.g) := rA.cell 6
  have a7 : W.cell? ⟨w.heap.size, 7, none⟩ = some (Sha.uv s.h) := rA.cell 7
  go_wp2_with fail
  clear a0 a1 a2 a3 a4 a5 a6 a7
  have rX : Row (W.alloc (.cells s.cells 128)) (w2.heap.size + 1) 128 s.cells := by
    have h := Row.new W 128 s.cells
    rw [hsz] at h
    exact h
  have rA := rA.alloc (.cells s.cells 128)
  have rR := rR.alloc (.cells s.cells 128)
  have rW := rW.alloc (.cells s.cells 128)
  have rK := rK.alloc (.cells s.cells 128)
  have hb := hb.alloc hb.size (.cells s.cells 128)
  generalize hW : W.alloc _ = W0
  have hW' : W.alloc (.cells s.cells 128) = W0 := hW
  rw [hW'] at rX rA rR rW rK hb
  clear hW hW' hsz
  go_loopw [8] (fun p wr => ∃ k : Nat, k ≤ 64 ∧ p = .int .i64 k ∧ Row wr w.heap.size 128 s.cells ∧ Row wr (w.heap.size + 1 + 1) 128 z8 ∧ Row wr w1.heap.size 143 (arr (fun j => Sha.uv (Sha.W l j)) 64) ∧ Row wr w2.heap.size 143 kCells ∧ (∃ x : Sha.St, x = Sha.rounds l s k ∧ Row wr (w2.heap.size + 1) 128 x.cells) ∧ Below w.heap.size w wr) (fun p _ => 64 - (intOf p).toNat)
  case atStart => exact ⟨0, Nat.zero_le _, rfl, rA, rR, rW, rK, ⟨s, rfl, rX⟩, hb⟩
  case round =>
    clear rA rR rW rK rX hb
    obtain ⟨k, hk, rfl, rA, rR, rW, rK, ⟨st, hst, rX⟩, hb⟩ := hrel
    have HS := Lib.hid hst
    clear hst
    iterate 14 go_step
    · have hk64 : k < 64 := by
        have : (k : Int) < 64 := by assumption
        omega
      have hx := hb.size
      have cK : wr.cell? ⟨w2.heap.size, k, none⟩ = some (Sha.uv (Sha.K k)) := (rK.cell k).trans (by rw [kCells_eq]; exact arr_get _ _ _ hk64)
      have cW : wr.cell? ⟨w1.heap.size, k, none⟩ = some (Sha.uv (Sha.W l k)) := (rW.cell k).trans (arr_get _ _ _ hk64)
      have a0 : wr.cell? ⟨w2.heap.size + 1, 0, none⟩ = some (Sha.uv st.a) := rX.cell 0
      have a1 : wr.cell? ⟨w2.heap.size + 1, 1, none⟩ = some (Sha.uv st.b) := rX.cell 1
      have a2 : wr.cell? ⟨w2.heap.size + 1, 2, none⟩ = some (Sha.uv st.c) := rX.cell 2
      have a3 : wr.cell? ⟨w2.heap.size + 1, 3, none⟩ = some (Sha.uv st.d) := rX.cell 3
      have a4 : wr.cell? ⟨w2.heap.size + 1, 4, none⟩ = some (Sha.uv st.e) := rX.cell 4
      have a5 : wr.cell? ⟨w2.heap.size + 1, 5, none⟩ = some (Sha.uv st.f) := rX.cell 5
      have a6 : wr.cell? ⟨w2.heap.size + 1, 6, none⟩ = some (Sha.uv st.g) := rX.cell 6
      have a7 : wr.cell? ⟨w2.heap.size + 1, 7, none⟩ = some (Sha.uv st.h) := rX.cell 7
      have b0 : (k : Int) < 64 := by omega
      go_wp2_with fail
      go_quiet ((go_at_call 92; exact quiet_same (turnz _ _ (by decide) _)))
      go_wp2_with fail
      go_quiet ((go_at_call 92; exact quiet_same2 (turnz _ _ (by decide) _)))
      simp only [Sha.xor_w, Sha.and_w, not_w2, usum, Sha.add_w]
      generalize hT1 : st.h + _ + _ + (Sha.K k + Sha.W l k) = T1
      generalize hT2 : (Sha.rot st.a 2 ^^^ Sha.rot st.a 13 ^^^ Sha.rot st.a 22) + _ = T2
      have hst' : Sha.rounds l s (k + 1) = ⟨T1 + T2, st.a, st.b, st.c, st.d + T1, st.e, st.f, st.g⟩ := by
        rw [← hT1, ← hT2]
        show Sha.step (Sha.rounds l s k) (Sha.K k + Sha.W l k) = _
        rw [← HS.out]
        rfl
      have HT := Lib.hid hst'
      clear hst' hT1 hT2
      generalize hd : World.drewN (World.drewN wr _) _ = w3
      have sA : Row w3 w.heap.size 128 s.cells := by rw [← hd]; exact (rA.drewN _).drewN _
      have sR : Row w3 (w.heap.size + 1 + 1) 128 z8 := by rw [← hd]; exact (rR.drewN _).drewN _
      have sW : Row w3 w1.heap.size 143 (arr (fun j => Sha.uv (Sha.W l j)) 64) := by rw [← hd]; exact (rW.drewN _).drewN _
      have sK : Row w3 w2.heap.size 143 kCells := by rw [← hd]; exact (rK.drewN _).drewN _
      have sX : Row w3 (w2.heap.size + 1) 128 st.cells := by rw [← hd]; exact (rX.drewN _).drewN _
      have sb : Below w.heap.size w w3 := by rw [← hd]; exact below_drewN (below_drewN hb _) _
      clear hd a0 a1 a2 a3 a4 a5 a6 a7 cK cW rA rR rW rK rX hb
      have a0 : w3.cell? ⟨w2.heap.size + 1, 0, none⟩ = some (Sha.uv st.a) := sX.cell 0
      have a1 : w3.cell? ⟨w2.heap.size + 1, 1, none⟩ = some (Sha.uv st.b) := sX.cell 1
      have a2 : w3.cell? ⟨w2.heap.size + 1, 2, none⟩ = some (Sha.uv st.c) := sX.cell 2
      have a3 : w3.cell? ⟨w2.heap.size + 1, 3, none⟩ = some (Sha.uv st.d) := sX.cell 3
      have a4 : w3.cell? ⟨w2.heap.size + 1, 4, none⟩ = some (Sha.uv st.e) := sX.cell 4
      have a5 : w3.cell? ⟨w2.heap.size + 1, 5, none⟩ = some (Sha.uv st.f) := sX.cell 5
      have a6 : w3.cell? ⟨w2.heap.size + 1, 6, none⟩ = some (Sha.uv st.g) := sX.cell 6
      have a7 : w3.cell? ⟨w2.heap.size + 1, 7, none⟩ = some (Sha.uv st.h) := sX.cell 7
      have f0 := sX.frozen 0
      have f1 := sX.frozen 1
      have f2 := sX.frozen 2
      have f3 := sX.frozen 3
      have f4 := sX.frozen 4
      have f5 := sX.frozen 5
      have f6 := sX.frozen 6
      have f7 := sX.frozen 7
      go_wp2_with fail
      simp only [Sha.add_w]
      refine ⟨⟨k + 1, by omega, by go_num, Row.others8 sA _ _ _ _ _ _ _ _ _ (by omega), Row.others8 sR _ _ _ _ _ _ _ _ _ (by omega), Row.others8 sW _ _ _ _ _ _ _ _ _ (by omega), Row.others8 sK _ _ _ _ _ _ _ _ _ (by omega), ⟨_, HT.out.symm, Row.store8 sX _ _ _ _ _ _ _ _⟩, below_set8 sb _ (by omega) _ _ _ _ _ _ _ _⟩, ?_⟩
      simp [intOf]
      omega
    · have hk64 : k = 64 := by
        have : (64 : Int) ≤ (k : Int) := by assumption
        omega
      subst hk64
      clear rW rK
      go_wp2_with fail
      simp only [Int.cast_ofNat_Int, Int.lt_irrefl, decide_false]
      go_loopw [13] (fun p wr => ∃ k : Nat, k ≤ 8 ∧ p = .int .i64 k ∧ Row wr w.heap.size 128 (hArr s st k) ∧ Row wr (w.heap.size + 1 + 1) 128 z8 ∧ Row wr (w2.heap.size + 1) 128 st.cells ∧ Below w.heap.size w wr) (fun p _ => 8 - (intOf p).toNat)
      case atStart => exact ⟨0, Nat.zero_le _, rfl, rA, rR, rX, hb⟩
      case round =>
        clear rA rR rX hb
        obtain ⟨k, hk, rfl, rA, rR, rX, hb⟩ := hrel
        iterate 14 go_step
        · have hk8 : k < 8 := by
            have : (k : Int) < 8 := by assumption
            omega
          have c1 : wr.cell? ⟨w.heap.size, k, none⟩ = some (Sha.uv (stAt s k)) := (rA.cell k).trans ((arr_get _ _ _ hk8).trans (by simp))
          have c2 : wr.cell? ⟨w2.heap.size + 1, k, none⟩ = some (Sha.uv (stAt st k)) := (rX.cell k).trans (by rw [cells_at]; exact arr_get _ _ _ hk8)
          have b0 : (k : Int) < 8 := by omega
          have f1 := rA.frozen k
          go_wp2_with fail
          go_still_tail 9, (by kernel_rfl)
          change wpList _ _ _ _ _ wr.drew
          rw [addw]
          have tA := rA.drew.store k (Sha.uv (stAt s k + stAt st k))
          rw [hArr_set] at tA
          have tR := rR.drew.other ⟨w.heap.size, k, none⟩ (Sha.uv (stAt s k + stAt st k)) (by simp; omega)
          have tX := rX.drew.other ⟨w.heap.size, k, none⟩ (Sha.uv (stAt s k + stAt st k)) (by simp; omega)
          have tb := hb.drew.setCell (p := ⟨w.heap.size, k, none⟩) (Nat.le_refl _) (Sha.uv (stAt s k + stAt st k))
          clear rA rR rX hb
          go_wp2_with fail
          go_roundw
          case rel => exact ⟨k + 1, by omega, by go_num, tA, tR, tX, tb⟩
          case measure => simp [intOf]; omega
        · have hk8 : k = 8 := by
            have : (8 : Int) ≤ (k : Int) := by assumption
            omega
          subst hk8
          iterate 7 go_step
          refine wpList_load_row rfl 128 (.tmp 2) rfl w.heap.size rfl 128 (hArr s st 8) (0, 0) _ rA Tryz.underlying128 rfl arr8_size ?_
          refine wpList_store_row rfl 128 (.tmp 4) _ rfl (w.heap.size + 1 + 1) (hArr s st 8) rfl rfl 128 z8 rR arr8_size rfl (by rw [hArr_all]; exact cells_one _) ?_
          go_wp2_with fail
          refine bodyPost_ret (results_cell_row Tryz.results81 _ _ _ _ _ _ _ rfl (rR.setRow (hArr s st 8)) Tryz.underlying128 rfl arr8_size) rfl ⟨?_, below_setRow hb (by omega) _⟩
          rw [hArr_all, Sha.mix, HS.out]
end Go.Proofs.YtfahbdakhbpfcaaGreat
