/-
  Sum1: WALKS: sha.Sum of one part; tag.Digest, tag.made and what stands on them: their values are digests; conditions: at most 2^47 - 4096 bytes.
-/
import Derived.Test.YtfahbdakhbpfcaaGreatM19
namespace Go.Proofs.YtfahbdakhbpfcaaGreat
open Go.RowKit

set_option maxRecDepth 100000 in
set_option maxHeartbeats 1000000 in
theorem sum1_at (bb cp : Nat) (p : Option Addr) (n c : Nat) (x : List UInt8) (w : World) (h0 : w.cell? ⟨bb, 0, none⟩ = some (.slice p n c)) (hx : Has w (.slice p n c) (x.map Sha.bv)) (hm : n ≤ 140737488355328) :
    Calls Tryz.prog 60 #[.slice (some ⟨bb, 0, none⟩) 1 cp] w fun e w' => e = .returned (dval x) ∧ Below w.heap.size w w' := by
  have hlt : ∀ a, p = some a → 0 < n → a.block < w.heap.size := by
    intro a ha hn
    subst ha
    refine hx.lt (fun h => ?_) _ rfl
    have := hx.len
    rw [h] at this
    simp at this
    omega
  have hxl : x.length = n := by simpa using hx.len.symm
  have HXL := Lib.hid hxl
  clear hxl
  have hbl := block_lt_of_cell h0
  have D0 := Lib.hid (Row.new w 25 z32)
  have B0 := Lib.hid ((Below.refl w.heap.size w).alloc (Nat.le_refl _) (.cells z32 25))
  have X0 := Lib.hid (hx.later ((Below.refl w.heap.size w).alloc (Nat.le_refl _) (.cells z32 25)))
  have C0 := Lib.hid (cell_al (.cells z32 25) h0)
  clear hx h0
  go_enter Tryz.func60, Tryz.ntmps60
  go_wp2_with fail
  generalize hW : w.alloc _ = W0
  have hW' : w.alloc (.cells z32 25) = W0 := hW
  have hs0 : W0.heap.size = w.heap.size + 1 := by rw [← hW]; simp
  have hD := hW' ▸ D0.out
  have hB := hW' ▸ B0.out
  have hX := hW' ▸ X0.out
  have hC := hW' ▸ C0.out
  clear hW hW' D0 B0 X0 C0
  refine (new_at W0).mono ?_
  rintro e w1 ⟨b, hb0, rfl, hH, hb1⟩
  have hD1 := hD.below hb1 (by omega)
  have hX1 := hX.later hb1
  have hC1 : w1.cell? ⟨bb, 0, none⟩ = some (.slice p n c) := (hb1.cell (p := ⟨bb, 0, none⟩) (by simp; omega)).trans hC
  have hB1 := hB.trans (hb1.mono (by omega))
  clear hD hB hX hC
  go_wp2_with fail
  refine wp_loop_rounds 2 ?_
  rw [rounds_succ]
  go_wp2_with fail
  refine (write_at b p n c x w1 hH hX1 (fun a ha hn => by have := hlt a ha hn; omega) hm).mono ?_
  rintro e w2 ⟨rfl, r, hH2, hR2, hb2⟩
  have hD2 := hD1.below hb2 (by omega)
  have hB2 := hB1.trans (hb2.mono (by omega))
  obtain ⟨a2, n2, c2, rfl⟩ := hR2.slice
  clear hD1 hX1 hC1 hB1 hH
  go_wp2_with fail
  rw [rounds_succ]
  go_wp2_with fail
  refine (hsum_at b n a2 n2 c2 x w2 hH2 hR2 HXL.out hm).mono ?_
  rintro e w3 ⟨rfl, hb3⟩
  have hD3 := hD2.below hb3 hD2.lt
  have hB3 := hB2.trans (hb3.mono hB2.size)
  clear hD2 hB2 hH2 hR2
  dsimp only
  iterate 1 go_step
  refine wpList_store_row rfl 25 (.tmp 2) _ rfl w.heap.size (blk (Sha.digest x)) rfl rfl 25 z32 hD3 (dig_info (Sha.absorb Sha.init (x ++ Sha.pad x.length))) ((z32_size).trans (dig_size (Sha.absorb Sha.init (x ++ Sha.pad x.length))).symm) (blk_one _) ?_
  go_wp2_with fail
  exact bodyPost_ret (results_cell_row Tryz.results60 _ _ _ _ _ _ _ rfl (hD3.setRow (blk (Sha.digest x))) Tryz.underlying25 rfl (dig_info (Sha.absorb Sha.init (x ++ Sha.pad x.length)))) rfl ⟨rfl, below_setRow hB3 (Nat.le_refl _) _⟩

theorem digInfo (x : List UInt8) : (Tryz.prog.info? 25).map (·.size) = some (blk (Sha.digest x)).size := dig_info (Sha.absorb Sha.init (x ++ Sha.pad x.length))
theorem digSize (x : List UInt8) : z32.size = (blk (Sha.digest x)).size := (z32_size).trans (dig_size (Sha.absorb Sha.init (x ++ Sha.pad x.length))).symm

set_option maxRecDepth 100000 in
set_option maxHeartbeats 1000000 in
theorem digest_any (t : Nat) (p : Option Addr) (n c : Nat) (X : List UInt8) (hX : X.length ≤ 140737488355328) (w : World)
    (h : ∀ W, Below w.heap.size w W → Calls Tryz.prog 59 #[.int .u8 t, .slice p n c] W fun e w' => ∃ u, e = .returned (.tuple #[u, .int .i64 0]) ∧ w'.ownsRow W.heap.size 5 1 u X.length (X.map Sha.bv) ∧ Below W.heap.size W w') :
    Calls Tryz.prog 45 #[.int .u8 t, .slice p n c] w fun e w' => e = .returned (.tuple #[dval X, .int .i64 0]) ∧ Below w.heap.size w w' := by
  have H := Lib.hid h
  clear h
  have D0 := Lib.hid (Row.new w 25 z32)
  have B0 := Lib.hid ((Below.refl w.heap.size w).alloc (Nat.le_refl _) (.cells z32 25))
  go_enter Tryz.func45, Tryz.ntmps45
  go_wp2_with fail
  generalize hW : w.alloc _ = W0
  have hW' : w.alloc (.cells z32 25) = W0 := hW
  have hs0 : W0.heap.size = w.heap.size + 1 := by rw [← hW]; simp
  have hD := hW' ▸ D0.out
  have hB := hW' ▸ B0.out
  clear hW hW' D0 B0
  refine (H.out W0 hB).mono ?_
  rintro e w1 ⟨u, rfl, hown, hb1⟩
  have hu : Has w1 u (X.map Sha.bv) := Has.of_owns hown
  obtain ⟨a1, n1, c1, rfl⟩ := hu.slice
  have hD1 := hD.below hb1 (by omega)
  have hB1 := hB.trans (hb1.mono (by omega))
  have hn1 : n1 ≤ 140737488355328 := by
    have := hu.len
    simp at this
    omega
  clear hown hD hB H
  go_wp2_with fail
  have hu2 := hu.later ((Below.refl w1.heap.size w1).alloc (Nat.le_refl _) (.cells #[.slice a1 n1 c1] 70))
  refine (sum1_at w1.heap.size 1 a1 n1 c1 X _ ((Row.new w1 70 #[.slice a1 n1 c1]).cell 0) hu2 hn1).mono ?_
  rintro e w2 ⟨rfl, hb2⟩
  have hD2 := (hD1.alloc (.cells #[.slice a1 n1 c1] 70)).below hb2 (by have := hD1.lt; simp; omega)
  have hB2 := (hB1.alloc hB1.size (.cells #[.slice a1 n1 c1] 70)).trans (hb2.mono (by have := hB1.size; simp; omega))
  clear hD1 hB1 hb2 hu hu2
  dsimp only
  iterate 1 go_step
  refine wpList_store_row rfl 25 (.tmp 4) _ rfl w.heap.size (blk (Sha.digest X)) rfl rfl 25 z32 hD2 (digInfo X) (digSize X) (blk_one _) ?_
  go_wp2_with fail
  exact bodyPost_ret (results_row_tmp Tryz.results45 _ _ _ _ _ _ rfl (hD2.setRow (blk (Sha.digest X))) Tryz.underlying25 rfl (digInfo X)) rfl ⟨rfl, below_setRow hB2 (Nat.le_refl _) _⟩

set_option maxRecDepth 100000 in
set_option maxHeartbeats 1000000 in
theorem made_any (t : Nat) (p : Option Addr) (n c : Nat) (X : List UInt8) (hX : X.length ≤ 140737488355328) (w : World)
    (h : ∀ W, Below w.heap.size w W → Calls Tryz.prog 59 #[.int .u8 t, .slice p n c] W fun e w' => ∃ u, e = .returned (.tuple #[u, .int .i64 0]) ∧ w'.ownsRow W.heap.size 5 1 u X.length (X.map Sha.bv) ∧ Below W.heap.size W w') :
    Calls Tryz.prog 39 #[.int .u8 t, .slice p n c] w fun e w' => e = .returned (dval X) ∧ Below w.heap.size w w' := by
  have H := Lib.hid h
  clear h
  have D0 := Lib.hid (Row.new w 25 z32)
  have B0 := Lib.hid ((Below.refl w.heap.size w).alloc (Nat.le_refl _) (.cells z32 25))
  go_enter Tryz.func39, Tryz.ntmps39
  go_wp2_with fail
  generalize hW : w.alloc _ = W0
  have hW' : w.alloc (.cells z32 25) = W0 := hW
  have hs0 : W0.heap.size = w.heap.size + 1 := by rw [← hW]; simp
  have hD := hW' ▸ D0.out
  have hB := hW' ▸ B0.out
  clear hW hW' D0 B0
  refine (digest_any t p n c X hX W0 fun W hW => H.out W (hB.trans (hW.mono (by omega)))).mono ?_
  rintro e w1 ⟨rfl, hb1⟩
  have hD1 := hD.below hb1 (by omega)
  have hB1 := hB.trans (hb1.mono (by omega))
  clear hD hB H
  dsimp only
  iterate 13 go_step
  refine wpList_store_row rfl 25 (.tmp 5) (.tmp 11) rfl w1.heap.size (blk (Sha.digest X)) rfl rfl 25 z32 (Row.new w1 _ z32) (digInfo X) (digSize X) (blk_one _) ?_
  have hD2 := (hD1.alloc (.cells z32 25)).setRow_other (g := w1.heap.size) (blk (Sha.digest X)) (by have := hD1.lt; omega)
  have hT := (Row.new w1 25 z32).setRow (blk (Sha.digest X))
  have hB2 := below_setRow (hB1.alloc hB1.size (.cells z32 25)) (b := w1.heap.size) hB1.size (blk (Sha.digest X))
  clear hD1 hB1
  generalize hW2 : (w1.alloc _).setRow w1.heap.size (blk (Sha.digest X)) = w2
  have hW2' : (w1.alloc (.cells z32 25)).setRow w1.heap.size (blk (Sha.digest X)) = w2 := hW2
  rw [hW2'] at hD2 hT hB2
  clear hW2 hW2'
  iterate 8 go_step
  refine wpList_load_row rfl 25 (.tmp 5) rfl w1.heap.size rfl 25 (blk (Sha.digest X)) (0, 0) _ hT Tryz.underlying25 rfl (digInfo X) ?_
  refine wpList_store_row rfl 25 (.tmp 4) _ rfl w.heap.size (blk (Sha.digest X)) rfl rfl 25 z32 hD2 (digInfo X) (digSize X) (blk_one _) ?_
  go_wp2_with fail
  exact bodyPost_ret (results_cell_row Tryz.results39 _ _ _ _ _ _ _ rfl (hD2.setRow (blk (Sha.digest X))) Tryz.underlying25 rfl (digInfo X)) rfl ⟨rfl, below_setRow hB2 (Nat.le_refl _) _⟩

end Go.Proofs.YtfahbdakhbpfcaaGreat
