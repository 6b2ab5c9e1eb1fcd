/- WALKS: tag.Pad, tag.Node: their values are digests; conditions: none. -/
import Derived.Test.YtafichokaofngaaGreatDoorSum1
namespace Go.Proofs.YtafichokaofngaaGreatDoor
open Go.RowKit

theorem wordlen7 : (word 7).length = 14 := by decide
theorem word7 (w : World) : Calls Tryz.prog 148 #[.int .u8 7] w fun e w' => e = .returned (.string (wordB 7)) ∧ w = w' := by
  go_enter Tryz.func148, Tryz.ntmps148
  go_wp2
  go_ret
  exact ⟨rfl, rfl⟩
set_option maxRecDepth 100000 in
set_option maxHeartbeats 1000000 in
theorem fit7 (b : Nat) (p : Option Addr) (c cp : Nat) (w : World) (hc : w.cell? ⟨b, 0, none⟩ = some (.slice p 4 c)) :
    Calls Tryz.prog 149 #[.int .u8 7, .slice (some ⟨b, 0, none⟩) 1 cp] w fun e w' => e = .returned (.bool true) ∧ Below w.heap.size w w' := by
  have hmf : ∀ (fn : Fn) (first cap : Array Value) (w : World), (Instr.makeFunc fn first cap).run Tryz.prog w = .ok (.func fn first cap) w := fun _ _ _ _ => rfl
  have hl := block_lt_of_cell hc
  have hl1 : b < w.heap.size + 1 := Nat.lt_succ_of_lt hl
  go_enter Tryz.func149, Tryz.ntmps149
  go_wp2
  go_rounds 2
  go_ret
  exact ⟨rfl, ((Below.refl _ _).alloc (Nat.le_refl _) _).alloc (by simp) _⟩
theorem tag7_one (b cp : Nat) (p : Option Addr) (c : Nat) (X : List UInt8) (w : World) (hcp : 1 ≤ cp) (hX : X.length = 4) (hc : w.cell? ⟨b, 0, none⟩ = some (.slice p 4 c)) (hx : Has w (.slice p 4 c) (X.map Sha.bv)) :
    Calls Tryz.prog 90 #[.int .u8 (7 : Nat), .slice (some ⟨b, 0, none⟩) 1 cp] w fun e w' =>
      ∃ v, e = .returned (.tuple #[v, .int .i64 0]) ∧ w'.ownsRow w.heap.size 5 1 v (framed [word 7, X]).length ((framed [word 7, X]).map Sha.bv) ∧ Below w.heap.size w w' :=
  bytes_any 7 (by decide) b cp _ _ [X] 1 w rfl (by omega) (by omega) hcp word7 (by kernel_rfl) (fun w' hp => fit7 b _ _ cp w' (by have := hp.cell 0 (by simp); simp [Addr.add, hX] at this; exact this))
    (by rw [framed2_len, wordlen7]; omega) (parts_one hc hx)

theorem has_row {w : World} {b : Nat} {t : TypeId} {L : List UInt8} (h : Row w b t (blk L)) (n c : Nat) (hn : L.length = n) (hc : n ≤ c) : Has w (.slice (some ⟨b, 0, none⟩) n c) (L.map Sha.bv) := by
  subst hn
  refine .inr ⟨⟨b, 0, none⟩, c, by simp, by simpa using hc, fun j u hu => ?_⟩
  rw [Addr.add_mid, Nat.zero_add, h.cell]
  simpa [blk] using hu

set_option maxRecDepth 100000 in
set_option maxHeartbeats 1000000 in
theorem padleaf_at (x : Sha.U) (w : World) : Calls Tryz.prog 142 #[Sha.uv x] w fun e w' => e = .returned (dval (framed [word 7, Sha.be x])) ∧ Below w.heap.size w w' := by
  have D0 := Lib.hid (Row.new w 29 z32)
  have B0 := Lib.hid ((Below.refl w.heap.size w).alloc (Nat.le_refl _) (.cells z32 29))
  go_enter Tryz.func142, Tryz.ntmps142
  go_wp2_with fail
  generalize hW : w.alloc _ = W0
  have hW' : w.alloc (.cells z32 29) = W0 := hW
  have hs0 : W0.heap.size = w.heap.size + 1 := by rw [← hW]; simp
  have hD := hW' ▸ D0.out
  have hB := hW' ▸ B0.out
  clear hW hW' D0 B0
  have HS0 := Lib.hid hs0
  clear hs0
  refine (big32 x W0).mono ?_
  rintro e w1 ⟨rfl, rfl⟩
  go_wp2_with fail
  have r1 := Row.new W0 5 (blk (Sha.be x))
  have hD1 := (hD.alloc (.cells (blk (Sha.be x)) 5)).alloc (.cells #[.slice (some ⟨W0.heap.size, 0, none⟩) 4 4] 22)
  have hB1 := (hB.alloc hB.size (.cells (blk (Sha.be x)) 5)).alloc (by have := hB.size; simp; omega) (.cells #[.slice (some ⟨W0.heap.size, 0, none⟩) 4 4] 22)
  have r2 := r1.alloc (.cells #[.slice (some ⟨W0.heap.size, 0, none⟩) 4 4] 22)
  have r3 := Row.new (W0.alloc (.cells (blk (Sha.be x)) 5)) 22 #[.slice (some ⟨W0.heap.size, 0, none⟩) 4 4]
  have hs2 : ((W0.alloc (.cells (blk (Sha.be x)) 5)).alloc (.cells #[.slice (some ⟨W0.heap.size, 0, none⟩) 4 4] 22)).heap.size = W0.heap.size + 2 := by simp
  simp only [World.size_alloc] at r3
  generalize hW : (W0.alloc _).alloc _ = W2
  have hW' : (W0.alloc (.cells (blk (Sha.be x)) 5)).alloc (.cells #[.slice (some ⟨W0.heap.size, 0, none⟩) 4 4] 22) = W2 := hW
  rw [hW'] at hD1 hB1 r2 r3 hs2
  clear hW hW' hD hB r1
  refine (made_any 7 (some ⟨W0.heap.size + 1, 0, none⟩) 1 1 (framed [word 7, Sha.be x]) (by rw [framed2_len, wordlen7, Sha.be_length]; omega) W2 fun W hW => ?_).mono ?_
  · exact tag7_one (W0.heap.size + 1) 1 (some ⟨W0.heap.size, 0, none⟩) 4 (Sha.be x) W (Nat.le_refl _) (Sha.be_length x) ((r3.below hW r3.lt).cell 0) (has_row (r2.below hW r2.lt) 4 4 (Sha.be_length x) (Nat.le_refl _))
  · rintro e w1 ⟨rfl, hb1⟩
    have hD2 := hD1.below hb1 hD1.lt
    have hB2 := hB1.trans (hb1.mono hB1.size)
    clear hD1 hB1 hb1 r2 r3
    dsimp only
    iterate 1 go_step
    refine wpList_store_row rfl 29 (.tmp 2) _ rfl w.heap.size (blk (Sha.digest (framed [word 7, Sha.be x]))) rfl rfl 29 z32 hD2 (digInfo _) (digSize _) (blk_one _) ?_
    go_wp2_with fail
    exact bodyPost_ret (results_cell_row Tryz.results142 _ _ _ _ _ _ _ rfl (hD2.setRow (blk (Sha.digest (framed [word 7, Sha.be x])))) Tryz.underlying29 rfl (digInfo _)) rfl ⟨rfl, below_setRow hB2 (Nat.le_refl _) _⟩

set_option maxRecDepth 100000 in
set_option maxHeartbeats 1000000 in
theorem node_at (L R : List UInt8) (hL : L.length = 32) (hR : R.length = 32) (w : World) : Calls Tryz.prog 140 #[.agg (blk L), .agg (blk R)] w fun e w' => e = .returned (dval (framed [word 6, L, R])) ∧ Below w.heap.size w w' := by
  have HL := Lib.hid hL
  have HR := Lib.hid hR
  clear hL hR
  go_enter Tryz.func140, Tryz.ntmps140
  have D0 := Lib.hid (Row.new ((w.alloc (.cells (blk L) 29)).alloc (.cells (blk R) 29)) 29 z32)
  have L0 := Lib.hid (((Row.new w 29 (blk L)).alloc (.cells (blk R) 29)).alloc (.cells z32 29))
  have R0 := Lib.hid ((Row.new (w.alloc (.cells (blk L) 29)) 29 (blk R)).alloc (.cells z32 29))
  have B0 := Lib.hid ((((Below.refl w.heap.size w).alloc (Nat.le_refl _) (.cells (blk L) 29)).alloc (by simp) (.cells (blk R) 29)).alloc (by simp; omega) (.cells z32 29))
  go_wp2_with fail
  generalize hW : ((w.alloc _).alloc _).alloc _ = W0
  have hW' : ((w.alloc (.cells (blk L) 29)).alloc (.cells (blk R) 29)).alloc (.cells z32 29) = W0 := hW
  have hs0 : W0.heap.size = w.heap.size + 3 := by rw [← hW]; simp
  have hD : Row W0 (w.heap.size + 1 + 1) 29 z32 := by
    have h := hW' ▸ D0.out
    simpa using h
  have hL := hW' ▸ L0.out
  have hR : Row W0 (w.heap.size + 1) 29 (blk R) := by
    have h := hW' ▸ R0.out
    simpa using h
  have hB := hW' ▸ B0.out
  have HS0 := Lib.hid hs0
  clear hW hW' D0 L0 R0 B0 hs0
  refine wp_region_any (by kernel_rfl) ?_
  change wpAny _ _ _ _ _ _ _ W0.drew
  refine wpAny_takeL (i := 0) (v := ?_) rfl (by kernel_rfl) (by kernel_rfl) (by kernel_rfl) (fun _ _ _ h => h) (Or.inl ⟨by rfl, ?_⟩) ?_
  rotate_left
  · intro w
    go_simp
    try with_reducible rfl
  simp only [Act.put, List.setIfInBounds_toArray, List.set_cons_zero, List.set_cons_succ]
  refine wpAny_takeL (i := 1) (v := ?_) rfl (by kernel_rfl) (by kernel_rfl) (by kernel_rfl) (fun _ _ _ h => h) (Or.inl ⟨by rfl, ?_⟩) ?_
  rotate_left
  · intro w
    go_simp
    try with_reducible rfl
  simp only [Act.put, List.setIfInBounds_toArray, List.set_cons_zero, List.set_cons_succ]
  refine wpAny_of_idxL [2, 3, 4] [_, _, _] _ _ rfl rfl (by kernel_rfl) ?_
  go_wp2_with fail
  have hk := ((Below.refl W0.heap.size W0).alloc (Nat.le_refl _) (.cells #[.slice (some ⟨w.heap.size, 0, none⟩) 32 32, .slice (some ⟨w.heap.size + 1, 0, none⟩) 32 32] 22)).drew
  have rP := (Row.new W0 22 #[.slice (some ⟨w.heap.size, 0, none⟩) 32 32, .slice (some ⟨w.heap.size + 1, 0, none⟩) 32 32]).drew
  have hD1 := hD.below hk hD.lt
  have hL1 := hL.below hk hL.lt
  have hR1 := hR.below hk hR.lt
  have hB1 := hB.trans (hk.mono hB.size)
  have hlt := hD.lt
  have hz : W0.heap.size < (W0.alloc (.cells #[.slice (some ⟨w.heap.size, 0, none⟩) 32 32, .slice (some ⟨w.heap.size + 1, 0, none⟩) 32 32] 22)).drew.heap.size := rP.lt
  generalize (W0.alloc (.cells #[.slice (some ⟨w.heap.size, 0, none⟩) 32 32, .slice (some ⟨w.heap.size + 1, 0, none⟩) 32 32] 22)).drew = W1 at *
  clear hk hD hL hR hB
  refine (made_any 6 (some ⟨W0.heap.size, 0, none⟩) 2 2 (framed [word 6, L, R]) (by rw [framed3_len, wordlen6, HL.out, HR.out]; omega) W1 fun W hW => ?_).mono ?_
  · exact tag6_two W0.heap.size 2 (some ⟨w.heap.size, 0, none⟩) (some ⟨w.heap.size + 1, 0, none⟩) 32 32 L R W (Nat.le_refl _) HL.out HR.out ((rP.below hW rP.lt).cell 0) (has_row (hL1.below hW hL1.lt) 32 32 HL.out (Nat.le_refl _))
      ((rP.below hW rP.lt).cell 1) (has_row (hR1.below hW hR1.lt) 32 32 HR.out (Nat.le_refl _))
  · rintro e w1 ⟨rfl, hb1⟩
    have hD2 := hD1.below hb1 hD1.lt
    have hB2 := hB1.trans (hb1.mono hB1.size)
    clear hD1 hB1 hb1 hL1 hR1 rP
    dsimp only
    iterate 1 go_step
    refine wpList_store_row rfl 29 (.tmp 4) _ rfl (w.heap.size + 1 + 1) (blk (Sha.digest (framed [word 6, L, R]))) rfl rfl 29 z32 hD2 (digInfo _) (digSize _) (blk_one _) ?_
    go_wp2_with fail
    exact bodyPost_ret (results_cell_row Tryz.results140 _ _ _ _ _ _ _ rfl (hD2.setRow (blk (Sha.digest (framed [word 6, L, R])))) Tryz.underlying29 rfl (digInfo _)) rfl ⟨rfl, below_setRow hB2 (by omega) _⟩
end Go.Proofs.YtafichokaofngaaGreatDoor
