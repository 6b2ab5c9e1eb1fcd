/-
  Ref05C: WALK: strongroomref05.Digest at the ring's tag; conditions: parts of 16 and of 4 bytes.
  Ref05D: WALK: strongroomref05.Ring: a server's digest for an index; conditions: the index is of 16 bytes.
  Less: WALK: strongroomref01.Less: two rows of 32 bytes that differ; conditions: none.
-/
import Derived.Test.YtfahbdakhbpfcaaGreatM23
import Derived.Test.YtfahbdakhbpfcaaGreatM44
namespace Go.Proofs.YtfahbdakhbpfcaaGreat
open Go.RowKit

set_option maxRecDepth 100000 in
set_option maxHeartbeats 1000000 in
theorem digest05_at (b cp : Nat) (p q : Option Addr) (c d : Nat) (X Y : List UInt8) (w : World) (hX : X.length = 16) (hY : Y.length = 4)
    (hc : w.cell? ⟨b, 0, none⟩ = some (.slice p 16 c)) (hx : Has w (.slice p 16 c) (X.map Sha.bv)) (hd : w.cell? ⟨b, 1, none⟩ = some (.slice q 4 d)) (hy : Has w (.slice q 4 d) (Y.map Sha.bv)) :
    Calls Tryz.prog 57 #[.int .u8 9, .slice (some ⟨b, 0, none⟩) 2 cp] w fun e w' => e = .returned (dval (framed [word 9, X, Y])) ∧ Below w.heap.size w w' := by
  have hbytes := fun W h1 h2 h3 h4 => bytes05_at b cp p q c d X Y W hX hY h1 h2 h3 h4
  have hlen : (framed [word 9, X, Y]).length = 59 := by rw [framed3_len, wordlen9, hX, hY]
  generalize framed [word 9, X, Y] = M at hbytes hlen ⊢
  have HBY := Lib.hid hbytes
  clear hbytes
  have hb0 := (Below.refl w.heap.size w).alloc (Nat.le_refl _) (.cells z32 25)
  have hD := Row.new w 25 z32
  have hlt : b < w.heap.size := block_lt_of_cell hc
  have HX := Lib.hid (hx.later hb0)
  have HY := Lib.hid (hy.later hb0)
  have HC := Lib.hid ((hb0.cell (p := ⟨b, 0, none⟩) hlt).trans hc)
  have HD := Lib.hid ((hb0.cell (p := ⟨b, 1, none⟩) hlt).trans hd)
  clear hx hy hc hd
  go_enter Tryz.func57, Tryz.ntmps57
  go_wp2_with fail
  generalize hW : w.alloc _ = W0
  have hW' : w.alloc (.cells z32 25) = W0 := hW
  rw [hW'] at hb0 hD
  refine (HBY.out W0 (hW' ▸ HC.out) (hW' ▸ HX.out) (hW' ▸ HD.out) (hW' ▸ HY.out)).mono ?_
  rintro e w1 ⟨v, rfl, hown, hb1⟩
  have hhas := Has.of_owns hown
  obtain ⟨a, n, c', rfl⟩ := hhas.slice
  have hn : n = 59 := by
    have := hhas.len
    rw [List.length_map, hlen] at this
    exact this
  subst hn
  have hD1 := hD.below hb1 hD.lt
  have hB1 := hb0.trans (hb1.mono hb0.size)
  have HH := Lib.hid hhas
  clear hhas hown hb1 hD hb0 hW hW' HX HY HC HD hlen HBY
  go_wp2_with fail
  refine (sum02_at a 59 c' M w1 HH.out (by omega)).mono ?_
  rintro e w2 ⟨rfl, hb2⟩
  have hD2 := hD1.below hb2 hD1.lt
  have hB2 := hB1.trans (hb2.mono hB1.size)
  clear hD1 hB1 hb2 HH
  dsimp only
  iterate 1 go_step
  refine wpList_store_row rfl 25 (.tmp 4) _ rfl w.heap.size (blk (Sha.digest M)) rfl rfl 25 z32 hD2 (digInfo _) (digSize _) (blk_one _) ?_
  go_wp2_with fail
  exact bodyPost_ret (results_cell_row Tryz.results57 _ _ _ _ _ _ _ rfl (hD2.setRow (blk (Sha.digest M))) Tryz.underlying25 rfl (digInfo _)) rfl ⟨rfl, below_setRow hB2 (by omega) _⟩
end Go.Proofs.YtfahbdakhbpfcaaGreat
namespace Go.Proofs.YtfahbdakhbpfcaaGreat
open Go.RowKit

set_option maxRecDepth 100000 in
set_option maxHeartbeats 1000000 in
theorem ring05_at (L : List UInt8) (hL : L.length = 16) (x : Sha.U) (w : World) : Calls Tryz.prog 43 #[.agg (blk L), Sha.uv x] w fun e w' => e = .returned (dval (framed [word 9, L, Sha.be x])) ∧ Below w.heap.size w w' := by
  have HL := Lib.hid hL
  clear hL
  go_enter Tryz.func43, Tryz.ntmps43
  have D0 := Lib.hid (Row.new (w.alloc (.cells (blk L) 23)) 25 z32)
  have L0 := Lib.hid ((Row.new w 23 (blk L)).alloc (.cells z32 25))
  have B0 := Lib.hid (((Below.refl w.heap.size w).alloc (Nat.le_refl _) (.cells (blk L) 23)).alloc (by simp) (.cells z32 25))
  go_wp2_with fail
  generalize hW : (w.alloc _).alloc _ = W0
  have hW' : (w.alloc (.cells (blk L) 23)).alloc (.cells z32 25) = W0 := hW
  have hs0 : W0.heap.size = w.heap.size + 2 := by rw [← hW]; simp
  have hD : Row W0 (w.heap.size + 1) 25 z32 := by
    have h := hW' ▸ D0.out
    simpa using h
  have hL := hW' ▸ L0.out
  have hB := hW' ▸ B0.out
  have HS0 := Lib.hid hs0
  clear hW hW' D0 L0 B0 hs0
  refine wp_region_any (by kernel_rfl) ?_
  change wpAny _ _ _ _ _ _ _ W0.drew
  refine wpAny_takeL (i := 0) (v := ?_) rfl (by kernel_rfl) (by kernel_rfl) (by kernel_rfl) (fun _ _ _ h => h) (Or.inl ⟨by rfl, ?_⟩) ?_
  rotate_left
  · intro w
    go_simp
    try with_reducible rfl
  simp only [Act.put, List.setIfInBounds_toArray, List.set_cons_zero, List.set_cons_succ]
  refine wpAny_takeL (i := 1) (v := ?_) rfl (by kernel_rfl) (by kernel_rfl) (by kernel_rfl) (fun _ _ _ h => h) (Or.inl ⟨by rfl, ?_⟩) ?_
  rotate_left
  · intro w
    go_simp
    try with_reducible rfl
  simp only [Act.put, List.setIfInBounds_toArray, List.set_cons_zero, List.set_cons_succ]
  refine wpAny_takeL (i := 2) (v := ?_) rfl (by kernel_rfl) (by kernel_rfl) (by kernel_rfl) (fun _ _ _ h => h) (Or.inl ⟨by rfl, ?_⟩) ?_
  rotate_left
  · intro w
    go_simp
    try with_reducible rfl
  simp only [Act.put, List.setIfInBounds_toArray, List.set_cons_zero, List.set_cons_succ]
  refine wpAny_of_idxL [3, 4, 5, 6] [_, _, _, _] _ _ rfl rfl (by kernel_rfl) ?_
  have hb0 := (Below.refl W0.heap.size W0).drew
  have hD := hD.drew
  have hL := hL.drew
  have hB := hB.trans (hb0.mono hB.size)
  clear hb0
  have hz0 : W0.heap.size = W0.drew.heap.size := rfl
  generalize W0.drew = W0 at *
  go_wp2_with fail
  have hwr : IntKind.u64.wrap ((x.toNat : Nat) : Int) = (x.toNat : Int) := by
    have := x.isLt
    simp [IntKind.wrap, IntKind.bits, IntKind.signed]
    omega
  rw [hwr]
  refine (big05_at x.toNat 4 (by omega) W0).mono ?_
  rintro e w1 ⟨v, rfl, hown, hbb⟩
  rw [bigTo_4] at hown
  have hhas := Has.of_owns hown
  obtain ⟨a, n, c', rfl⟩ := hhas.slice
  have hn : n = 4 := by
    have := hhas.len
    rw [List.length_map, Sha.be_length] at this
    exact this
  subst hn
  have hD1 := hD.below hbb hD.lt
  have hL1 := hL.below hbb hL.lt
  have hB1 := hB.trans (hbb.mono hB.size)
  have HH := Lib.hid hhas
  clear hhas hown hbb hD hL hB
  go_wp2_with fail
  have hk := (Below.refl w1.heap.size w1).alloc (Nat.le_refl _) (.cells #[.slice (some ⟨w.heap.size, 0, none⟩) 16 16, .slice a 4 c'] 70)
  have rP := Row.new w1 70 #[.slice (some ⟨w.heap.size, 0, none⟩) 16 16, .slice a 4 c']
  have hD2 := hD1.below hk hD1.lt
  have hL2 := hL1.below hk hL1.lt
  have hB2 := hB1.trans (hk.mono hB1.size)
  have hx2 := HH.out.later hk
  have hlt := hD1.lt
  generalize hW : w1.alloc _ = W1
  have hW' : w1.alloc (.cells #[.slice (some ⟨w.heap.size, 0, none⟩) 16 16, .slice a 4 c'] 70) = W1 := hW
  rw [hW'] at hD2 hL2 hB2 rP hx2
  clear hW hW' hk hD1 hL1 hB1 HH
  refine (digest05_at w1.heap.size 2 (some ⟨w.heap.size, 0, none⟩) a 16 c' L (Sha.be x) W1 HL.out (Sha.be_length x) (rP.cell 0) (has_row hL2 16 16 HL.out (Nat.le_refl _)) (rP.cell 1) hx2).mono ?_
  rintro e w2 ⟨rfl, hb2⟩
  have hD3 := hD2.below hb2 hD2.lt
  have hB3 := hB2.trans (hb2.mono hB2.size)
  clear hD2 hB2 hb2 hL2 rP hx2
  dsimp only
  iterate 1 go_step
  refine wpList_store_row rfl 25 (.tmp 4) _ rfl (w.heap.size + 1) (blk (Sha.digest (framed [word 9, L, Sha.be x]))) rfl rfl 25 z32 hD3 (digInfo _) (digSize _) (blk_one _) ?_
  go_wp2_with fail
  exact bodyPost_ret (results_cell_row Tryz.results43 _ _ _ _ _ _ _ rfl (hD3.setRow (blk (Sha.digest (framed [word 9, L, Sha.be x])))) Tryz.underlying25 rfl (digInfo _)) rfl ⟨rfl, below_setRow hB3 (by omega) _⟩
end Go.Proofs.YtfahbdakhbpfcaaGreat
namespace Go.Proofs.YtfahbdakhbpfcaaGreat
open Go.RowKit

set_option maxRecDepth 100000 in
set_option maxHeartbeats 2000000 in
theorem less_at (bx bY : Nat) (X Y : List UInt8) (a b : Nat) (W : World) (hX : X.length = 32) (hY : Y.length = 32) (hne : X ≠ Y) (cX : ∀ k, k < 32 → W.cell? ⟨bx, k, none⟩ = some (Sha.bv (Sha.at8 X k))) (cY : ∀ k, k < 32 → W.cell? ⟨bY, k, none⟩ = some (Sha.bv (Sha.at8 Y k))) :
    Calls Tryz.prog 44 #[.slice (some ⟨bx, 0, none⟩) 32 32, .slice (some ⟨bY, 0, none⟩) 32 32] W fun e w' =>
      e = .returned (.bool (decide (cmpK (X.map UInt8.toNat ++ [a]) (Y.map UInt8.toNat ++ [b]) < 0))) ∧ ∃ q, w' = W.drewN q := by
  have HX := Lib.hid hX
  have HY := Lib.hid hY
  have HN := Lib.hid hne
  have CX := Lib.hid cX
  have CY := Lib.hid cY
  clear hX hY hne cX cY
  go_enter Tryz.func44, Tryz.ntmps44
  go_wp2_with fail
  go_loopw [5] (fun i wr => ∃ k : Nat, k ≤ 32 ∧ i = .int .i64 k ∧ (∀ j, j < k → Sha.at8 X j = Sha.at8 Y j) ∧ ∃ q, wr = W.drewN q) (fun i _ => 32 - (intOf i).toNat)
  case atStart => exact ⟨0, Nat.zero_le _, rfl, fun j hj => absurd hj (Nat.not_lt_zero _), 0, rfl⟩
  case round =>
    obtain ⟨k, hk, rfl, hsame, q, rfl⟩ := hrel
    by_cases hlt : k < 32
    · have hki : (k : Int) < 32 := by omega
      have ca := CX.out k hlt
      have cb := CY.out k hlt
      have HS := Lib.hid hsame
      clear hsame
      unfold Sha.bv at ca cb
      by_cases heq : Sha.at8 X k = Sha.at8 Y k
      · rw [← heq] at cb
        have HE := Lib.hid heq
        clear heq
        go_wp2_with fail
        go_quiet (fail)
        go_wp2_with fail
        go_roundw
        case rel =>
          refine ⟨k + 1, by omega, by go_num, fun j hj => ?_, q + nq, rfl⟩
          by_cases hjk : j = k
          · subst hjk
            exact HE.out
          · exact HS.out j (by omega)
        case measure => simp [intOf]; omega
      · have hxy : (((Sha.at8 X k).toNat : Int) != ((Sha.at8 Y k).toNat : Int)) = true := by
          simp only [bne_iff_ne, ne_eq]
          intro e
          exact heq (UInt8.toNat_inj.1 (by omega))
        have hres : decide (cmpK (X.map UInt8.toNat ++ [a]) (Y.map UInt8.toNat ++ [b]) < 0) = decide ((Sha.at8 X k).toNat < (Sha.at8 Y k).toNat) := by
          have la := HX.out
          have lb := HY.out
          rw [cmpK_at (X.map UInt8.toNat) (Y.map UInt8.toNat) [a] [b] k (by simp [la, lb]) (fun j hj => ?_) (Sha.at8 X k).toNat (Sha.at8 Y k).toNat (by simp [Sha.at8, la, hlt]) (by simp [Sha.at8, lb, hlt]) (fun e => heq (UInt8.toNat_inj.1 e))]
          · rw [decide_eq_decide]
            omega
          · have h1 : X[j]? = some (X[j]'(by omega)) := List.getElem?_eq_getElem _
            have h2 : Y[j]? = some (Y[j]'(by omega)) := List.getElem?_eq_getElem _
            have h3 := HS.out j hj
            simp only [Sha.at8, List.getD, h1, h2, Option.getD_some] at h3
            simp only [List.getElem?_map, h1, h2, Option.map_some, h3]
        have HR := Lib.hid hres
        clear hres heq
        go_wp2_with fail
        go_quiet (fail)
        go_wp2_with fail
        go_quiet (fail)
        go_wp2_with fail
        go_ret
        exact ⟨by rw [HR.out]; rfl, _, by rw [World.drewN_drewN, World.drewN_drewN]⟩
    · obtain rfl : k = 32 := by omega
      refine absurd (List.ext_getElem? fun j => ?_) HN.out
      by_cases hj : j < 32
      · have h1 : X[j]? = some (X[j]'(by have := HX.out; omega)) := List.getElem?_eq_getElem _
        have h2 : Y[j]? = some (Y[j]'(by have := HY.out; omega)) := List.getElem?_eq_getElem _
        have h3 := hsame j hj
        simp only [Sha.at8, List.getD, h1, h2, Option.getD_some] at h3
        rw [h1, h2, h3]
      · rw [List.getElem?_eq_none (by have := HX.out; omega), List.getElem?_eq_none (by have := HY.out; omega)]
end Go.Proofs.YtfahbdakhbpfcaaGreat
