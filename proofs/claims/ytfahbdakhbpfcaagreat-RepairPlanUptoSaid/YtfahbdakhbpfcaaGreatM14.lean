/-
  Sum02: WALK: strongroomref02.Sum; conditions: at most 2^47 - 328 bytes.
-/
import Derived.Test.YtfahbdakhbpfcaaGreatM13
import Derived.Deep.MidRow
namespace Go.Proofs.YtfahbdakhbpfcaaGreat
open Go.RowKit

/-- a digest as a value -/
def dval (l : List UInt8) : Value := .agg (blk (Sha.digest l))

theorem owns_below1 {w w' : World} {base n B : Nat} {e : TypeId} {v : Value} {xs : List Value} (h : w.ownsRow base e 1 v n xs) (hb : Below B w w') (hB : w.heap.size ≤ B) : w'.ownsRow base e 1 v n xs := by
  refine ⟨h.1, ?_⟩
  rcases h.2 with h0 | ⟨g, cap, cur, rfl, hg, hr, hrest⟩
  · exact .inl h0
  · have hlt : g < w.heap.size := (Array.getElem?_eq_some_iff.1 hr).1
    exact .inr ⟨g, cap, cur, rfl, hg, (hb.block g (by omega)).trans hr, hrest⟩
def z64 : Array Value := #[.int .u8 0, .int .u8 0, .int .u8 0, .int .u8 0, .int .u8 0, .int .u8 0, .int .u8 0, .int .u8 0, .int .u8 0, .int .u8 0, .int .u8 0, .int .u8 0, .int .u8 0, .int .u8 0, .int .u8 0, .int .u8 0, .int .u8 0, .int .u8 0, .int .u8 0, .int .u8 0, .int .u8 0, .int .u8 0, .int .u8 0, .int .u8 0, .int .u8 0, .int .u8 0, .int .u8 0, .int .u8 0, .int .u8 0, .int .u8 0, .int .u8 0, .int .u8 0, .int .u8 0, .int .u8 0, .int .u8 0, .int .u8 0, .int .u8 0, .int .u8 0, .int .u8 0, .int .u8 0, .int .u8 0, .int .u8 0, .int .u8 0, .int .u8 0, .int .u8 0, .int .u8 0, .int .u8 0, .int .u8 0, .int .u8 0, .int .u8 0, .int .u8 0, .int .u8 0, .int .u8 0, .int .u8 0, .int .u8 0, .int .u8 0, .int .u8 0, .int .u8 0, .int .u8 0, .int .u8 0, .int .u8 0, .int .u8 0, .int .u8 0, .int .u8 0]
/-- a block so far copied -/
def bPart (l : List UInt8) (o i : Nat) : Array Value := arr (fun j => if j < i then Sha.bv (Sha.at8 l (o + j)) else .int .u8 0) 64
theorem bPart_zero (l : List UInt8) (o : Nat) : z64 = bPart l o 0 := by kernel_rfl
theorem bPart_set (l : List UInt8) (o i : Nat) : (bPart l o i).setIfInBounds i (Sha.bv (Sha.at8 l (o + i))) = bPart l o (i + 1) := by
  unfold bPart
  rw [arr_set]
  refine arr_congr fun j _ => ?_
  by_cases h : j = i
  · subst h
    simp
  · by_cases h2 : j < i
    · have h3 : j < i + 1 := by omega
      simp [h, h2, h3]
    · have h3 : ¬ j < i + 1 := by omega
      simp [h, h2, h3]
theorem bPart_all (l : List UInt8) (o : Nat) (h : o + 64 ≤ l.length) : bPart l o 64 = blk ((l.drop o).take 64) := by
  apply Array.ext_getElem?
  intro j
  by_cases hj : j < 64
  · have h1 : (bPart l o 64)[j]? = some (Sha.bv (Sha.at8 l (o + j))) := (arr_get _ _ _ hj).trans (by rw [if_pos hj])
    rw [h1]
    have hl : o + j < l.length := by omega
    simp [blk, hj, hl, Sha.at8]
  · simp [bPart, arr, blk, hj]
    omega
theorem pad_len (n : Nat) : (Sha.pad n).length ≤ 72 := by
  have h : (Sha.pad n).length = Sha.zeros n + 1 + 8 := by
    simp [Sha.pad, Sha.be64]
  rw [h]
  unfold Sha.zeros
  omega
def z32 : Array Value := #[.int .u8 0, .int .u8 0, .int .u8 0, .int .u8 0, .int .u8 0, .int .u8 0, .int .u8 0, .int .u8 0, .int .u8 0, .int .u8 0, .int .u8 0, .int .u8 0, .int .u8 0, .int .u8 0, .int .u8 0, .int .u8 0, .int .u8 0, .int .u8 0, .int .u8 0, .int .u8 0, .int .u8 0, .int .u8 0, .int .u8 0, .int .u8 0, .int .u8 0, .int .u8 0, .int .u8 0, .int .u8 0, .int .u8 0, .int .u8 0, .int .u8 0, .int .u8 0]

/-- word q of a state; its bytes -/
def wsel (s : Sha.St) (q : Nat) : Sha.U := ([s.a, s.b, s.c, s.d, s.e, s.f, s.g, s.h] : List Sha.U).getD q 0
def dPart (s : Sha.St) (i : Nat) : Array Value := arr (fun j => if j < i then Sha.bv (Sha.at8 s.bytes j) else .int .u8 0) 32
theorem dPart_zero (s : Sha.St) : z32 = dPart s 0 := by kernel_rfl
theorem dPart_set (s : Sha.St) (i : Nat) : (dPart s i).setIfInBounds i (Sha.bv (Sha.at8 s.bytes i)) = dPart s (i + 1) := by
  unfold dPart
  rw [arr_set]
  refine arr_congr fun j _ => ?_
  by_cases h : j = i
  · subst h
    simp
  · by_cases h2 : j < i
    · have h3 : j < i + 1 := by omega
      simp [h, h2, h3]
    · have h3 : ¬ j < i + 1 := by omega
      simp [h, h2, h3]
theorem wsel_cell (s : Sha.St) (q : Nat) (h : q < 8) : s.cells[q]? = some (Sha.uv (wsel s q)) := by
  rcases (by omega : q = 0 ∨ q = 1 ∨ q = 2 ∨ q = 3 ∨ q = 4 ∨ q = 5 ∨ q = 6 ∨ q = 7) with rfl | rfl | rfl | rfl | rfl | rfl | rfl | rfl <;> rfl
theorem wsel_byte (s : Sha.St) (q r : Nat) (hq : q < 8) (hr : r < 4) : Sha.at8 s.bytes (4 * q + r) = UInt8.ofNat ((wsel s q).toNat / 2 ^ (24 - 8 * r)) := by
  have h2 : ∀ n : Nat, n / 2 ^ 0 = n := fun n => by simp
  rcases (by omega : q = 0 ∨ q = 1 ∨ q = 2 ∨ q = 3 ∨ q = 4 ∨ q = 5 ∨ q = 6 ∨ q = 7) with rfl | rfl | rfl | rfl | rfl | rfl | rfl | rfl <;>
    rcases (by omega : r = 0 ∨ r = 1 ∨ r = 2 ∨ r = 3) with rfl | rfl | rfl | rfl <;>
    simp [Sha.at8, Sha.St.bytes, Sha.be, wsel]
theorem byte0 (s : Sha.St) (q : Nat) (hq : q < 8) : ((wsel s q).toNat : Int) / 16777216 = ((Sha.at8 s.bytes (4 * q)).toNat : Int) := by
  have h := wsel_byte s q 0 hq (by omega)
  simp only [Nat.add_zero] at h
  rw [h]
  have := (wsel s q).isLt
  simp
  omega
theorem byte1 (s : Sha.St) (q : Nat) (hq : q < 8) : ((wsel s q).toNat : Int) / 65536 % 256 = ((Sha.at8 s.bytes (4 * q + 1)).toNat : Int) := by
  rw [wsel_byte s q 1 hq (by omega)]
  simp
theorem byte2 (s : Sha.St) (q : Nat) (hq : q < 8) : ((wsel s q).toNat : Int) / 256 % 256 = ((Sha.at8 s.bytes (4 * q + 2)).toNat : Int) := by
  rw [wsel_byte s q 2 hq (by omega)]
  simp
theorem byte3 (s : Sha.St) (q : Nat) (hq : q < 8) : ((wsel s q).toNat : Int) % 256 = ((Sha.at8 s.bytes (4 * q + 3)).toNat : Int) := by
  rw [wsel_byte s q 3 hq (by omega)]
  simp
theorem dPart_all (s : Sha.St) : dPart s 32 = blk s.bytes := by
  apply Array.ext_getElem?
  intro j
  by_cases hj : j < 32
  · have h1 : (dPart s 32)[j]? = some (Sha.bv (Sha.at8 s.bytes j)) := (arr_get _ _ _ hj).trans (by rw [if_pos hj])
    rw [h1]
    have hl : j < s.bytes.length := hj
    simp [blk, Sha.at8, hl]
  · have h2 : (blk s.bytes).size = 32 := by simp [blk, Sha.bytes_length]
    simp [dPart, arr, hj, h2]
theorem blk_one (l : List UInt8) : (blk l).all (·.oneCell') = true := by simp [blk, Value.oneCell']
theorem z32_size : z32.size = 32 := rfl
theorem dig_size (s : Sha.St) : (blk s.bytes).size = 32 := by simp [blk, Sha.bytes_length]
theorem dig_info0 : (Tryz.prog.info? 25).map (·.size) = some 32 := by kernel_rfl
theorem dig_info (s : Sha.St) : (Tryz.prog.info? 25).map (·.size) = some (blk s.bytes).size := by
  rw [dig_size]
  exact dig_info0
theorem cells_size (s : Sha.St) : s.cells.size = 8 := rfl
theorem cells_info (s : Sha.St) : (Tryz.prog.info? 128).map (·.size) = some s.cells.size := by
  rw [cells_size]
  exact arr8_size

set_option maxRecDepth 100000 in
set_option maxHeartbeats 4000000 in
theorem sum02_at (p : Option Addr) (n c : Nat) (x : List UInt8) (w : World) (hx : Has w (.slice p n c) (x.map Sha.bv)) (hm : n ≤ 140737488355000) :
    Calls Tryz.prog 67 #[.slice p n c] w fun e w' => e = .returned (dval x) ∧ Below w.heap.size w w' := by
  obtain ⟨i0, hi, hz0, hz1, hz2⟩ := info_parts info_u8
  have hn : n = x.length := by
    have h := hx
    rcases h with ⟨h, h0⟩ | ⟨a, c', h, _, _⟩
    · simp only [Value.slice.injEq] at h
      have : x = [] := by simpa using h0
      simp [this, h.2.1]
    · simp only [Value.slice.injEq] at h
      simpa using h.2.1
  have HN := Lib.hid hn
  clear hn
  go_enter Tryz.func67, Tryz.ntmps67
  have D0 := Lib.hid (Row.new w 25 z32)
  have B0 := Lib.hid ((Below.refl w.heap.size w).alloc (Nat.le_refl _) (.cells z32 25))
  have X0 := Lib.hid (hx.later ((Below.refl w.heap.size w).alloc (Nat.le_refl _) (.cells z32 25)))
  iterate 11 go_step
  generalize hW : w.alloc _ = W0
  have hW' : w.alloc (.cells z32 25) = W0 := hW
  have hs0 : W0.heap.size = w.heap.size + 1 := by rw [← hW]; simp
  have D1 := Lib.hid (hW' ▸ D0.out)
  have B1 := Lib.hid (hW' ▸ B0.out)
  have X1 := Lib.hid (hW' ▸ X0.out)
  clear hW hW' D0 B0 X0 hx
  go_wp2_with (at_builtin; refine wpList_append_has rfl (.tmp 12) (.tmp 13) 70 rfl (w.heap.size + 1) 5 i0 (.int .u8 0) 1 Tryz.underlying70 hi hz0 hz1 hz2 rfl _ 0 [] rfl (World.ownsRow_nil _ _ _ _) _ (x.map Sha.bv) rfl ?h1 ?h2 ?h3 ?h4 ?h5 ?_)
  case h1 => exact X1.out
  case h2 => exact one_bytes _
  case h3 => have := HN.out; simp only [List.length_map]; unfold maxLen; omega
  case h4 => have := HN.out; simp only [List.length_map]; omega
  case h5 => omega
  intro v1 w1 hown1 hgrow1
  have hown1 : w1.ownsRow (w.heap.size + 1) 5 1 v1 x.length (x.map Sha.bv) := by simpa using hown1
  have hb1 : Below (w.heap.size + 1) W0 w1 := (Below.refl _ _).grown hgrow1 (by omega) (fun k hk => by simp [Value.ownBlock] at hk)
  clear hgrow1
  go_wp2_with fail
  refine (pad02_at n (by omega) w1).mono ?_
  rintro e w2 ⟨v2, rfl, hown2, hb2⟩
  have hpl := pad_len n
  have hown1 := owns_below1 hown1 hb2 (Nat.le_refl _)
  have hp2 := Has.of_owns hown2
  have hxl := HN.out
  have HPL := Lib.hid hpl
  clear hpl hown2 hxl
  go_wp2_with (at_builtin; refine wpList_append_has rfl (.tmp 21) (.tmp 22) 70 rfl (w.heap.size + 1) 5 i0 (.int .u8 0) 1 Tryz.underlying70 hi hz0 hz1 hz2 rfl _ x.length _ rfl hown1 _ ((Sha.pad n).map Sha.bv) rfl ?g1 ?g2 ?g3 ?g4 ?g5 ?_)
  case g1 => exact hp2
  case g2 => exact one_bytes _
  case g3 => have := HN.out; have := HPL.out; simp only [List.length_map]; unfold maxLen; omega
  case g4 => have := HN.out; have := HPL.out; simp only [List.length_map]; omega
  case g5 => have := hb1.size; have := hb2.size; omega
  intro v3 w3 hown3 hgrow3
  have hs1 := hb1.size
  have hs2 := hb2.size
  have hb3 : Below (w.heap.size + 1) W0 w3 := (hb1.trans (hb2.mono (by omega))).grown hgrow3 (by omega) (fun k hk => (hown1.lt k hk).1)
  rw [← List.map_append] at hown3
  have hL : x.length + (Sha.pad n).length = (x ++ Sha.pad n).length := by simp
  rw [hL] at hown3
  have hLb : (x ++ Sha.pad n).length ≤ 140737488355328 := by
    have := HN.out
    have := HPL.out
    simp only [List.length_append]
    omega
  have he : x ++ Sha.pad n = x ++ Sha.pad x.length := by rw [← HN.out]
  have HE := Lib.hid he
  clear he
  generalize x ++ Sha.pad n = B at *
  have D3 := Lib.hid (D1.out.below hb3 (by omega))
  have B3 := Lib.hid (B1.out.trans (hb3.mono (by omega)))
  have hs3 := hb3.size
  clear hgrow3 hown1 hp2 hb1 hb2 hL D1 B1 X1 hb3
  go_wp2_with fail
  refine (initial02_at w3).mono ?_
  rintro e w4 ⟨rfl, hb4⟩
  simp only [Sha.St.cells]
  go_wp2_with fail
  have rH : Row (w4.alloc (.cells Sha.init.cells 128)) w4.heap.size 128 Sha.init.cells := Row.new _ _ _
  have hown4 := (owns_below1 hown3 hb4 (Nat.le_refl _)).alloc (.cells Sha.init.cells 128)
  have rD := (D3.out.below hb4 (by omega)).alloc (.cells Sha.init.cells 128)
  have hbb := (B3.out.trans (hb4.mono (by omega))).alloc (by have := hb4.size; omega) (.cells Sha.init.cells 128)
  have hs4 := hb4.size
  generalize hW5 : w4.alloc _ = W5
  have hW5' : w4.alloc (.cells Sha.init.cells 128) = W5 := hW5
  rw [hW5'] at rH hown4 rD hbb
  have h45 : w4.heap.size < W5.heap.size := rH.lt
  have hlt3 := hown3.lt
  clear hW5 hW5' hown3 hb4 D3 B3
  obtain ⟨g, cap, rfl, hcap⟩ : ∃ g cap, v3 = .slice (some ⟨g, 0, none⟩) B.length cap ∧ B.length ≤ cap := by
    rcases hown4.2 with ⟨_, h0⟩ | ⟨g, cap, _, rfl, _, _, hc, _⟩
    · exfalso
      have h1 := HE.out
      rw [h1] at h0
      simp [Sha.pad] at h0
    · exact ⟨g, cap, rfl, hc⟩
  have hcells : ∀ (j : Nat) u, (B.map Sha.bv)[j]? = some u → W5.cell? ⟨g, j, none⟩ = some u := fun j u hu => by
    have h := hown4.cells rfl j u hu
    simpa [Addr.add_mid] using h
  have hgl := (hown4.lt g rfl).2
  have hg1 := (hown4.lt g rfl).1
  have hg3 := (hlt3 g rfl).2
  have hg4 : g < w4.heap.size := by omega
  clear hlt3 hg3
  have HC := Lib.hid hcells
  clear hcells
  go_loopw [7] (fun p wr => ∃ (k : Nat) (s : Sha.St), 64 * k ≤ B.length ∧ p = .int .i64 (64 * (k : Int)) ∧ Row wr w4.heap.size 128 s.cells ∧ Sha.absorb s (B.drop (64 * k)) = Sha.absorb Sha.init B ∧ (∀ (j : Nat) u, (B.map Sha.bv)[j]? = some u → wr.cell? ⟨g, j, none⟩ = some u) ∧ Row wr w.heap.size 25 z32 ∧ Below w.heap.size w wr ∧ W5.heap.size ≤ wr.heap.size) (fun p _ => B.length + 1 - (intOf p).toNat)
  case atStart => exact ⟨0, Sha.init, by omega, rfl, rH, by simp, HC.out, rD, hbb, Nat.le_refl _⟩
  case round =>
    clear rH rD hbb hown4
    obtain ⟨k, s, hk, rfl, rH, habs, hcl, rD, hb, hsz⟩ := hrel
    have HA := Lib.hid habs
    have HCL := Lib.hid hcl
    clear habs hcl
    by_cases hlt : 64 * k + 64 ≤ B.length
    · have hd : decide (64 * (k : Int) + 64 ≤ (B.length : Int)) = true := decide_eq_true (by omega)
      have hcd : (64 * (k : Int) + 64 ≤ (B.length : Int)) := by omega
      go_wp2_with fail
      have rB : Row (wr.alloc (.cells z64 130)) wr.heap.size 130 (bPart B (64 * k) 0) := by
        rw [← bPart_zero B (64 * k)]
        exact Row.new wr _ z64
      have rH := rH.alloc (.cells z64 130)
      have rD := rD.alloc (.cells z64 130)
      have hb := hb.alloc hb.size (.cells z64 130)
      have hcl : ∀ (j : Nat) u, (B.map Sha.bv)[j]? = some u → (wr.alloc (.cells z64 130)).cell? ⟨g, j, none⟩ = some u := fun j u hu => cell_al _ (HCL.out j u hu)
      have HCL := Lib.hid hcl
      clear hcl
      have hlH := rH.lt
      generalize hW6 : wr.alloc _ = W6
      have hW6' : wr.alloc (.cells z64 130) = W6 := hW6
      rw [hW6'] at rB rH rD hb HCL
      have hsz6 : W5.heap.size ≤ W6.heap.size := by rw [← hW6']; simp; omega
      have hs6 : wr.heap.size < W6.heap.size := rB.lt
      clear hW6 hW6' hd
      generalize hb8 : wr.heap.size = b8 at *
      have hsz8 : W5.heap.size ≤ b8 := hsz
      have hw8 : w.heap.size < b8 := by have := rD.lt; omega
      clear hb8 hsz
      go_loopw [9] (fun q wr2 => ∃ i : Nat, i ≤ 64 ∧ q = .int .i64 i ∧ Row wr2 b8 130 (bPart B (64 * k) i) ∧ Row wr2 w4.heap.size 128 s.cells ∧ (∀ (j : Nat) u, (B.map Sha.bv)[j]? = some u → wr2.cell? ⟨g, j, none⟩ = some u) ∧ Row wr2 w.heap.size 25 z32 ∧ Below w.heap.size w wr2 ∧ W5.heap.size ≤ wr2.heap.size) (fun q _ => 64 - (intOf q).toNat)
      case atStart => exact ⟨0, Nat.zero_le _, rfl, rB, rH, HCL.out, rD, hb, hsz6⟩
      case round =>
        clear rB rH rD hb hsz6 hs6 HCL
        obtain ⟨i, hi, rfl, rB, rH, hcl, rD, hb, hsz6⟩ := hrel
        have HCL := Lib.hid hcl
        clear hcl
        iterate 14 go_step
        · have hi64 : i < 64 := by
            have : (i : Int) < 64 := by assumption
            omega
          have hx1 : 64 * (k : Int) + (i : Int) < (B.length : Int) := by omega
          have t1 : (64 * (k : Int) + (i : Int)).toNat = 64 * k + i := by omega
          have c1 : wr.cell? ⟨g, 64 * k + i, none⟩ = some (Sha.bv (Sha.at8 B (64 * k + i))) := HCL.out _ _ (by
            have hl : 64 * k + i < B.length := by omega
            simp [Sha.at8, hl])
          have c2 : wr.cell? ⟨b8, i, none⟩ = some (.int .u8 0) := (rB.cell i).trans ((arr_get _ _ _ hi64).trans (by simp))
          have f2 := rB.frozen i
          go_wp2_with fail
          have tB := rB.store i (Sha.bv (Sha.at8 B (64 * k + i)))
          rw [bPart_set] at tB
          have tH := rH.other ⟨b8, i, none⟩ (Sha.bv (Sha.at8 B (64 * k + i))) (by simp; omega)
          have tD := rD.other ⟨b8, i, none⟩ (Sha.bv (Sha.at8 B (64 * k + i))) (by simp; omega)
          have tb := hb.setCell (p := ⟨b8, i, none⟩) (by simp; omega) (Sha.bv (Sha.at8 B (64 * k + i)))
          have tc : ∀ (j : Nat) u, (B.map Sha.bv)[j]? = some u → (wr.setCell ⟨b8, i, none⟩ (Sha.bv (Sha.at8 B (64 * k + i)))).cell? ⟨g, j, none⟩ = some u := fun j u hu => by
            rw [World.cell?_setCell_other _ _ _ _ (by intro e; injection e with e1; omega)]
            exact HCL.out j u hu
          refine ⟨⟨i + 1, by omega, by go_num, tB, tH, tc, tD, tb, by simpa using hsz6⟩, ?_⟩
          simp [intOf]
          omega
        · have hi' : i = 64 := by
            have : (64 : Int) ≤ (i : Int) := by assumption
            omega
          subst hi'
          have hB : Row wr b8 130 (blk ((B.drop (64 * k)).take 64)) := by rw [← bPart_all B (64 * k) hlt]; exact rB
          have hl64 : ((B.drop (64 * k)).take 64).length = 64 := by simp; omega
          iterate 6 go_step
          refine wpList_load_row rfl 128 (.tmp 6) rfl w4.heap.size rfl 128 s.cells (0, 0) _ rH Tryz.underlying128 rfl arr8_size ?_
          refine wpList_load_row rfl 130 (.tmp 8) rfl b8 rfl 130 (blk ((B.drop (64 * k)).take 64)) (0, 0) _ hB Tryz.underlying130 rfl (blk_info _ hl64) ?_
          go_wp2_with fail
          refine (mix02_at s ((B.drop (64 * k)).take 64) hl64 _).mono ?_
          generalize hm : Sha.mix s ((B.drop (64 * k)).take 64) = m
          have HM := Lib.hid hm
          clear hm
          rintro e w7 ⟨rfl, hb7⟩
          dsimp only
          iterate 1 go_step
          have sH := rH.below hb7 rH.lt
          refine wpList_store_row rfl 128 (.tmp 6) _ rfl w4.heap.size m.cells rfl rfl 128 s.cells sH (cells_info m) ((cells_size s).trans (cells_size m).symm) (cells_one _) ?_
          have tH := sH.setRow m.cells
          have tD := (rD.below hb7 rD.lt).setRow_other (g := w4.heap.size) m.cells (by omega)
          have tb := below_setRow (hb.trans (hb7.mono hb.size)) (b := w4.heap.size) (by omega) m.cells
          have tz : W5.heap.size ≤ (w7.setRow w4.heap.size m.cells).heap.size := by
            rw [setRow_size]
            have := hb7.size
            omega
          have tc : ∀ (j : Nat) u, (B.map Sha.bv)[j]? = some u → (w7.setRow w4.heap.size m.cells).cell? ⟨g, j, none⟩ = some u := fun j u hu => by
            rw [cell_setRow_other _ _ _ _ (by simp; omega)]
            exact (hb7.cell (p := ⟨g, j, none⟩) (by simp; omega)).trans (HCL.out j u hu)
          have ta : Sha.absorb m (B.drop (64 * (k + 1))) = Sha.absorb Sha.init B := by
            have e64 : 64 * (k + 1) = 64 * k + 64 := by omega
            rw [e64, ← HA.out, Sha.absorb_ge s (B.drop (64 * k)) (by simp; omega), List.drop_drop, HM.out]
          clear rH rD rB hb hb7 HCL hB sH HA
          go_wp2_with fail
          refine ⟨⟨k + 1, _, by omega, congrArg (Value.int .i64) (by omega), tH, ta, tc, tD, tb, tz⟩, ?_⟩
          simp [intOf]
          omega
    · have hd : decide (64 * (k : Int) + 64 ≤ (B.length : Int)) = false := decide_eq_false (by omega)
      go_wp2_with fail
      have rH := rH.alloc (.cells z32 25)
      have rD := rD.alloc (.cells z32 25)
      have hb := hb.alloc hb.size (.cells z32 25)
      have rE : Row (wr.alloc (.cells z32 25)) wr.heap.size 25 (dPart s 0) := by
        rw [← dPart_zero s]
        exact Row.new wr _ z32
      have hs : s = Sha.absorb Sha.init B := by
        rw [← HA.out, Sha.absorb_lt _ _ (by simp; omega)]
      have HS := Lib.hid hs
      have hw8 : w4.heap.size < wr.heap.size := by omega
      have hlD := rD.lt
      clear hs hd HA HCL
      generalize hW6 : wr.alloc _ = W6
      have hW6' : wr.alloc (.cells z32 25) = W6 := hW6
      rw [hW6'] at rE rH rD hb
      clear hW6 hW6'
      generalize wr.heap.size = b8 at *
      go_loopw [11] (fun q wr2 => ∃ i : Nat, i ≤ 32 ∧ q = .int .i64 i ∧ Row wr2 b8 25 (dPart s i) ∧ Row wr2 w4.heap.size 128 s.cells ∧ Row wr2 w.heap.size 25 z32 ∧ Below w.heap.size w wr2) (fun q _ => 32 - (intOf q).toNat)
      case atStart => exact ⟨0, Nat.zero_le _, rfl, rE, rH, rD, hb⟩
      case round =>
        clear rE rH rD hb
        obtain ⟨i, hi, rfl, rE, rH, rD, hb⟩ := hrel
        iterate 14 go_step
        · have hi32 : i < 32 := by
            have : (i : Int) < 32 := by assumption
            omega
          obtain ⟨q, r, hr, hq, rfl⟩ : ∃ q r, r < 4 ∧ q < 8 ∧ i = 4 * q + r := ⟨i / 4, i % 4, by omega, by omega, by omega⟩
          have c1 : wr.cell? ⟨w4.heap.size, q, none⟩ = some (Sha.uv (wsel s q)) := (rH.cell q).trans (wsel_cell s q hq)
          rcases (by omega : r = 0 ∨ r = 1 ∨ r = 2 ∨ r = 3) with rfl | rfl | rfl | rfl
          · have c2 : wr.cell? ⟨b8, 4 * q, none⟩ = some (.int .u8 0) := (rE.cell _).trans ((arr_get _ _ _ hi32).trans (by simp))
            have f2 := rE.frozen (4 * q)
            have d1 : (4 * q) / 4 = q := by omega
            have d2 : (4 * (q : Int)) / 4 = (q : Int) := by omega
            have d3 : (4 * (q : Int)) % 4 = 0 := by omega
            have d4 : (4 * q) % 4 = 0 := by omega
            go_wp2_with fail
            rw [show ((↑(wsel s q).toNat / 16777216 : Int)) = ((Sha.at8 s.bytes (4 * q)).toNat : Int) from byte0 s q hq]
            have tE := rE.store (4 * q) (Sha.bv (Sha.at8 s.bytes (4 * q)))
            rw [Nat.add_zero, dPart_set] at tE
            have tH := rH.other ⟨b8, 4 * q, none⟩ (Sha.bv (Sha.at8 s.bytes (4 * q))) (by simp; omega)
            have tD := rD.other ⟨b8, 4 * q, none⟩ (Sha.bv (Sha.at8 s.bytes (4 * q))) (by simp; omega)
            have tb := hb.setCell (p := ⟨b8, 4 * q, none⟩) (by simp; omega) (Sha.bv (Sha.at8 s.bytes (4 * q)))
            refine ⟨⟨4 * q + 1, by omega, congrArg (Value.int .i64) (by omega), tE, tH, tD, tb⟩, ?_⟩
            simp [intOf]
            omega
          · have c2 : wr.cell? ⟨b8, 4 * q + 1, none⟩ = some (.int .u8 0) := (rE.cell _).trans ((arr_get _ _ _ hi32).trans (by simp))
            have f2 := rE.frozen (4 * q + 1)
            have d1 : (4 * q + 1) / 4 = q := by omega
            have d2 : (4 * (q : Int) + 1) / 4 = (q : Int) := by omega
            have d3 : (4 * (q : Int) + 1) % 4 = 1 := by omega
            have d4 : (4 * q + 1) % 4 = 1 := by omega
            go_wp2_with fail
            rw [show ((↑(wsel s q).toNat / 65536 % 256 : Int)) = ((Sha.at8 s.bytes (4 * q + 1)).toNat : Int) from byte1 s q hq]
            have tE := rE.store (4 * q + 1) (Sha.bv (Sha.at8 s.bytes (4 * q + 1)))
            rw [dPart_set] at tE
            have tH := rH.other ⟨b8, 4 * q + 1, none⟩ (Sha.bv (Sha.at8 s.bytes (4 * q + 1))) (by simp; omega)
            have tD := rD.other ⟨b8, 4 * q + 1, none⟩ (Sha.bv (Sha.at8 s.bytes (4 * q + 1))) (by simp; omega)
            have tb := hb.setCell (p := ⟨b8, 4 * q + 1, none⟩) (by simp; omega) (Sha.bv (Sha.at8 s.bytes (4 * q + 1)))
            refine ⟨⟨4 * q + 1 + 1, by omega, congrArg (Value.int .i64) (by omega), tE, tH, tD, tb⟩, ?_⟩
            simp [intOf]
            omega
          · have c2 : wr.cell? ⟨b8, 4 * q + 2, none⟩ = some (.int .u8 0) := (rE.cell _).trans ((arr_get _ _ _ hi32).trans (by simp))
            have f2 := rE.frozen (4 * q + 2)
            have d1 : (4 * q + 2) / 4 = q := by omega
            have d2 : (4 * (q : Int) + 2) / 4 = (q : Int) := by omega
            have d3 : (4 * (q : Int) + 2) % 4 = 2 := by omega
            have d4 : (4 * q + 2) % 4 = 2 := by omega
            go_wp2_with fail
            rw [show ((↑(wsel s q).toNat / 256 % 256 : Int)) = ((Sha.at8 s.bytes (4 * q + 2)).toNat : Int) from byte2 s q hq]
            have tE := rE.store (4 * q + 2) (Sha.bv (Sha.at8 s.bytes (4 * q + 2)))
            rw [dPart_set] at tE
            have tH := rH.other ⟨b8, 4 * q + 2, none⟩ (Sha.bv (Sha.at8 s.bytes (4 * q + 2))) (by simp; omega)
            have tD := rD.other ⟨b8, 4 * q + 2, none⟩ (Sha.bv (Sha.at8 s.bytes (4 * q + 2))) (by simp; omega)
            have tb := hb.setCell (p := ⟨b8, 4 * q + 2, none⟩) (by simp; omega) (Sha.bv (Sha.at8 s.bytes (4 * q + 2)))
            refine ⟨⟨4 * q + 2 + 1, by omega, congrArg (Value.int .i64) (by omega), tE, tH, tD, tb⟩, ?_⟩
            simp [intOf]
            omega
          · have c2 : wr.cell? ⟨b8, 4 * q + 3, none⟩ = some (.int .u8 0) := (rE.cell _).trans ((arr_get _ _ _ hi32).trans (by simp))
            have f2 := rE.frozen (4 * q + 3)
            have d1 : (4 * q + 3) / 4 = q := by omega
            have d2 : (4 * (q : Int) + 3) / 4 = (q : Int) := by omega
            have d3 : (4 * (q : Int) + 3) % 4 = 3 := by omega
            have d4 : (4 * q + 3) % 4 = 3 := by omega
            go_wp2_with fail
            rw [show ((↑(wsel s q).toNat % 256 : Int)) = ((Sha.at8 s.bytes (4 * q + 3)).toNat : Int) from byte3 s q hq]
            have tE := rE.store (4 * q + 3) (Sha.bv (Sha.at8 s.bytes (4 * q + 3)))
            rw [dPart_set] at tE
            have tH := rH.other ⟨b8, 4 * q + 3, none⟩ (Sha.bv (Sha.at8 s.bytes (4 * q + 3))) (by simp; omega)
            have tD := rD.other ⟨b8, 4 * q + 3, none⟩ (Sha.bv (Sha.at8 s.bytes (4 * q + 3))) (by simp; omega)
            have tb := hb.setCell (p := ⟨b8, 4 * q + 3, none⟩) (by simp; omega) (Sha.bv (Sha.at8 s.bytes (4 * q + 3)))
            refine ⟨⟨4 * q + 3 + 1, by omega, congrArg (Value.int .i64) (by omega), tE, tH, tD, tb⟩, ?_⟩
            simp [intOf]
            omega
        · have hi' : i = 32 := by
            have : (32 : Int) ≤ (i : Int) := by assumption
            omega
          subst hi'
          rw [dPart_all] at rE
          iterate 7 go_step
          refine wpList_load_row rfl 25 (.tmp 10) rfl b8 rfl 25 (blk s.bytes) (0, 0) _ rE Tryz.underlying25 rfl (dig_info s) ?_
          refine wpList_store_row rfl 25 (.tmp 2) _ rfl w.heap.size (blk s.bytes) rfl rfl 25 z32 rD (dig_info s) ((z32_size).trans (dig_size s).symm) (blk_one _) ?_
          go_wp2_with fail
          refine bodyPost_ret (results_cell_row Tryz.results67 _ _ _ _ _ _ _ rfl (rD.setRow (blk s.bytes)) Tryz.underlying25 rfl (dig_info s)) rfl ⟨?_, below_setRow hb (Nat.le_refl _) _⟩
          rw [HS.out, HE.out]
          rfl
end Go.Proofs.YtfahbdakhbpfcaaGreat
