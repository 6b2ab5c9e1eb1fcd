/-
  HSum: WALK: sha.Hash.Sum; conditions: at most 2^47 bytes taken.
-/
import Derived.Test.YtfahbdakhbpfcaaGreatM15
import Derived.Test.YtfahbdakhbpfcaaGreatM16
import Derived.Test.YtfahbdakhbpfcaaGreatM18
import Derived.Laws.CopyOwn
import Derived.IntWalk
namespace Go.Proofs.YtfahbdakhbpfcaaGreat
open Go.RowKit

theorem dig_z32 : (Tryz.prog.info? 25).map (·.size) = some z32.size := dig_info0
theorem u8_size : (Tryz.prog.info? 5).map (·.size) = some 1 := by kernel_rfl
theorem z32_one : z32.all (·.oneCell') = true := by kernel_rfl
theorem zero_bytes : blk stZero.bytes = z32 := by kernel_rfl
/-- a digest so far copied -/
def hPart (s : Sha.St) (i : Nat) : List Value := (s.bytes.take (4 * i)).map Sha.bv ++ List.replicate (32 - 4 * i) (.int .u8 0)
theorem hPart_zero (s : Sha.St) : (hPart s 0).toArray = z32 := rfl
theorem hPart_all (s : Sha.St) : (hPart s 8).toArray = blk s.bytes := rfl
theorem hPart_len (s : Sha.St) (i : Nat) (h : i ≤ 8) : (hPart s i).length = 32 := by
  simp [hPart, Sha.bytes_length]
  omega
theorem hPart_splice (s : Sha.St) (i : Nat) (h : i < 8) : splice (hPart s i) (4 * i) ((Sha.be (wsel s i)).map Sha.bv) = hPart s (i + 1) := by
  rcases (by omega : i = 0 ∨ i = 1 ∨ i = 2 ∨ i = 3 ∨ i = 4 ∨ i = 5 ∨ i = 6 ∨ i = 7) with rfl | rfl | rfl | rfl | rfl | rfl | rfl | rfl <;> rfl
theorem widx (s : Sha.St) (i : Nat) (h : i < 8) (w : World) : (Instr.index 139 (.agg s.cells) (.int .i64 i)).run Tryz.prog w = .ok (Sha.uv (wsel s i)) w := by
  rcases (by omega : i = 0 ∨ i = 1 ∨ i = 2 ∨ i = 3 ∨ i = 4 ∨ i = 5 ∨ i = 6 ∨ i = 7) with rfl | rfl | rfl | rfl | rfl | rfl | rfl | rfl <;> kernel_rfl
theorem left_len (x : List UInt8) : (Sha.left x).length = x.length % 64 := by
  unfold Sha.left
  rw [List.length_drop]
  omega
theorem pad_length (n : Nat) : (Sha.pad n).length = Sha.zeros n + 9 := by
  simp [Sha.pad, Sha.be64]
theorem tail_mod (x : List UInt8) (n : Nat) (h : x.length = n) : (Sha.left x ++ Sha.pad n).length % 64 = 0 := by
  have := Sha.zeros_spec n
  rw [List.length_append, left_len, pad_length, h]
  omega

set_option maxRecDepth 100000 in
set_option maxHeartbeats 4000000 in
theorem hsum_at (b n : Nat) (p : Option Addr) (m c : Nat) (x : List UInt8) (w : World) (hr : Row w b 141 (hCells (Sha.absorb Sha.init x) (.slice p m c) n)) (hrest : Has w (.slice p m c) ((Sha.left x).map Sha.bv)) (hn : x.length = n) (hm : n ≤ 140737488355328) :
    Calls Tryz.prog 74 #[.pointer (some ⟨b, 0, none⟩)] w fun e w' => e = .returned (dval x) ∧ Below w.heap.size w w' := by
  have HN := Lib.hid hn
  clear hn
  have hlb := hr.lt
  have H0 := Lib.hid ((hr.alloc (.cells z32 25)).alloc (.cells z32 25))
  have R0 := Lib.hid (hrest.later (((Below.refl w.heap.size w).alloc (Nat.le_refl _) (.cells z32 25)).alloc (by simp) (.cells z32 25)))
  clear hr hrest
  have D0 := Lib.hid ((Row.new w 25 z32).alloc (.cells z32 25))
  have E0 := Lib.hid (Row.new (w.alloc (.cells z32 25)) 25 z32)
  have B0 := Lib.hid (((Below.refl w.heap.size w).alloc (Nat.le_refl _) (.cells z32 25)).alloc (by simp) (.cells z32 25))
  go_enter Tryz.func74, Tryz.ntmps74
  iterate 14 go_step
  generalize hW : (w.alloc _).alloc _ = W0
  have hW' : (w.alloc (.cells z32 25)).alloc (.cells z32 25) = W0 := hW
  have hs0 : W0.heap.size = w.heap.size + 2 := by rw [← hW]; simp
  have hD := hW' ▸ D0.out
  have hE : Row W0 (w.heap.size + 1) 25 z32 := by
    have h := hW' ▸ E0.out
    simpa using h
  have hB := hW' ▸ B0.out
  have hH := hW' ▸ H0.out
  have hR := hW' ▸ R0.out
  clear hW hW' D0 E0 B0 H0 R0
  have c0 : W0.cell? ⟨b, 0, none⟩ = some (.bool true) := hH.cell 0
  have c10 : W0.cell? ⟨b, 10, none⟩ = some (.int .i64 n) := hH.cell 10
  go_wp2_with fail
  refine (ok_at b W0 c0).mono ?_
  rintro e w1 ⟨rfl, rfl⟩
  go_wp2_with fail
  refine (pad_at n (by omega) _).mono ?_
  rintro e w2 ⟨v2, rfl, hown2, hb2⟩
  have hp2 : Has w2 v2 ((Sha.pad n).map Sha.bv) := Has.of_owns hown2
  obtain ⟨a2, n2, c2, rfl⟩ := hp2.slice
  have hn2 : n2 = (Sha.pad n).length := by simpa using hp2.len
  have hH2 := hH.below hb2 (by omega)
  have hD2 := hD.below hb2 (by omega)
  have hE2 := hE.below hb2 (by omega)
  have hR2 := hR.later hb2
  have hB2 := hB.trans (hb2.mono (by omega))
  have hs2 := hb2.size
  clear hown2 hH hD hE hR hB hb2 c0 c10
  generalize hS : Sha.absorb Sha.init x = s0 at *
  have HS := Lib.hid hS
  clear hS
  have k1 : w2.cell? ⟨b, 1, none⟩ = some (Sha.uv s0.a) := hH2.cell 1
  have k2 : w2.cell? ⟨b, 2, none⟩ = some (Sha.uv s0.b) := hH2.cell 2
  have k3 : w2.cell? ⟨b, 3, none⟩ = some (Sha.uv s0.c) := hH2.cell 3
  have k4 : w2.cell? ⟨b, 4, none⟩ = some (Sha.uv s0.d) := hH2.cell 4
  have k5 : w2.cell? ⟨b, 5, none⟩ = some (Sha.uv s0.e) := hH2.cell 5
  have k6 : w2.cell? ⟨b, 6, none⟩ = some (Sha.uv s0.f) := hH2.cell 6
  have k7 : w2.cell? ⟨b, 7, none⟩ = some (Sha.uv s0.g) := hH2.cell 7
  have k8 : w2.cell? ⟨b, 8, none⟩ = some (Sha.uv s0.h) := hH2.cell 8
  have k9 : w2.cell? ⟨b, 9, none⟩ = some (.slice p m c) := hH2.cell 9
  have hlb2 : b < w2.heap.size := by omega
  have HP := Lib.hid hn2
  clear hn2
  go_wp2_with fail
  have rX := (Row.new w2 139 s0.cells).alloc (.cells #[.slice p m c, .slice a2 n2 c2] 70)
  have rP := Row.new (w2.alloc (.cells s0.cells 139)) 70 #[.slice p m c, .slice a2 n2 c2]
  have rD := (hD2.alloc (.cells s0.cells 139)).alloc (.cells #[.slice p m c, .slice a2 n2 c2] 70)
  have rE := (hE2.alloc (.cells s0.cells 139)).alloc (.cells #[.slice p m c, .slice a2 n2 c2] 70)
  have hw3 := ((Below.refl w2.heap.size w2).alloc (Nat.le_refl _) (.cells s0.cells 139)).alloc (by simp) (.cells #[.slice p m c, .slice a2 n2 c2] 70)
  have hR3 := hR2.later hw3
  have hp3 := hp2.later hw3
  have hB3 := hB2.trans (hw3.mono (by omega))
  generalize hW : (w2.alloc _).alloc _ = W3
  have hW' : (w2.alloc (.cells s0.cells 139)).alloc (.cells #[.slice p m c, .slice a2 n2 c2] 70) = W3 := hW
  have hs3 : W3.heap.size = w2.heap.size + 2 := by rw [← hW']; simp
  rw [hW'] at rX rP rD rE hR3 hp3 hB3
  simp only [World.size_alloc] at rP
  clear hW hW' hw3 hR2 hp2 hD2 hE2 hB2 hH2 k1 k2 k3 k4 k5 k6 k7 k8 k9 hlb2
  have hm0 : m = ((Sha.left x).map Sha.bv).length := hR3.len
  have hm1 : n2 = ((Sha.pad n).map Sha.bv).length := hp3.len
  have hll := left_len x
  have hpl := pad_length n
  have hzl : Sha.zeros n < 64 := by unfold Sha.zeros; omega
  have g0 : W3.cell? ⟨w2.heap.size + 1, 0, none⟩ = some (.slice p m c) := rP.cell 0
  have g1 : W3.cell? ⟨w2.heap.size + 1, 1, none⟩ = some (.slice a2 n2 c2) := rP.cell 1
  refine (join2 (w2.heap.size + 1) m n2 c c2 2 p a2 _ _ W3 g0 g1 hR3 hp3 hm0.symm hm1.symm (by simp at hm1; omega) (by simp at hm0 hm1; omega) (one_bytes _) (one_bytes _)).mono ?_
  rintro e w4 ⟨v4, rfl, hown4, hb4⟩
  have hs4 := hb4.size
  rw [← List.map_append] at hown4
  have hBl : m + n2 = (Sha.left x ++ Sha.pad n).length := by simp at hm0 hm1 ⊢; omega
  rw [hBl] at hown4
  have hmod := tail_mod x n HN.out
  have hne : 0 < (Sha.left x ++ Sha.pad n).length := by simp; omega
  have hdig : dval x = .agg (blk (Sha.absorb s0 (Sha.left x ++ Sha.pad n)).bytes) := by
    rw [← HS.out, ← Sha.absorb_append, ← HN.out]
    rfl
  have HDG := Lib.hid hdig
  clear hdig hm0 hm1 hll hpl hzl g0 g1 hR3 hp3 hBl rP HP HS
  generalize Sha.left x ++ Sha.pad n = B at *
  obtain ⟨g, cap, rfl, hcap⟩ := owns_slice2 hown4 hne
  have hcells : ∀ (j : Nat) u, (B.map Sha.bv)[j]? = some u → w4.cell? ⟨g, j, none⟩ = some u := fun j u hu => by
    have h := hown4.cells rfl j u hu
    simpa [Addr.add_mid] using h
  have hgl := (hown4.lt g rfl).1
  have hgu := (hown4.lt g rfl).2
  have rX4 := rX.below hb4 (by omega)
  have rD4 := rD.below hb4 (by omega)
  have rE4 := rE.below hb4 (by omega)
  have hB4 := hB3.trans (hb4.mono (by omega))
  have HC := Lib.hid hcells
  clear hcells hown4 rX rD rE hB3 hb4
  generalize hx2 : w2.heap.size = x2 at *
  clear hx2
  go_wp2_with fail
  go_loopw [7] (fun v wr => ∃ (k : Nat) (s : Sha.St) (q : Addr), 64 * k ≤ B.length ∧ v = .slice (some q) (B.length - 64 * k) (cap - 64 * k) ∧ (64 * k < cap → q = ⟨g, 64 * k, none⟩) ∧ Row wr x2 139 s.cells ∧ Sha.absorb s (B.drop (64 * k)) = Sha.absorb s0 B ∧ (∀ (j : Nat) u, (B.map Sha.bv)[j]? = some u → wr.cell? ⟨g, j, none⟩ = some u) ∧
    Row wr w.heap.size 25 z32 ∧ Row wr (w.heap.size + 1) 25 z32 ∧ Below w.heap.size w wr ∧ w4.heap.size ≤ wr.heap.size) (fun v _ => (match v with | .slice _ m _ => m | _ => 0))
  case atStart => exact ⟨0, s0, _, Nat.zero_le _, rfl, fun _ => rfl, rX4, by simp, HC.out, rD4, rE4, hB4, Nat.le_refl _⟩
  case round =>
    clear rX4 rD4 rE4 hB4 HC
    obtain ⟨k, s, q, hk, rfl, hq, rX, habs, hcl, rD, rE, hb, hsz⟩ := hrel
    have HA := Lib.hid habs
    have HQ := Lib.hid hq
    have HCL := Lib.hid hcl
    clear habs hq hcl
    by_cases hge : 0 < B.length - 64 * k
    · have hge64 : 64 ≤ B.length - 64 * k := by omega
      obtain rfl : q = ⟨g, 64 * k, none⟩ := HQ.out (by omega)
      have hi64 : (0 : Int) < ((B.length - 64 * k : Nat) : Int) := by omega
      have hd : decide ((0 : Int) < ((B.length - 64 * k : Nat) : Int)) = true := decide_eq_true hi64
      have hl64 : ((B.drop (64 * k)).take 64).length = 64 := by simp; omega
      have hat : ∀ w, (Instr.arrayAt 130 (.slice (some ⟨g, 64 * k, none⟩) (B.length - 64 * k) (cap - 64 * k))).run Tryz.prog w = .ok (.pointer (some ⟨g, 64 * k, none⟩)) w := fun w => run_arrayAt w 130 _ 64 _ _ _ Tryz.underlying130 hge64
      go_wp2_with fail
      refine wp_region_any (by kernel_rfl) ?_
      change wpAny _ _ _ _ _ _ _ wr.drew
      refine wpAny_takeL (i := 1) (v := ?_) rfl (by kernel_rfl) (by kernel_rfl) (by kernel_rfl) (fun _ _ _ h => h) (Or.inl ⟨by rfl, ?_⟩) ?_
      rotate_left
      · intro w
        go_simp
        try with_reducible rfl
      simp only [Act.put, List.setIfInBounds_toArray, List.set_cons_zero, List.set_cons_succ]
      refine wpAny_takeL (i := 2) (v := ?_) rfl (by kernel_rfl) (by kernel_rfl) (by kernel_rfl) (fun _ _ _ h => h) (Or.inl ⟨by rfl, ?_⟩) ?_
      rotate_left
      · intro w
        go_simp
        try with_reducible rfl
      simp only [Act.put, List.setIfInBounds_toArray, List.set_cons_zero, List.set_cons_succ]
      refine wpAny_twoL (i := 0) (j := 3) (vi := .agg s.cells) (vj := .agg (blk ((B.drop (64 * k)).take 64))) rfl rfl (by kernel_rfl) (by kernel_rfl) (by kernel_rfl) (by decide) (by kernel_rfl) (by kernel_rfl)
        (yieldsAt_load rfl 139 _ rfl ⟨x2, 0, none⟩ rfl _ _ ?l1 Tryz.underlying139 rfl (words_info s))
        (yieldsAt_load rfl 130 _ rfl ⟨g, 64 * k, none⟩ rfl _ _ ?l2 Tryz.underlying130 rfl (blk_info _ hl64)) ?_
      case l1 =>
        intro j v hv
        rw [Addr.add_mid, Nat.zero_add]
        refine (World.cell?_drew wr _).trans ((rX.cell j).trans ?_)
        rw [← hv]
        exact Array.getElem?_toList.symm
      case l2 =>
        intro j v hv
        rw [Addr.add_mid]
        have hj : j < 64 := by
          have := (List.getElem?_eq_some_iff.1 hv).1
          simp [blk] at this
          omega
        exact (World.cell?_drew wr _).trans (HCL.out (64 * k + j) v (by
          rw [← hv]
          simp [blk, hj]))
      refine wpAny_of_idxL [4, 5] [_, _] _ _ rfl rfl (by kernel_rfl) ?_
      go_wp2_with fail
      refine (mix_at s ((B.drop (64 * k)).take 64) hl64 _).mono ?_
      generalize hm' : Sha.mix s ((B.drop (64 * k)).take 64) = mx
      have HM := Lib.hid hm'
      clear hm' hat hl64
      rintro e w5 ⟨rfl, hb5⟩
      have hb5 : Below wr.heap.size wr.drew w5 := hb5
      dsimp only
      iterate 1 go_step
      have hxl := rX.lt
      have sX := rX.drew.below hb5 rX.lt
      refine wpList_store_row rfl 139 (.tmp 6) _ rfl x2 mx.cells rfl rfl 139 s.cells sX (words_info mx) ((cells_size s).trans (cells_size mx).symm) (cells_one _) ?_
      have tX := sX.setRow mx.cells
      have tD := (rD.drew.below hb5 rD.lt).setRow_other (g := x2) mx.cells (by omega)
      have tE := (rE.drew.below hb5 rE.lt).setRow_other (g := x2) mx.cells (by omega)
      have tb := below_setRow (hb.drew.trans (hb5.mono hb.size)) (b := x2) (by omega) mx.cells
      have tz : w4.heap.size ≤ (w5.setRow x2 mx.cells).heap.size := by
        rw [setRow_size]
        have h5 : wr.heap.size ≤ w5.heap.size := hb5.size
        omega
      have tc : ∀ (j : Nat) u, (B.map Sha.bv)[j]? = some u → (w5.setRow x2 mx.cells).cell? ⟨g, j, none⟩ = some u := fun j u hu => by
        rw [cell_setRow_other _ _ _ _ (by simp; omega)]
        exact (hb5.cell (p := ⟨g, j, none⟩) (by simp; omega)).trans (HCL.out j u hu)
      have ta : Sha.absorb mx (B.drop (64 * (k + 1))) = Sha.absorb s0 B := by
        have e64 : 64 * (k + 1) = 64 * k + 64 := by omega
        rw [e64, ← HA.out, Sha.absorb_ge s (B.drop (64 * k)) (by simp; omega), List.drop_drop, HM.out]
      have TA := Lib.hid ta
      have TC := Lib.hid tc
      clear rX rD rE hb hb5 HCL sX HA ta tc
      generalize w5.setRow x2 mx.cells = w6 at *
      by_cases hcp : cap - 64 * k = 64
      · have hcp' : ((cap - 64 * k : Nat) : Int) = 64 := by omega
        go_wp2_with fail
        refine ⟨⟨k + 1, mx, ⟨g, 64 * k, none⟩, by omega, ?_, fun h => absurd h (by omega), tX, TA.out, TC.out, tD, tE, tb, tz⟩, ?_⟩
        · rw [show B.length - 64 * (k + 1) = B.length - 64 * k - 64 by omega, show cap - 64 * (k + 1) = 0 by omega]
        · show B.length - 64 * k - 64 < B.length - 64 * k
          omega
      · have hcp' : ¬ ((cap - 64 * k : Nat) : Int) = 64 := by omega
        go_wp2_with fail
        refine ⟨⟨k + 1, mx, ⟨g, 64 * k + 64, none⟩, by omega, ?_, fun _ => by rw [show 64 * (k + 1) = 64 * k + 64 by omega], tX, TA.out, TC.out, tD, tE, tb, tz⟩, ?_⟩
        · rw [show B.length - 64 * (k + 1) = B.length - 64 * k - 64 by omega, show cap - 64 * (k + 1) = cap - 64 * k - 64 by omega]
        · show B.length - 64 * k - 64 < B.length - 64 * k
          omega
    · have hd : decide ((0 : Int) < ((B.length - 64 * k : Nat) : Int)) = false := decide_eq_false (by omega)
      have hs : s = Sha.absorb s0 B := by
        rw [← HA.out, Sha.absorb_lt _ _ (by simp; omega)]
      have HS2 := Lib.hid hs
      clear hs HA HCL
      have a0 : wr.cell? ⟨x2, 0, none⟩ = some (Sha.uv s.a) := rX.cell 0
      have a1 : wr.cell? ⟨x2, 1, none⟩ = some (Sha.uv s.b) := rX.cell 1
      have a2 : wr.cell? ⟨x2, 2, none⟩ = some (Sha.uv s.c) := rX.cell 2
      have a3 : wr.cell? ⟨x2, 3, none⟩ = some (Sha.uv s.d) := rX.cell 3
      have a4 : wr.cell? ⟨x2, 4, none⟩ = some (Sha.uv s.e) := rX.cell 4
      have a5 : wr.cell? ⟨x2, 5, none⟩ = some (Sha.uv s.f) := rX.cell 5
      have a6 : wr.cell? ⟨x2, 6, none⟩ = some (Sha.uv s.g) := rX.cell 6
      have a7 : wr.cell? ⟨x2, 7, none⟩ = some (Sha.uv s.h) := rX.cell 7
      have heq := words_eql s
      by_cases hz : isZero s = true
      · have HZ := Lib.hid (isZero_spec hz)
        iterate 40 go_step
        refine wpList_load_row rfl 25 (.tmp 3) rfl (w.heap.size + 1) rfl 25 z32 (0, 0) _ rE Tryz.underlying25 rfl dig_z32 ?_
        refine wpList_store_row rfl 25 (.tmp 2) _ rfl w.heap.size z32 rfl rfl 25 z32 rD dig_z32 (Eq.refl z32.size) z32_one ?_
        go_wp2_with fail
        refine bodyPost_ret (results_cell_row Tryz.results74 _ _ _ _ _ _ _ rfl (rD.setRow z32) Tryz.underlying25 rfl dig_z32) rfl ⟨?_, below_setRow hb (Nat.le_refl _) _⟩
        rw [HDG.out, ← HS2.out, HZ.out, zero_bytes]
      · have hz : isZero s = false := by simpa using hz
        iterate 44 go_step
        refine wpList_load_row rfl 139 (.tmp 6) rfl x2 rfl 139 s.cells (0, 0) _ rX Tryz.underlying139 rfl (words_info s) ?_
        have rE0 : Row wr (w.heap.size + 1) 25 (hPart s 0).toArray := by
          rw [hPart_zero]
          exact rE
        clear a0 a1 a2 a3 a4 a5 a6 a7 heq hz rX rE
        go_wp2_with fail
        go_loopw [48] (fun v wr => ∃ i : Nat, i ≤ 8 ∧ v = .int .i64 i ∧ Row wr (w.heap.size + 1) 25 (hPart s i).toArray ∧ Row wr w.heap.size 25 z32 ∧ Below w.heap.size w wr) (fun v _ => 8 - (intOf v).toNat)
        case atStart => exact ⟨0, Nat.zero_le _, rfl, rE0, rD, hb⟩
        case round =>
          clear rE0 rD hb
          obtain ⟨i, hi, rfl, rE, rD, hb⟩ := hrel
          by_cases hi8 : i < 8
          · have hidx := widx s i hi8
            have hii : (i : Int) < 8 := by omega
            have hw4 : IntKind.i64.wrap (4 * (i : Int)) = 4 * (i : Int) := IntWalk.i64_in _ (by omega)
            have h40 : (0 : Int) ≤ 4 * (i : Int) := by omega
            have h4n : (4 * (i : Int)).toNat = 4 * i := by omega
            have h32 : (4 * (i : Int)) ≤ 32 := by omega
            go_wp2_with fail
            refine wp_region_any (by kernel_rfl) ?_
            change wpAny _ _ _ _ _ _ _ wr.drew
            refine wpAny_takeL (i := 0) (v := ?_) rfl (by kernel_rfl) (by kernel_rfl) (by kernel_rfl) (fun _ _ _ h => h) (Or.inl ⟨by rfl, ?_⟩) ?_
            rotate_left
            · intro w
              go_simp
              try with_reducible rfl
            simp only [Act.put, List.setIfInBounds_toArray, List.set_cons_zero, List.set_cons_succ]
            refine wpAny_takeL (i := 1) (v := ?_) rfl (by kernel_rfl) (by kernel_rfl) (by kernel_rfl) (fun _ _ _ h => h) (Or.inl ⟨by rfl, ?_⟩) ?_
            rotate_left
            · intro w
              go_simp
              try with_reducible rfl
            simp only [Act.put, List.setIfInBounds_toArray, List.set_cons_zero, List.set_cons_succ]
            refine wpAny_takeL (i := 2) (v := ?_) rfl (by kernel_rfl) (by kernel_rfl) (by kernel_rfl) (fun _ _ _ h => h) (Or.inl ⟨by rfl, ?_⟩) ?_
            rotate_left
            · intro w
              go_simp
              try with_reducible rfl
            simp only [Act.put, List.setIfInBounds_toArray, List.set_cons_zero, List.set_cons_succ]
            refine wpAny_takeL (i := 3) (v := ?_) rfl (by kernel_rfl) (by kernel_rfl) (by kernel_rfl) (fun _ _ _ h => h) (Or.inl ⟨by rfl, ?_⟩) ?_
            rotate_left
            · intro w
              go_simp
              try with_reducible rfl
            simp only [Act.put, List.setIfInBounds_toArray, List.set_cons_zero, List.set_cons_succ]
            refine wpAny_of_idxL [4, 5] [_, _] _ _ rfl rfl (by kernel_rfl) ?_
            go_wp2_with fail
            refine (big32 (wsel s i) wr.drew).mono ?_
            rintro e w7 ⟨rfl, rfl⟩
            dsimp only
            go_step
            refine wpList_copy_splice rfl (.tmp 54) (.tmp 56) 70 70 rfl 5 Tryz.underlying70 u8_size _ _ _ _ _ _ (by rfl) (by rfl) (w.heap.size + 1) (4 * i) (hPart s i) 25 ?c1 ((Sha.be (wsel s i)).map Sha.bv) ?c2 ?c3 ?c4 ?c5 (w.heap.size + 1) _ (Below.refl _ _) (Nat.le_refl _) ?_
            case c1 => exact rE.drew.alloc _
            case c2 =>
              rw [List.length_map, Sha.be_length]
              exact (Nat.min_eq_left (by omega)).symm
            case c3 =>
              intro _
              refine ⟨rfl, _, rfl, fun j v hv => ?_⟩
              rw [Addr.add_mid, Nat.zero_add]
              refine ((Row.new wr.drew 5 ((Sha.be (wsel s i)).map Sha.bv).toArray).cell j).trans ?_
              simpa using hv
            case c4 =>
              rw [hPart_len s i (by omega), List.length_map, Sha.be_length]
              omega
            case c5 => exact one_bytes _
            intro w8 hG8 hb8
            have tE : Row w8 (w.heap.size + 1) 25 (hPart s (i + 1)).toArray := by
              have h := hG8.out
              rw [hPart_splice s i hi8] at h
              exact h
            have tD := (rD.drew.alloc (.cells ((Sha.be (wsel s i)).map Sha.bv).toArray 5)).below hb8 (by omega)
            have tb := (hb.drew.alloc hb.size (.cells ((Sha.be (wsel s i)).map Sha.bv).toArray 5)).trans (hb8.mono (by omega))
            clear hG8 hb8 rE rD hb hidx
            go_wp2_with fail
            refine ⟨⟨i + 1, by omega, by go_num, tE, tD, tb⟩, ?_⟩
            simp [intOf]
            omega
          · obtain rfl : i = 8 := by omega
            rw [hPart_all] at rE
            iterate 18 go_step
            refine wpList_load_row rfl 25 (.tmp 3) rfl (w.heap.size + 1) rfl 25 (blk s.bytes) (0, 0) _ rE Tryz.underlying25 rfl (dig_info s) ?_
            refine wpList_store_row rfl 25 (.tmp 2) _ rfl w.heap.size (blk s.bytes) rfl rfl 25 z32 rD (dig_info s) ((z32_size).trans (dig_size s).symm) (blk_one _) ?_
            go_wp2_with fail
            refine bodyPost_ret (results_cell_row Tryz.results74 _ _ _ _ _ _ _ rfl (rD.setRow (blk s.bytes)) Tryz.underlying25 rfl (dig_info s)) rfl ⟨?_, below_setRow hb (Nat.le_refl _) _⟩
            rw [HDG.out, HS2.out]
end Go.Proofs.YtfahbdakhbpfcaaGreat
