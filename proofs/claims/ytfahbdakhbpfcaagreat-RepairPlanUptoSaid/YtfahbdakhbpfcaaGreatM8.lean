/-
  Pad: WALKS: sha.New, ok, octet.Big of four bytes, sha.Pad; conditions: Pad: at most 2^60.
-/
import Derived.Test.YtfahbdakhbpfcaaGreatM6
import Derived.Test.YtfahbdakhbpfcaaGreatM7
namespace Go.Proofs.YtfahbdakhbpfcaaGreat
open Go.RowKit

/-- a hash's cells -/
def hCells (s : Sha.St) (r : Value) (n : Int) : Array Value := #[.bool true, Sha.uv s.a, Sha.uv s.b, Sha.uv s.c, Sha.uv s.d, Sha.uv s.e, Sha.uv s.f, Sha.uv s.g, Sha.uv s.h, r, .int .i64 n]

set_option maxRecDepth 100000 in
theorem new_at (w : World) : Calls Tryz.prog 72 #[] w fun e w' => ∃ b, w.heap.size ≤ b ∧ e = .returned (.pointer (some ⟨b, 0, none⟩)) ∧ Row w' b 141 (hCells Sha.init (.slice none 0 0) 0) ∧ Below w.heap.size w w' := by
  go_enter Tryz.func72, Tryz.ntmps72
  go_wp2_with fail
  refine (initial_at w).mono ?_
  rintro e w1 ⟨rfl, hb⟩
  simp only [Sha.St.cells]
  go_wp2_with fail
  go_ret
  exact ⟨w1.heap.size, hb.size, rfl, Row.new _ _ _, hb.alloc hb.size _⟩

theorem ok_at (b : Nat) (w : World) (h : w.cell? ⟨b, 0, none⟩ = some (.bool true)) : Calls Tryz.prog 86 #[.pointer (some ⟨b, 0, none⟩)] w fun e w' => e = .returned (.bool true) ∧ w = w' := by
  go_enter Tryz.func86, Tryz.ntmps86
  go_wp2
  go_ret
  exact ⟨rfl, rfl⟩

set_option maxRecDepth 100000 in
theorem width32 (w : World) : Calls Tryz.prog 46 #[] w fun e w' => e = .returned (.int .i64 4) ∧ w = w' := by
  go_enter Tryz.func46, Tryz.ntmps46
  go_wp2
  go_rounds 5
  go_ret
  exact ⟨rfl, rfl⟩
theorem make4 (w : World) : (Instr.makeSlice 70 (.int .i64 4) (.int .i64 4)).run Tryz.prog w = .ok (.slice (some ⟨w.heap.size, 0, none⟩) 4 4) (w.alloc (.cells #[.int .u8 0, .int .u8 0, .int .u8 0, .int .u8 0] 5)) := by kernel_rfl
theorem be_cells (x : Sha.U) : #[Value.int .u8 ((x.toNat : Int) / 16777216), .int .u8 ((x.toNat : Int) / 65536 % 256), .int .u8 ((x.toNat : Int) / 256 % 256), .int .u8 ((x.toNat : Int) % 256)] = ((Sha.be x).map Sha.bv).toArray := by
  have h : (x.toNat : Int) / 16777216 = (x.toNat : Int) / 16777216 % 256 := by
    have := x.isLt
    omega
  rw [h]
  simp only [Sha.be, List.map_cons, List.map_nil, bv_ofNat]
  simp

set_option maxRecDepth 100000 in
set_option maxHeartbeats 1000000 in
theorem big32 (x : Sha.U) (w : World) : Calls Tryz.prog 40 #[Sha.uv x] w fun e w' =>
    e = .returned (.slice (some ⟨w.heap.size, 0, none⟩) 4 4) ∧ w' = w.alloc (.cells ((Sha.be x).map Sha.bv).toArray 5) := by
  have hmk := make4
  have HC := Lib.hid (be_cells x)
  have hx : (x.toNat : Int) < 4294967296 := by
    have := x.isLt
    omega
  go_enter Tryz.func40, Tryz.ntmps40
  go_wp2_with fail
  refine (width32 _).mono ?_
  rintro e w' ⟨rfl, rfl⟩
  go_wp2
  go_rounds 5
  go_ret
  exact ⟨rfl, by rw [← HC.out]⟩

def z72 : Array Value := #[.int .u8 0, .int .u8 0, .int .u8 0, .int .u8 0, .int .u8 0, .int .u8 0, .int .u8 0, .int .u8 0, .int .u8 0, .int .u8 0, .int .u8 0, .int .u8 0, .int .u8 0, .int .u8 0, .int .u8 0, .int .u8 0, .int .u8 0, .int .u8 0, .int .u8 0, .int .u8 0, .int .u8 0, .int .u8 0, .int .u8 0, .int .u8 0, .int .u8 0, .int .u8 0, .int .u8 0, .int .u8 0, .int .u8 0, .int .u8 0, .int .u8 0, .int .u8 0, .int .u8 0, .int .u8 0, .int .u8 0, .int .u8 0, .int .u8 0, .int .u8 0, .int .u8 0, .int .u8 0, .int .u8 0, .int .u8 0, .int .u8 0, .int .u8 0, .int .u8 0, .int .u8 0, .int .u8 0, .int .u8 0, .int .u8 0, .int .u8 0, .int .u8 0, .int .u8 0, .int .u8 0, .int .u8 0, .int .u8 0, .int .u8 0, .int .u8 0, .int .u8 0, .int .u8 0, .int .u8 0, .int .u8 0, .int .u8 0, .int .u8 0, .int .u8 0, .int .u8 0, .int .u8 0, .int .u8 0, .int .u8 0, .int .u8 0, .int .u8 0, .int .u8 0, .int .u8 0]
theorem make72 (w : World) : (Instr.makeSlice 70 (.int .i64 1) (.int .i64 72)).run Tryz.prog w = .ok (.slice (some ⟨w.heap.size, 0, none⟩) 1 72) (w.alloc (.cells z72 5)) := by kernel_rfl

theorem pad_world (w : World) : (w.alloc (.cells (z72.setIfInBounds 0 (.int .u8 128)) 5)).ownsRow w.heap.size 5 1 (.slice (some ⟨w.heap.size, 0, none⟩) 1 72) (0 + 1) ((128 :: List.replicate 0 (0 : UInt8)).map Sha.bv) :=
  ⟨rfl, .inr ⟨w.heap.size, 72, z72.setIfInBounds 0 (.int .u8 128), rfl, Nat.le_refl _, heap_alloc_new w _, by decide, by unfold maxLen; omega, rfl, rfl⟩⟩
theorem owns_slice {w : World} {base n : Nat} {e : TypeId} {v : Value} {xs : List Value} (h : w.ownsRow base e 1 v (n + 1) xs) : ∃ g cap, v = .slice (some ⟨g, 0, none⟩) (n + 1) cap ∧ n + 1 ≤ cap := by
  rcases h.2 with ⟨_, h0⟩ | ⟨g, cap, _, rfl, _, _, hc, _⟩
  · omega
  · exact ⟨g, cap, rfl, hc⟩
theorem pad_succ (k : Nat) : (128 :: List.replicate (k + 1) (0 : UInt8)) = (128 :: List.replicate k 0) ++ [0] := by
  rw [List.replicate_succ']
  rfl

set_option maxRecDepth 100000 in
set_option maxHeartbeats 1000000 in
theorem pad_at (n : Nat) (hn : n ≤ 1152921504606846976) (w : World) : Calls Tryz.prog 88 #[.int .i64 n] w fun e w' =>
    ∃ v, e = .returned (.tuple #[v, .int .i64 0]) ∧ w'.ownsRow w.heap.size 5 1 v (Sha.pad n).length ((Sha.pad n).map Sha.bv) ∧ Below w.heap.size w w' := by
  obtain ⟨i0, hi, hz0, hz1, hz2⟩ := info_parts info_u8
  have hmk := make72
  have hc0 : (w.alloc (.cells z72 5)).cell? ⟨w.heap.size, 0, none⟩ = some (.int .u8 0) := (Row.new w 5 z72).cell 0
  have hf0 := (Row.new w 5 z72).frozen 0
  have PW := Lib.hid (pad_world w)
  have PB := Lib.hid ((Below.refl w.heap.size w).alloc (Nat.le_refl _) (.cells (z72.setIfInBounds 0 (.int .u8 128)) 5))
  have hn1 : ¬ (1152921504606846976 : Int) < (n : Int) := by omega
  have hneg : ¬ (n : Int) < 0 := by omega
  go_enter Tryz.func88, Tryz.ntmps88
  go_wp2_with fail
  generalize w.alloc _ = W0 at *
  go_loopw [4] (fun v wr => ∃ k : Nat, k ≤ Sha.zeros n ∧ wr.ownsRow w.heap.size 5 1 v (k + 1) ((128 :: List.replicate k (0 : UInt8)).map Sha.bv) ∧ Below w.heap.size w wr) (fun v _ => Sha.zeros n + 1 - (match v with | .slice _ m _ => m | _ => 0))
  case atStart => exact ⟨0, Nat.zero_le _, PW.out, PB.out⟩
  case round =>
    clear PW PB hc0 hf0 hmk
    obtain ⟨k, hk, hown, hb⟩ := hrel
    obtain ⟨g, cap, rfl, hcap⟩ := owns_slice hown
    have hz := Sha.zeros_spec n
    have hzl : Sha.zeros n < 64 := by unfold Sha.zeros; omega
    by_cases hlt : k < Sha.zeros n
    · have hne := Sha.zeros_least n k hlt
      have HNE := Lib.hid hne
      have hT : ¬ ((n : Int) + ((k : Int) + 1)) % 64 = 56 := by have := HNE.out; omega
      clear hne hz
      go_wp2_with (at_builtin; refine wpList_append_has rfl (.tmp 20) (.tmp 21) 70 rfl w.heap.size 5 i0 (.int .u8 0) 1 Tryz.underlying70 hi hz0 hz1 hz2 rfl _ (k + 1) _ rfl (hown.alloc _) _ [.int .u8 0] rfl ?h1 ?h2 ?h3 ?h4 ?h5 ?_)
      case h1 => exact has_new wr 5 [.int .u8 0] 1 (Nat.le_refl _)
      case h2 =>
        intro u hu
        simp at hu
        subst hu
        rfl
      case h3 => simp only [List.length_cons, List.length_nil]; unfold maxLen; omega
      case h4 => simp only [List.length_cons, List.length_nil]; omega
      case h5 => have := hb.size; simp; omega
      · intro v1 w1 hown1 hgrow1
        have hb1 : Below w.heap.size w w1 := (hb.alloc hb.size _).grown hgrow1 (by have := hb.size; simp; omega) (fun k hk => (hown.lt k hk).1)
        have hown2 : w1.ownsRow w.heap.size 5 1 v1 (k + 1 + 1) ((128 :: List.replicate (k + 1) (0 : UInt8)).map Sha.bv) := by
          rw [pad_succ]
          simpa [Sha.bv] using hown1
        obtain ⟨g1, cap1, rfl, hcap1⟩ := owns_slice hown2
        clear hown1 hgrow1 hown hb
        go_wp2_with fail
        go_roundw
        case rel => exact ⟨k + 1, by omega, hown2, hb1⟩
        case measure => simp; omega
    · have hkz : k = Sha.zeros n := by omega
      have hT : ((n : Int) + ((k : Int) + 1)) % 64 = 56 := by omega
      clear hz
      go_wp2_with fail
      have h64 := big64 (n * 8) (by omega) wr
      rw [show ((n * 8 : Nat) : Int) = (n : Int) * 8 by simp] at h64
      refine h64.mono ?_
      rintro e w1 ⟨rfl, rfl⟩
      have hl8 : (Sha.be64 (n * 8)).length = 8 := rfl
      have HL8 := Lib.hid hl8
      clear hl8 h64
      dsimp only
      go_step
      (refine wpList_append_has rfl (.tmp 23) (.tmp 27) 70 rfl w.heap.size 5 i0 (.int .u8 0) 1 Tryz.underlying70 hi hz0 hz1 hz2 rfl _ (k + 1) _ rfl (hown.alloc _) _ ((Sha.be64 (n * 8)).map Sha.bv) rfl ?g1 ?g2 ?g3 ?g4 ?g5 ?_)
      case g1 => exact has_new wr 5 ((Sha.be64 (n * 8)).map Sha.bv) 8 (Nat.le_refl _)
      case g2 => exact one_bytes _
      case g3 => have := HL8.out; simp only [List.length_map]; unfold maxLen; omega
      case g4 => have := HL8.out; simp only [List.length_map]; omega
      case g5 => have := hb.size; simp; omega
      intro v1 w1 hown1 hgrow1
      have hb1 : Below w.heap.size w w1 := (hb.alloc hb.size _).grown hgrow1 (by have := hb.size; simp; omega) (fun k hk => (hown.lt k hk).1)
      have hown2 : w1.ownsRow w.heap.size 5 1 v1 (Sha.pad n).length ((Sha.pad n).map Sha.bv) := by
        have e : Sha.pad n = (128 :: List.replicate k (0 : UInt8)) ++ Sha.be64 (n * 8) := by rw [hkz]; rfl
        rw [e, List.map_append, List.length_append]
        simpa using hown1
      clear hown1 hgrow1 hown hb
      go_wp2_with fail
      go_ret2
      exact ⟨_, rfl, hown2, hb1⟩
end Go.Proofs.YtfahbdakhbpfcaaGreat
