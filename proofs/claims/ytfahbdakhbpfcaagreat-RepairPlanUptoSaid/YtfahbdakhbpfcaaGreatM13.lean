/-
  Pad02: WALK: strongroomref02.Pad; conditions: at most 2^60.
-/
import Derived.Test.YtfahbdakhbpfcaaGreatM8
import Derived.Test.YtfahbdakhbpfcaaGreatM12
namespace Go.Proofs.YtfahbdakhbpfcaaGreat
open Go.RowKit

theorem one_world (w : World) : (w.alloc (.cells #[.int .u8 128] 5)).ownsRow w.heap.size 5 1 (.slice (some ⟨w.heap.size, 0, none⟩) 1 1) (0 + 1) ((128 :: List.replicate 0 (0 : UInt8)).map Sha.bv) :=
  ⟨rfl, .inr ⟨w.heap.size, 1, #[.int .u8 128], rfl, Nat.le_refl _, heap_alloc_new w _, by decide, by unfold maxLen; omega, rfl, rfl⟩⟩

/-- the eight bytes of a length in bits, as the walk spells them -/
def bits8 (n : Nat) : List Value := [.int .u8 ((n : Int) * 8 / 72057594037927936), .int .u8 ((n : Int) * 8 / 281474976710656 % 256), .int .u8 ((n : Int) * 8 / 1099511627776 % 256), .int .u8 ((n : Int) * 8 / 4294967296 % 256),
  .int .u8 ((n : Int) * 8 / 16777216 % 256), .int .u8 ((n : Int) * 8 / 65536 % 256), .int .u8 ((n : Int) * 8 / 256 % 256), .int .u8 ((n : Int) * 8 % 256)]
theorem bits8_eq (n : Nat) (hn : n ≤ 1152921504606846976) : bits8 n = (Sha.be64 (n * 8)).map Sha.bv := by
  have h := be64_cells (n * 8) (by omega)
  have e : ((n * 8 : Nat) : Int) = (n : Int) * 8 := by simp
  rw [e] at h
  exact congrArg Array.toList h
theorem owns_slice2 {w : World} {base n : Nat} {e : TypeId} {v : Value} {xs : List Value} (h : w.ownsRow base e 1 v n xs) (hn : 0 < n) : ∃ g cap, v = .slice (some ⟨g, 0, none⟩) n cap ∧ n ≤ cap := by
  rcases h.2 with ⟨_, h0⟩ | ⟨g, cap, _, rfl, _, _, hc, _⟩
  · omega
  · exact ⟨g, cap, rfl, hc⟩

set_option maxRecDepth 100000 in
set_option maxHeartbeats 1000000 in
theorem pad02_at (n : Nat) (hn : n ≤ 1152921504606846976) (w : World) : Calls Tryz.prog 79 #[.int .i64 n] w fun e w' =>
    ∃ v, e = .returned (.tuple #[v, .int .i64 0]) ∧ w'.ownsRow w.heap.size 5 1 v (Sha.pad n).length ((Sha.pad n).map Sha.bv) ∧ Below w.heap.size w w' := by
  obtain ⟨i0, hi, hz0, hz1, hz2⟩ := info_parts info_u8
  have PW := Lib.hid (one_world w)
  have PB := Lib.hid ((Below.refl w.heap.size w).alloc (Nat.le_refl _) (.cells #[.int .u8 128] 5))
  have hn1 : ¬ (1152921504606846976 : Int) < (n : Int) := by omega
  have hneg : ¬ (n : Int) < 0 := by omega
  go_enter Tryz.func79, Tryz.ntmps79
  go_wp2_with fail
  generalize w.alloc _ = W0 at *
  go_loopw [4] (fun v wr => ∃ k : Nat, k ≤ Sha.zeros n ∧ wr.ownsRow w.heap.size 5 1 v (k + 1) ((128 :: List.replicate k (0 : UInt8)).map Sha.bv) ∧ Below w.heap.size w wr) (fun v _ => Sha.zeros n + 1 - (match v with | .slice _ m _ => m | _ => 0))
  case atStart => exact ⟨0, Nat.zero_le _, PW.out, PB.out⟩
  case round =>
    clear PW PB
    obtain ⟨k, hk, hown, hb⟩ := hrel
    obtain ⟨g, cap, rfl, hcap⟩ := owns_slice hown
    have hz := Sha.zeros_spec n
    have hzl : Sha.zeros n < 64 := by unfold Sha.zeros; omega
    by_cases hlt : k < Sha.zeros n
    · have hne := Sha.zeros_least n k hlt
      have HNE := Lib.hid hne
      have hT : ¬ ((n : Int) + ((k : Int) + 1)) % 64 = 56 := by have := HNE.out; omega
      clear hne hz
      go_wp2_with (at_builtin; refine wpList_append_has rfl (.tmp 20) (.tmp 21) 70 rfl w.heap.size 5 i0 (.int .u8 0) 1 Tryz.underlying70 hi hz0 hz1 hz2 rfl _ (k + 1) _ rfl (hown.alloc _) _ [.int .u8 0] rfl ?h1 ?h2 ?h3 ?h4 ?h5 ?_)
      case h1 => exact has_new wr 5 [.int .u8 0] 1 (Nat.le_refl _)
      case h2 =>
        intro u hu
        simp at hu
        subst hu
        rfl
      case h3 => simp only [List.length_cons, List.length_nil]; unfold maxLen; omega
      case h4 => simp only [List.length_cons, List.length_nil]; omega
      case h5 => have := hb.size; simp; omega
      · intro v1 w1 hown1 hgrow1
        have hb1 : Below w.heap.size w w1 := (hb.alloc hb.size _).grown hgrow1 (by have := hb.size; simp; omega) (fun k hk => (hown.lt k hk).1)
        have hown2 : w1.ownsRow w.heap.size 5 1 v1 (k + 1 + 1) ((128 :: List.replicate (k + 1) (0 : UInt8)).map Sha.bv) := by
          rw [pad_succ]
          simpa [Sha.bv] using hown1
        obtain ⟨g1, cap1, rfl, hcap1⟩ := owns_slice hown2
        clear hown1 hgrow1 hown hb
        go_wp2_with fail
        go_roundw
        case rel => exact ⟨k + 1, by omega, hown2, hb1⟩
        case measure => simp; omega
    · have hkz : k = Sha.zeros n := by omega
      have hT : ((n : Int) + ((k : Int) + 1)) % 64 = 56 := by omega
      have HKZ := Lib.hid hkz
      have hkl : k < 64 := by omega
      clear hz hkz hzl
      go_wp2_with fail
      go_loopw [4, 6] (fun v p wr => ∃ j : Nat, j ≤ 8 ∧ p = .int .i64 (7 - (j : Int)) ∧ wr.ownsRow w.heap.size 5 1 v (k + 1 + j) ((128 :: List.replicate k (0 : UInt8)).map Sha.bv ++ (bits8 n).take j) ∧ Below w.heap.size w wr) (fun _ p _ => (intOf p + 1).toNat)
      case atStart => exact ⟨0, by omega, rfl, by simpa using hown, hb⟩
      case round =>
        clear hown hb hT
        obtain ⟨j, hj, rfl, hown, hb⟩ := hrel
        obtain ⟨g1, cap1, rfl, hcap1⟩ := owns_slice2 hown (by omega)
        by_cases hj8 : j < 8
        · rcases (by omega : j = 0 ∨ j = 1 ∨ j = 2 ∨ j = 3 ∨ j = 4 ∨ j = 5 ∨ j = 6 ∨ j = 7) with rfl | rfl | rfl | rfl | rfl | rfl | rfl | rfl
          all_goals simp only [Int.cast_ofNat_Int, Int.sub_zero, Int.reduceSub]
          · go_wp2_with (at_builtin; refine wpList_append_has rfl (.tmp 30) (.tmp 37) 70 rfl w.heap.size 5 i0 (.int .u8 0) 1 Tryz.underlying70 hi hz0 hz1 hz2 rfl _ (k + 1 + 0) _ rfl (hown.alloc _) _ [_] rfl (has_new wr 5 [_] 1 (Nat.le_refl _)) (fun u hu => by simp at hu; subst hu; rfl) (by simp only [List.length_cons, List.length_nil]; unfold maxLen; omega) (by simp only [List.length_cons, List.length_nil]; omega) (by have := hb.size; simp; omega) ?_; intro v1 w1 hown1 hgrow1)
            have hb1 : Below w.heap.size w w1 := (hb.alloc hb.size _).grown hgrow1 (by have := hb.size; simp; omega) (fun k hk => (hown.lt k hk).1)
            rw [List.append_assoc] at hown1
            have hown2 : w1.ownsRow w.heap.size 5 1 v1 (k + 1 + (0 + 1)) ((128 :: List.replicate k (0 : UInt8)).map Sha.bv ++ (bits8 n).take (0 + 1)) := hown1
            clear hown1 hgrow1 hown hb
            go_wp2_with fail
            go_roundw
            case rel => exact ⟨0 + 1, by omega, by simp, hown2, hb1⟩
            case measure => simp [intOf]
          · go_wp2_with (at_builtin; refine wpList_append_has rfl (.tmp 30) (.tmp 37) 70 rfl w.heap.size 5 i0 (.int .u8 0) 1 Tryz.underlying70 hi hz0 hz1 hz2 rfl _ (k + 1 + 1) _ rfl (hown.alloc _) _ [_] rfl (has_new wr 5 [_] 1 (Nat.le_refl _)) (fun u hu => by simp at hu; subst hu; rfl) (by simp only [List.length_cons, List.length_nil]; unfold maxLen; omega) (by simp only [List.length_cons, List.length_nil]; omega) (by have := hb.size; simp; omega) ?_; intro v1 w1 hown1 hgrow1)
            have hb1 : Below w.heap.size w w1 := (hb.alloc hb.size _).grown hgrow1 (by have := hb.size; simp; omega) (fun k hk => (hown.lt k hk).1)
            rw [List.append_assoc] at hown1
            have hown2 : w1.ownsRow w.heap.size 5 1 v1 (k + 1 + (1 + 1)) ((128 :: List.replicate k (0 : UInt8)).map Sha.bv ++ (bits8 n).take (1 + 1)) := hown1
            clear hown1 hgrow1 hown hb
            go_wp2_with fail
            go_roundw
            case rel => exact ⟨1 + 1, by omega, by simp, hown2, hb1⟩
            case measure => simp [intOf]
          · go_wp2_with (at_builtin; refine wpList_append_has rfl (.tmp 30) (.tmp 37) 70 rfl w.heap.size 5 i0 (.int .u8 0) 1 Tryz.underlying70 hi hz0 hz1 hz2 rfl _ (k + 1 + 2) _ rfl (hown.alloc _) _ [_] rfl (has_new wr 5 [_] 1 (Nat.le_refl _)) (fun u hu => by simp at hu; subst hu; rfl) (by simp only [List.length_cons, List.length_nil]; unfold maxLen; omega) (by simp only [List.length_cons, List.length_nil]; omega) (by have := hb.size; simp; omega) ?_; intro v1 w1 hown1 hgrow1)
            have hb1 : Below w.heap.size w w1 := (hb.alloc hb.size _).grown hgrow1 (by have := hb.size; simp; omega) (fun k hk => (hown.lt k hk).1)
            rw [List.append_assoc] at hown1
            have hown2 : w1.ownsRow w.heap.size 5 1 v1 (k + 1 + (2 + 1)) ((128 :: List.replicate k (0 : UInt8)).map Sha.bv ++ (bits8 n).take (2 + 1)) := hown1
            clear hown1 hgrow1 hown hb
            go_wp2_with fail
            go_roundw
            case rel => exact ⟨2 + 1, by omega, by simp, hown2, hb1⟩
            case measure => simp [intOf]
          · go_wp2_with (at_builtin; refine wpList_append_has rfl (.tmp 30) (.tmp 37) 70 rfl w.heap.size 5 i0 (.int .u8 0) 1 Tryz.underlying70 hi hz0 hz1 hz2 rfl _ (k + 1 + 3) _ rfl (hown.alloc _) _ [_] rfl (has_new wr 5 [_] 1 (Nat.le_refl _)) (fun u hu => by simp at hu; subst hu; rfl) (by simp only [List.length_cons, List.length_nil]; unfold maxLen; omega) (by simp only [List.length_cons, List.length_nil]; omega) (by have := hb.size; simp; omega) ?_; intro v1 w1 hown1 hgrow1)
            have hb1 : Below w.heap.size w w1 := (hb.alloc hb.size _).grown hgrow1 (by have := hb.size; simp; omega) (fun k hk => (hown.lt k hk).1)
            rw [List.append_assoc] at hown1
            have hown2 : w1.ownsRow w.heap.size 5 1 v1 (k + 1 + (3 + 1)) ((128 :: List.replicate k (0 : UInt8)).map Sha.bv ++ (bits8 n).take (3 + 1)) := hown1
            clear hown1 hgrow1 hown hb
            go_wp2_with fail
            go_roundw
            case rel => exact ⟨3 + 1, by omega, by simp, hown2, hb1⟩
            case measure => simp [intOf]
          · go_wp2_with (at_builtin; refine wpList_append_has rfl (.tmp 30) (.tmp 37) 70 rfl w.heap.size 5 i0 (.int .u8 0) 1 Tryz.underlying70 hi hz0 hz1 hz2 rfl _ (k + 1 + 4) _ rfl (hown.alloc _) _ [_] rfl (has_new wr 5 [_] 1 (Nat.le_refl _)) (fun u hu => by simp at hu; subst hu; rfl) (by simp only [List.length_cons, List.length_nil]; unfold maxLen; omega) (by simp only [List.length_cons, List.length_nil]; omega) (by have := hb.size; simp; omega) ?_; intro v1 w1 hown1 hgrow1)
            have hb1 : Below w.heap.size w w1 := (hb.alloc hb.size _).grown hgrow1 (by have := hb.size; simp; omega) (fun k hk => (hown.lt k hk).1)
            rw [List.append_assoc] at hown1
            have hown2 : w1.ownsRow w.heap.size 5 1 v1 (k + 1 + (4 + 1)) ((128 :: List.replicate k (0 : UInt8)).map Sha.bv ++ (bits8 n).take (4 + 1)) := hown1
            clear hown1 hgrow1 hown hb
            go_wp2_with fail
            go_roundw
            case rel => exact ⟨4 + 1, by omega, by simp, hown2, hb1⟩
            case measure => simp [intOf]
          · go_wp2_with (at_builtin; refine wpList_append_has rfl (.tmp 30) (.tmp 37) 70 rfl w.heap.size 5 i0 (.int .u8 0) 1 Tryz.underlying70 hi hz0 hz1 hz2 rfl _ (k + 1 + 5) _ rfl (hown.alloc _) _ [_] rfl (has_new wr 5 [_] 1 (Nat.le_refl _)) (fun u hu => by simp at hu; subst hu; rfl) (by simp only [List.length_cons, List.length_nil]; unfold maxLen; omega) (by simp only [List.length_cons, List.length_nil]; omega) (by have := hb.size; simp; omega) ?_; intro v1 w1 hown1 hgrow1)
            have hb1 : Below w.heap.size w w1 := (hb.alloc hb.size _).grown hgrow1 (by have := hb.size; simp; omega) (fun k hk => (hown.lt k hk).1)
            rw [List.append_assoc] at hown1
            have hown2 : w1.ownsRow w.heap.size 5 1 v1 (k + 1 + (5 + 1)) ((128 :: List.replicate k (0 : UInt8)).map Sha.bv ++ (bits8 n).take (5 + 1)) := hown1
            clear hown1 hgrow1 hown hb
            go_wp2_with fail
            go_roundw
            case rel => exact ⟨5 + 1, by omega, by simp, hown2, hb1⟩
            case measure => simp [intOf]
          · go_wp2_with (at_builtin; refine wpList_append_has rfl (.tmp 30) (.tmp 37) 70 rfl w.heap.size 5 i0 (.int .u8 0) 1 Tryz.underlying70 hi hz0 hz1 hz2 rfl _ (k + 1 + 6) _ rfl (hown.alloc _) _ [_] rfl (has_new wr 5 [_] 1 (Nat.le_refl _)) (fun u hu => by simp at hu; subst hu; rfl) (by simp only [List.length_cons, List.length_nil]; unfold maxLen; omega) (by simp only [List.length_cons, List.length_nil]; omega) (by have := hb.size; simp; omega) ?_; intro v1 w1 hown1 hgrow1)
            have hb1 : Below w.heap.size w w1 := (hb.alloc hb.size _).grown hgrow1 (by have := hb.size; simp; omega) (fun k hk => (hown.lt k hk).1)
            rw [List.append_assoc] at hown1
            have hown2 : w1.ownsRow w.heap.size 5 1 v1 (k + 1 + (6 + 1)) ((128 :: List.replicate k (0 : UInt8)).map Sha.bv ++ (bits8 n).take (6 + 1)) := hown1
            clear hown1 hgrow1 hown hb
            go_wp2_with fail
            go_roundw
            case rel => exact ⟨6 + 1, by omega, by simp, hown2, hb1⟩
            case measure => simp [intOf]
          · go_wp2_with (at_builtin; refine wpList_append_has rfl (.tmp 30) (.tmp 37) 70 rfl w.heap.size 5 i0 (.int .u8 0) 1 Tryz.underlying70 hi hz0 hz1 hz2 rfl _ (k + 1 + 7) _ rfl (hown.alloc _) _ [_] rfl (has_new wr 5 [_] 1 (Nat.le_refl _)) (fun u hu => by simp at hu; subst hu; rfl) (by simp only [List.length_cons, List.length_nil]; unfold maxLen; omega) (by simp only [List.length_cons, List.length_nil]; omega) (by have := hb.size; simp; omega) ?_; intro v1 w1 hown1 hgrow1)
            have hb1 : Below w.heap.size w w1 := (hb.alloc hb.size _).grown hgrow1 (by have := hb.size; simp; omega) (fun k hk => (hown.lt k hk).1)
            rw [List.append_assoc] at hown1
            have hown2 : w1.ownsRow w.heap.size 5 1 v1 (k + 1 + (7 + 1)) ((128 :: List.replicate k (0 : UInt8)).map Sha.bv ++ (bits8 n).take (7 + 1)) := hown1
            clear hown1 hgrow1 hown hb
            go_wp2_with fail
            go_roundw
            case rel => exact ⟨7 + 1, by omega, by simp, hown2, hb1⟩
            case measure => simp [intOf]
        · have hj8' : j = 8 := by omega
          subst hj8'
          simp only [Int.cast_ofNat_Int, Int.reduceSub]
          go_wp2_with fail
          have hown2 : wr.ownsRow w.heap.size 5 1 (.slice (some ⟨g1, 0, none⟩) (k + 1 + 8) cap1) (Sha.pad n).length ((Sha.pad n).map Sha.bv) := by
            have e : Sha.pad n = (128 :: List.replicate k (0 : UInt8)) ++ Sha.be64 (n * 8) := by rw [HKZ.out]; rfl
            have e8 : (bits8 n).take 8 = (Sha.be64 (n * 8)).map Sha.bv := bits8_eq n hn
            rw [e8] at hown
            rw [e, List.map_append, List.length_append, List.length_cons, List.length_replicate]
            exact hown
          go_ret2
          exact ⟨_, rfl, hown2, hb⟩
end Go.Proofs.YtfahbdakhbpfcaaGreat
