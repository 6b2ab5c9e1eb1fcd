/-
  Ref05: WALKS: strongroomref05: Big, frame, Word, fits, Bytes, Digest, Ring at the ring's tag; conditions: an index of 16 bytes.
  Ref05B: WALKS: strongroomref05.Word, fits, Bytes, Digest at the ring's tag; conditions: parts of 16 and of 4 bytes.
-/
import Derived.Test.YtfahbdakhbpfcaaGreatM24
import Derived.Test.YtfahbdakhbpfcaaGreatM29
import Derived.Lib.SlBytesConst
namespace Go.Proofs.YtfahbdakhbpfcaaGreat
open Go.RowKit

/-- the first k of n bytes of a number, the highest first -/
def bigTo (x n k : Nat) : List UInt8 := (List.range k).map fun j => UInt8.ofNat (x / 2 ^ (8 * (n - 1 - j)))
theorem bigTo_len (x n k : Nat) : (bigTo x n k).length = k := by simp [bigTo]
theorem bigTo_succ (x n k : Nat) : bigTo x n (k + 1) = bigTo x n k ++ [UInt8.ofNat (x / 2 ^ (8 * (n - 1 - k)))] := by simp [bigTo, List.range_succ]
theorem bigTo_8 (x : Nat) : bigTo x 8 8 = Sha.be64 x := by simp [bigTo, Sha.be64, List.range_succ]
theorem bigTo_4 (x : Sha.U) : bigTo x.toNat 4 4 = Sha.be x := by simp [bigTo, Sha.be, List.range_succ]

set_option maxRecDepth 100000 in
set_option maxHeartbeats 1000000 in
theorem big05_at (x n : Nat) (hn : n ≤ 8) (w : World) :
    Calls Tryz.prog 58 #[.int .u64 x, .int .i64 n] w fun e w' => ∃ v, e = .returned v ∧ w'.ownsRow w.heap.size 5 1 v n ((bigTo x n n).map Sha.bv) ∧ Below w.heap.size w w' := by
  obtain ⟨i0, hi, hz0, hz1, hz2⟩ := info_parts info_u8
  go_enter Tryz.func58, Tryz.ntmps58
  go_wp2_with fail
  go_loopw [5, 6] (fun v i wr => ∃ j : Nat, j ≤ n ∧ i = .int .i64 ((j : Int) - 1) ∧ wr.ownsRow w.heap.size 5 1 v (n - j) ((bigTo x n (n - j)).map Sha.bv) ∧ Below w.heap.size w wr) (fun _ i _ => (intOf i + 1).toNat)
  case atStart => exact ⟨n, Nat.le_refl _, rfl, by simpa [bigTo] using World.ownsRow_nil _ _ _ _, Below.refl _ _⟩
  case round =>
    obtain ⟨j, hj, rfl, hown, hb⟩ := hrel
    cases j with
    | zero =>
      go_wp2_with fail
      go_ret
      exact ⟨_, rfl, hown, hb⟩
    | succ m =>
      have em : ((m + 1 : Nat) : Int) - 1 = (m : Int) := by omega
      simp only [em]
      clear em
      have hm8 : (m : Int) ≤ 7 := by omega
      have hcb : (bigTo x n (n - m)).map Sha.bv = (bigTo x n (n - (m + 1))).map Sha.bv ++ [Value.int .u8 ((x : Int) / 2 ^ (8 * m) % 256)] := by
        have e1 : n - m = (n - (m + 1)) + 1 := by omega
        have e2 : n - 1 - (n - (m + 1)) = m := by omega
        rw [e1, bigTo_succ, e2, List.map_append]
        simp only [List.map_cons, List.map_nil, bv_ofNat]
        congr 3
      have HCB := Lib.hid hcb
      clear hcb
      have hnm : n - (m + 1) + 1 = n - m := by omega
      have HNM := Lib.hid hnm
      clear hnm
      go_wp2_with (at_builtin; refine wpList_append_own _ rfl (.tmp 13) (.tmp 20) 70 rfl w.heap.size 5 i0 (.int .u8 0) 1 1 Tryz.underlying70 hi hz0 hz1 hz2 rfl (by decide) _ (n - (m + 1)) _ rfl (hown.alloc _) ⟨wr.heap.size, 0, none⟩ 1 1 [Value.int .u8 ((x : Int) / 2 ^ (8 * m) % 256)] rfl rfl ?c1 ?c2 ?c3 ?c4 ?c5 ?_)
      case c1 =>
        intro j u hj
        rw [Addr.add_mid, Nat.zero_add, (Row.new wr _ _).cell]
        simpa using hj
      case c2 => intro u hu; simp at hu; subst hu; rfl
      case c3 => unfold maxLen; omega
      case c4 => omega
      case c5 => have := hb.size; simp; omega
      intro v2 w2 hown2 hgrow2 _
      rw [← HCB.out, HNM.out] at hown2
      have hB2 := hb.alloc hb.size (.cells #[Value.int .u8 ((x : Int) / 2 ^ (8 * m) % 256)] 5)
      have hB3 : Below w.heap.size w w2 := hB2.grown hgrow2 hB2.size (fun k hk => (hown.lt k hk).1)
      clear hgrow2 hown hB2 hb HCB HNM
      go_wp2_with fail
      go_roundw
      case rel => exact ⟨m, by omega, by go_num, hown2, hB3⟩
      case measure => simp [intOf]

set_option maxRecDepth 100000 in
set_option maxHeartbeats 1000000 in
/-- a part with its length ahead -/
theorem frame05_at (p : Option Addr) (n c : Nat) (l : List UInt8) (hn : n ≤ 1000) (w : World) (hx : Has w (.slice p n c) (l.map Sha.bv)) :
    Calls Tryz.prog 78 #[.slice p n c] w fun e w' => ∃ v, e = .returned v ∧ w'.ownsRow w.heap.size 5 1 v (8 + n) ((Sha.be64 n ++ l).map Sha.bv) ∧ Below w.heap.size w w' := by
  obtain ⟨i0, hi, hz0, hz1, hz2⟩ := info_parts info_u8
  have hl : l.length = n := by have := hx.lenEq; simpa using this.symm
  have HX := Lib.hid hx
  have HL := Lib.hid hl
  clear hx hl
  have hn2 : (n : Int) ≤ 1000 := by omega
  go_enter Tryz.func78, Tryz.ntmps78
  go_wp2_with fail
  refine (big05_at n 8 (by omega) w).mono ?_
  rintro e w1 ⟨v, rfl, hown, hb⟩
  rw [bigTo_8] at hown
  have hx1 := HX.out.later hb
  go_wp2_with (at_builtin; refine wpList_append_has rfl (.tmp 8) (.tmp 9) 70 rfl w.heap.size 5 i0 (.int .u8 0) 1 Tryz.underlying70 hi hz0 hz1 hz2 rfl v 8 _ rfl hown _ (l.map Sha.bv) rfl hx1 (one_bytes l) ?c1 ?c2 ?c3 ?_)
  case c1 => rw [List.length_map, HL.out]; unfold maxLen; omega
  case c2 => rw [List.length_map, HL.out]; omega
  case c3 => exact hb.size
  intro v2 w2 hown2 hgrow2
  rw [← List.map_append, HL.out] at hown2
  have hB : Below w.heap.size w w2 := hb.grown hgrow2 hb.size (fun k hk => (hown.lt k hk).1)
  clear hown hgrow2 hx1
  go_wp2_with fail
  go_ret
  exact ⟨_, rfl, hown2, hB⟩
end Go.Proofs.YtfahbdakhbpfcaaGreat
namespace Go.Proofs.YtfahbdakhbpfcaaGreat
open Go.RowKit

theorem word05 (w : World) : Calls Tryz.prog 76 #[.int .u8 9] w fun e w' => e = .returned (.string (wordB 9)) ∧ w' = w := by
  go_enter Tryz.func76, Tryz.ntmps76
  go_wp2
  go_ret
  exact ⟨rfl, rfl⟩
set_option maxRecDepth 100000 in
set_option maxHeartbeats 1000000 in
theorem fits05 (b cp : Nat) (p q : Option Addr) (c d : Nat) (w : World) (hc : w.cell? ⟨b, 0, none⟩ = some (.slice p 16 c)) (hd : w.cell? ⟨b, 1, none⟩ = some (.slice q 4 d)) :
    Calls Tryz.prog 77 #[.int .u8 9, .slice (some ⟨b, 0, none⟩) 2 cp] w fun e w' => e = .returned (.bool true) ∧ w' = w := by
  go_enter Tryz.func77, Tryz.ntmps77
  go_wp2_with fail
  go_ret
  exact ⟨rfl, rfl⟩
set_option maxRecDepth 100000 in
set_option maxHeartbeats 1000000 in
theorem bytes05_at (b cp : Nat) (p q : Option Addr) (c d : Nat) (X Y : List UInt8) (w : World) (hX : X.length = 16) (hY : Y.length = 4)
    (hc : w.cell? ⟨b, 0, none⟩ = some (.slice p 16 c)) (hx : Has w (.slice p 16 c) (X.map Sha.bv)) (hd : w.cell? ⟨b, 1, none⟩ = some (.slice q 4 d)) (hy : Has w (.slice q 4 d) (Y.map Sha.bv)) :
    Calls Tryz.prog 66 #[.int .u8 9, .slice (some ⟨b, 0, none⟩) 2 cp] w fun e w' =>
      ∃ v, e = .returned (.tuple #[v, .int .i64 0]) ∧ w'.ownsRow w.heap.size 5 1 v (framed [word 9, X, Y]).length ((framed [word 9, X, Y]).map Sha.bv) ∧ Below w.heap.size w w' := by
  have hb0 : b < w.heap.size := block_lt_of_cell hc
  have hne : ((wordB 9).toList.isEmpty) = false := by kernel_rfl
  have hconv := fun W => run_bytes_of_string (P := Tryz.prog) W 9 70 5 (wordB 9) Tryz.underlying9 Tryz.underlying70 Tryz.underlying5
  go_enter Tryz.func66, Tryz.ntmps66
  go_wp2_with fail
  refine (word05 _).mono ?_
  rintro e w1 ⟨rfl, rfl⟩
  go_wp2_with fail
  refine (fits05 b cp p q c d _ hc hd).mono ?_
  rintro e w2 ⟨rfl, rfl⟩
  go_wp2_with fail
  refine (word05 _).mono ?_
  rintro e w2 ⟨rfl, rfl⟩
  go_wp2_with fail
  have hG := grownCap_ge w2 (wordB 9).size 0 5
  clear hconv
  generalize grownCap w2 (wordB 9).size 0 5 = G at *
  have hx0 := has_string w2 5 (wordB 9) G ((bytesRow (wordB 9) G).size, (bytesRow (wordB 9) G).size + 1) hG
  have hb1 := (Below.refl w2.heap.size w2).alloc (Nat.le_refl _) (.cells (bytesRow (wordB 9) G) 5 ((bytesRow (wordB 9) G).size, (bytesRow (wordB 9) G).size + 1))
  replace hx0 := hx0.later (Below.refl _ _).drew
  replace hb1 := hb1.drew
  change Has _ (.slice (some ⟨w2.heap.size, 0, none⟩) 15 G) ((word 9).map Sha.bv) at hx0
  have hsz : (wordB 9).size = 15 := by kernel_rfl
  rw [hsz]
  generalize (w2.alloc _).drew = W at *
  refine (frame05_at (some ⟨w2.heap.size, 0, none⟩) 15 G (word 9) (by omega) W hx0).mono ?_
  rintro e w3 ⟨v, rfl, hown, hb3⟩
  have hB := hb1.trans (hb3.mono hb1.size)
  have hown3 := owns_mono hown hb1.size
  clear hown hx0 hb1 hb3 hne hsz hG
  have HX := Lib.hid hx
  have HY := Lib.hid hy
  have HXL := Lib.hid hX
  have HYL := Lib.hid hY
  have HC := Lib.hid hc
  have HD := Lib.hid hd
  clear hx hy hX hY hc hd
  obtain ⟨i0, hi, hz0, hz1, hz2⟩ := info_parts info_u8
  go_wp2_with fail
  go_loopw [6, 7] (fun v i wr => ∃ (j n : Nat) (Z : List UInt8), j ≤ 2 ∧ i = .int .i64 j ∧ Hid (Z = framed ([word 9, X, Y].take (j + 1)) ∧ n = Z.length ∧ n ≤ 23 + 24 * j) ∧ wr.ownsRow w2.heap.size 5 1 v n (Z.map Sha.bv) ∧ Below w2.heap.size w2 wr) (fun _ i _ => 2 - (intOf i).toNat)
  case atStart => exact ⟨0, 23, Sha.be64 15 ++ word 9, by omega, rfl, Lib.hid ⟨by simp [framed, wordlen9], rfl, by omega⟩, hown3, hB⟩
  case round =>
    clear hown3 hB
    obtain ⟨j, n, Z, hj, rfl, HZ, hown, hb⟩ := hrel
    have hn1 : n ≤ 100 := by have := HZ.out.2.2; omega
    rcases (by omega : j = 0 ∨ j = 1 ∨ j = 2) with rfl | rfl | rfl
    · have hc := (hb.cell (p := ⟨b, 0, none⟩) hb0).trans HC.out
      go_wp2_with fail
      refine (frame05_at p 16 c X (by omega) _ (HX.out.later hb)).mono ?_
      rintro e w4 ⟨u, rfl, hown4, hb4⟩
      obtain ⟨D, hD⟩ : ∃ D, D = Sha.be64 16 ++ X := ⟨_, rfl⟩
      have hDl : D.length = 24 := by rw [hD, List.length_append, be64_len, HXL.out]
      rw [← hD] at hown4
      have HDD := Lib.hid hD
      clear hD
      have h5 := owns_below hown hb4 (Nat.le_refl _)
      have hB4 := hb.trans (hb4.mono hb.size)
      clear hown hb4 hb hc
      go_wp2_with (at_builtin; refine wpList_append_has rfl (.tmp 25) (.tmp 30) 70 rfl w2.heap.size 5 i0 (.int .u8 0) 1 Tryz.underlying70 hi hz0 hz1 hz2 rfl _ n _ rfl h5 _ (D.map Sha.bv) rfl (Has.of_owns hown4) (one_bytes _) ?c1 ?c2 ?c3 ?_)
      case c1 => rw [List.length_map, hDl]; unfold maxLen; omega
      case c2 => rw [List.length_map, hDl]; omega
      case c3 => exact hB4.size
      intro v5 w5 h6 hg6
      have hB5 := hB4.grown hg6 hB4.size (fun q e => (h5.lt q e).1)
      have hnew : w5.ownsRow w2.heap.size 5 1 v5 (n + 24) ((Z ++ D).map Sha.bv) := by
        rw [List.map_append]
        simpa [hDl] using h6
      have hz : Z ++ D = framed ([word 9, X, Y].take 2) ∧ n + 24 = (Z ++ D).length ∧ n + 24 ≤ 23 + 24 * 1 := by
        refine ⟨?_, by rw [List.length_append, hDl, ← HZ.out.2.1], by have := HZ.out.2.2; omega⟩
        rw [HZ.out.1, HDD.out]
        simp [framed, HXL.out]
      have HNEW := Lib.hid hnew
      have HZZ := Lib.hid hz
      clear h5 hown4 hg6 hB4 h6 hnew hz hDl
      go_wp2_with fail
      go_roundw
      case rel => exact ⟨1, n + 24, Z ++ D, by omega, by go_num, HZZ, HNEW.out, hB5⟩
      case measure => simp [intOf]
    · have hc := (hb.cell (p := ⟨b, 1, none⟩) hb0).trans HD.out
      go_wp2_with fail
      refine (frame05_at q 4 d Y (by omega) _ (HY.out.later hb)).mono ?_
      rintro e w4 ⟨u, rfl, hown4, hb4⟩
      obtain ⟨D, hD⟩ : ∃ D, D = Sha.be64 4 ++ Y := ⟨_, rfl⟩
      have hDl : D.length = 12 := by rw [hD, List.length_append, be64_len, HYL.out]
      rw [← hD] at hown4
      have HDD := Lib.hid hD
      clear hD
      have h5 := owns_below hown hb4 (Nat.le_refl _)
      have hB4 := hb.trans (hb4.mono hb.size)
      clear hown hb4 hb hc
      go_wp2_with (at_builtin; refine wpList_append_has rfl (.tmp 25) (.tmp 30) 70 rfl w2.heap.size 5 i0 (.int .u8 0) 1 Tryz.underlying70 hi hz0 hz1 hz2 rfl _ n _ rfl h5 _ (D.map Sha.bv) rfl (Has.of_owns hown4) (one_bytes _) ?c1 ?c2 ?c3 ?_)
      case c1 => rw [List.length_map, hDl]; unfold maxLen; omega
      case c2 => rw [List.length_map, hDl]; omega
      case c3 => exact hB4.size
      intro v5 w5 h6 hg6
      have hB5 := hB4.grown hg6 hB4.size (fun q e => (h5.lt q e).1)
      have hnew : w5.ownsRow w2.heap.size 5 1 v5 (n + 12) ((Z ++ D).map Sha.bv) := by
        rw [List.map_append]
        simpa [hDl] using h6
      have hz : Z ++ D = framed ([word 9, X, Y].take 3) ∧ n + 12 = (Z ++ D).length ∧ n + 12 ≤ 23 + 24 * 2 := by
        refine ⟨?_, by rw [List.length_append, hDl, ← HZ.out.2.1], by have := HZ.out.2.2; omega⟩
        rw [HZ.out.1, HDD.out]
        simp [framed, HYL.out]
      have HNEW := Lib.hid hnew
      have HZZ := Lib.hid hz
      clear h5 hown4 hg6 hB4 h6 hnew hz hDl
      go_wp2_with fail
      go_roundw
      case rel => exact ⟨2, n + 12, Z ++ D, by omega, by go_num, HZZ, HNEW.out, hB5⟩
      case measure => simp [intOf]
    · go_wp2_with fail
      refine bodyPost_ret (results_tmp2 rfl _ _ _) rfl ⟨_, rfl, ?_, hb⟩
      rw [HZ.out.2.1, HZ.out.1] at hown
      exact hown
end Go.Proofs.YtfahbdakhbpfcaaGreat
