/-
  Round22: WALK: strongroomref22.Round: the ranks and their servers from a place on; conditions: at most 32 servers, a place from 0 to 1000, the index of 16 bytes.
-/
import Derived.Test.YtfahbdakhbpfcaaGreatM38
import Derived.Test.YtfahbdakhbpfcaaGreatM47
namespace Go.Proofs.YtfahbdakhbpfcaaGreat
open Go.RowKit

theorem own_lit {w : World} {base n : Nat} {e : TypeId} {size : Nat} {v : Value} {xs : List Value} (h : w.ownsRow base e size v n xs) : ∃ p c, v = .slice p n c := by
  rcases h.2 with ⟨h0, hn⟩ | ⟨g, cap, cur, h0, _⟩
  · exact ⟨none, 0, by rw [h0, hn]⟩
  · exact ⟨_, _, h0⟩
/-- appended to, it is not the other's block -/
theorem apart_step {w w' : World} {base n m : Nat} {e : TypeId} {size : Nat} {v v' u : Value} {xs ys : List Value} (hu : w.ownsRow base e size u m ys) (hd : ∀ b, v.ownBlock = some b → u.ownBlock ≠ some b)
    (h3 : (v'.ownBlock = v.ownBlock ∧ w.grownBy w' v.ownBlock) ∨ (w'.ownsRow w.heap.size e size v' n xs ∧ w.grownBy w' none)) : w'.ownsRow base e size u m ys ∧ ∀ b, v'.ownBlock = some b → u.ownBlock ≠ some b := by
  rcases h3 with ⟨h1, h2⟩ | ⟨h1, h2⟩
  · exact ⟨owns_grown hu h2 fun r hr hv => hd r hr hv, fun b hb => hd b (h1 ▸ hb)⟩
  · refine ⟨owns_grown hu h2 (fun r hr => by cases hr), fun b hb hv => ?_⟩
    have := (h1.lt b hb).1
    have := (hu.lt b hv).2
    omega

theorem round22_none (L : List UInt8) (i : Int) (hL : L.length = 16) (w : World) : Calls Tryz.prog 20 #[.agg (blk L), .int .i64 0, .int .i64 i] w fun e w' => e = .returned (.tuple #[.slice none 0 0, .slice none 0 0]) ∧ Below w.heap.size w w' := by
  have R0 := Row.new w 23 (blk L)
  have hb := (Below.refl w.heap.size w).alloc (Nat.le_refl _) (.cells (blk L) 23)
  go_enter Tryz.func20, Tryz.ntmps20
  go_wp2_with (refine wpList_load_row rfl 23 (.tmp 3) rfl w.heap.size rfl 23 (blk L) (0, 0) _ R0 Tryz.underlying23 rfl (idx_info L hL) ?_)
  refine (order22_none (blk L) 0 (by omega) _).mono ?_
  rintro e w1 ⟨rfl, hb1⟩
  have hb2 := hb.trans (hb1.mono hb.size)
  clear R0 hb1
  go_wp2_with fail
  exact bodyPost_ret (results_tmp2 rfl _ _ _) rfl ⟨rfl, hb2⟩

set_option maxRecDepth 100000 in
set_option maxHeartbeats 2000000 in
theorem round22_at (L : List UInt8) (hL : L.length = 16) (s i : Nat) (hs : 1 ≤ s) (hs2 : s ≤ 32) (hi1 : i ≤ 1000) (w : World) :
    Calls Tryz.prog 20 #[.agg (blk L), .int .i64 s, .int .i64 i] w fun e w' =>
      ∃ v u, e = .returned (.tuple #[v, u]) ∧ w'.ownsRow w.heap.size 3 1 u s (ints ((rnd L s i).map (·.2))) ∧ Below w.heap.size w w' := by
  obtain ⟨i0, hi, hz0, hz1, hz2⟩ := info_parts info_int
  have R0 := Row.new w 23 (blk L)
  have hb := (Below.refl w.heap.size w).alloc (Nat.le_refl _) (.cells (blk L) 23)
  obtain ⟨f, hf⟩ : ∃ f, f = i % s := ⟨_, rfl⟩
  have hfi : (i : Int) % (s : Int) = (f : Int) := by rw [hf]; omega
  have hfs : f < s := by rw [hf]; exact Nat.mod_lt _ (by omega)
  have HF := Lib.hid hf
  clear hf
  go_enter Tryz.func20, Tryz.ntmps20
  go_wp2_with (refine wpList_load_row rfl 23 (.tmp 3) rfl w.heap.size rfl 23 (blk L) (0, 0) _ R0 Tryz.underlying23 rfl (idx_info L hL) ?_)
  refine (order22_at L hL s hs hs2 _).mono ?_
  rintro e w1 ⟨rfl, hO, hb1⟩
  have hb2 := hb.trans (hb1.mono hb.size)
  simp only [World.size_alloc] at hO
  clear R0 hb1 hb
  have hd : decide ((f : Int) < 0) = false := decide_eq_false (by omega)
  go_wp2_with fail
  try simp only [hfi]
  clear hd hfi
  go_loopw [10, 11, 12] (fun va vb c wr => ∃ (j : Nat) (l : List Int), j ≤ s ∧ c = .int .i64 j ∧ l.length = j ∧ wr.ownsRow w1.heap.size 3 1 va j (ints l) ∧ Hid (wr.ownsRow w1.heap.size 3 1 vb j (ints (((rnd L s i).take j).map (·.2)))) ∧ Hid (∀ b, va.ownBlock = some b → vb.ownBlock ≠ some b) ∧ Below w1.heap.size w1 wr) (fun _ _ c _ => s - (intOf c).toNat)
  case atStart => exact ⟨0, [], Nat.zero_le _, rfl, rfl, World.ownsRow_nil _ _ _ _, Lib.hid (World.ownsRow_nil _ _ _ _), Lib.hid (fun b h => by cases h), Below.refl _ _⟩
  case round =>
    obtain ⟨j, l, hj, rfl, hl, hA, HB, HD, hB⟩ := hrel
    have HL := Lib.hid hl
    clear hl
    by_cases hlt : j < s
    · have hji : (j : Int) < (s : Int) := by omega
      obtain ⟨r, hr⟩ : ∃ r, r = (f + j) % s := ⟨_, rfl⟩
      have hri : ((f : Int) + (j : Int)) % (s : Int) = (r : Int) := by rw [hr, Int.natCast_emod, Int.natCast_add]
      have hrs : r < s := by rw [hr]; exact Nat.mod_lt _ (by omega)
      have hrsi : (r : Int) < (s : Int) := by omega
      obtain ⟨x, hx⟩ : ∃ x, (ordL L s)[r]? = some x := ⟨(ordL L s)[r]'(by rw [ordL_len]; exact hrs), List.getElem?_eq_getElem _⟩
      have hget : (rnd L s i)[j]? = some ((r : Int), (x : Int)) := by
        rw [rnd_get L s i j hlt, ← HF.out, ← hr]
        simp [hx]
      have htake : ints (((rnd L s i).take (j + 1)).map (·.2)) = ints (((rnd L s i).take j).map (·.2)) ++ [Value.int .i64 (x : Int)] := by
        rw [List.take_add_one, hget]
        simp [ints]
      have hcx : w1.cell? ⟨w.heap.size + 1 + 1, r, none⟩ = some (.int .i64 (x : Int)) := (hO.cell r).trans (by simp [natsA, hx])
      have HT := Lib.hid htake
      have HCX := Lib.hid hcx
      have hox := block_lt_of_cell hcx
      clear htake hget hx hr hcx
      go_wp2_with (at_builtin; refine wpList_append_keep rfl (.tmp 34) (.tmp 40) 38 rfl w1.heap.size 3 i0 (.int .i64 0) 1 8 Tryz.underlying38 hi hz0 hz1 hz2 rfl (by decide) _ j _ rfl (hA.alloc _) ⟨wr.heap.size, 0, none⟩ 1 1 [.int .i64 (r : Int)] rfl rfl ?c1 ?c2 ?c3 ?c4 ?c5 ?_)
      case c2 => first | rfl | (intro u hu; simp at hu; subst hu; rfl)
      case c3 => unfold maxLen; omega
      case c4 => omega
      case c5 => have := hB.size; omega
      intro v' w5 h2 h3
      have hst := apart_step (HB.out.alloc (.cells #[.int .i64 (r : Int)] 3)) HD.out (by simpa only [World.size_alloc] using h3)
      have hB5 : Below w1.heap.size w1 w5 := by
        rcases h3 with ⟨_, h⟩ | ⟨_, h⟩
        · exact (hB.alloc hB.size _).grown h (by have := hB.size; simp; omega) (fun q e => (hA.lt q e).1)
        · exact (hB.alloc hB.size _).grown h (by have := hB.size; simp; omega) (fun q e => by cases e)
      have h2' : w5.ownsRow w1.heap.size 3 1 v' (j + 1) (ints (l ++ [(r : Int)])) := by
        rw [ints, List.map_append]
        exact h2
      clear h2 h3 hA hB HB HD
      have hB6 := hst.1
      have HD6 := Lib.hid hst.2
      clear hst
      have hcx := (hB5.cell (p := ⟨w.heap.size + 1 + 1, r, none⟩) hox).trans HCX.out
      go_wp2_with (at_builtin; refine wpList_append_keep rfl (.tmp 42) (.tmp 51) 38 rfl w1.heap.size 3 i0 (.int .i64 0) 1 8 Tryz.underlying38 hi hz0 hz1 hz2 rfl (by decide) _ j _ rfl (hB6.alloc _) ⟨w5.heap.size, 0, none⟩ 1 1 [.int .i64 (x : Int)] rfl rfl ?d1 ?d2 ?d3 ?d4 ?d5 ?_)
      case d1 =>
        intro q u hq
        rw [Addr.add_mid, Nat.zero_add, (Row.new w5 _ _).cell]
        simpa using hq
      case d2 => first | rfl | (intro u hu; simp at hu; subst hu; rfl)
      case d3 => unfold maxLen; omega
      case d4 => omega
      case d5 => have := hB5.size; simp; omega
      intro v2 w6 h2 h3
      have hst := apart_step (h2'.alloc (.cells #[.int .i64 (x : Int)] 3)) (fun b hb h => HD6.out b h hb) (by simpa only [World.size_alloc] using h3)
      have hB7 : Below w1.heap.size w1 w6 := by
        rcases h3 with ⟨_, h⟩ | ⟨_, h⟩
        · exact (hB5.alloc hB5.size _).grown h (by have := hB5.size; simp; omega) (fun q e => (hB6.lt q e).1)
        · exact (hB5.alloc hB5.size _).grown h (by have := hB5.size; simp; omega) (fun q e => by cases e)
      have HN := Lib.hid (show w6.ownsRow w1.heap.size 3 1 v2 (j + 1) (ints (((rnd L s i).take (j + 1)).map (·.2))) by rw [HT.out, List.map_take]; exact h2)
      have hA7 := hst.1
      have HD7 := Lib.hid (show ∀ b, v'.ownBlock = some b → v2.ownBlock ≠ some b from fun b hb h => hst.2 b h hb)
      clear h2 h3 hst h2' hB6 hB5 hcx
      go_wp2_with fail
      go_roundw
      case rel => exact ⟨j + 1, _, by omega, by go_num, by simp [HL.out], hA7, HN, HD7, hB7⟩
      case measure => simp [intOf]; omega
    · obtain rfl : j = s := by omega
      have hfin := HB.out
      rw [List.take_of_length_le (by rw [rnd_len]; omega)] at hfin
      have HFIN := Lib.hid hfin
      clear hfin
      go_wp2_with fail
      exact bodyPost_ret (results_tmp2 rfl _ _ _) rfl ⟨_, _, rfl, owns_mono HFIN.out hb2.size, hb2.trans (hB.mono hb2.size)⟩
end Go.Proofs.YtfahbdakhbpfcaaGreat
