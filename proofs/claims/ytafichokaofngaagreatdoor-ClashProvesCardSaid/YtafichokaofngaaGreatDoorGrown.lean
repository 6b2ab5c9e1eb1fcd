/- WALK: clash.grown: the tree over segments: as many nodes as the width says; conditions: 1 to 512 segments, each of at most 2^47 - 4096 bytes. -/
import Derived.Test.YtafichokaofngaaGreatDoorTree
import Derived.Great.BuildSlice
namespace Go.Proofs.YtafichokaofngaaGreatDoor
open Go.RowKit

theorem owns_below32 {w w' : World} {base n B : Nat} {e : TypeId} {size : Nat} {v : Value} {xs : List Value} (h : w.ownsRow base e size v n xs) (hb : Below B w w') (hB : w.heap.size ≤ B) : w'.ownsRow base e size v n xs := by
  refine ⟨h.1, ?_⟩
  rcases h.2 with h0 | ⟨g, cap, cur, rfl, hg, hr, hrest⟩
  · exact .inl h0
  · have hlt : g < w.heap.size := (Array.getElem?_eq_some_iff.1 hr).1
    exact .inr ⟨g, cap, cur, rfl, hg, (hb.block g (by omega)).trans hr, hrest⟩
theorem foldl_lay : ∀ (l : List Value) (k : Nat) (A : Array Value) (j : Nat), ((l.zipIdx k).foldl (fun cs x => cs.setIfInBounds (0 + x.2) x.1) A)[j]? = if k ≤ j ∧ j < k + l.length ∧ j < A.size then l[j - k]? else A[j]?
  | [], k, A, j => by
    have : ¬ (k ≤ j ∧ j < k + ([] : List Value).length ∧ j < A.size) := by simp; omega
    rw [if_neg this]
    rfl
  | v :: l, k, A, j => by
    rw [List.zipIdx_cons, List.foldl_cons, foldl_lay l (k + 1) _ j]
    simp only [Nat.zero_add, Array.size_setIfInBounds, List.length_cons]
    by_cases hj : j = k
    · subst hj
      have h1 : ¬ (j + 1 ≤ j ∧ j < j + 1 + l.length ∧ j < A.size) := by omega
      rw [if_neg h1]
      by_cases hA : j < A.size
      · have h2 : j ≤ j ∧ j < j + (l.length + 1) ∧ j < A.size := ⟨Nat.le_refl _, by omega, hA⟩
        rw [if_pos h2]
        simp [hA]
      · have h2 : ¬ (j ≤ j ∧ j < j + (l.length + 1) ∧ j < A.size) := by omega
        rw [if_neg h2]
        simp [hA]
    · have hne : ¬ k = j := fun e => hj e.symm
      by_cases hc : k ≤ j ∧ j < k + (l.length + 1) ∧ j < A.size
      · have h1 : k + 1 ≤ j ∧ j < k + 1 + l.length ∧ j < A.size := by omega
        rw [if_pos h1, if_pos hc]
        rw [show j - k = (j - (k + 1)) + 1 by omega, List.getElem?_cons_succ]
      · have h1 : ¬ (k + 1 ≤ j ∧ j < k + 1 + l.length ∧ j < A.size) := by omega
        rw [if_neg h1, if_neg hc, Array.getElem?_setIfInBounds_ne hne]
theorem foldl_lay_all (cs A : Array Value) (h : A.size = cs.size) : cs.zipIdx.foldl (fun a x => a.setIfInBounds (0 + x.2) x.1) A = cs := by
  apply Array.ext_getElem?
  intro j
  have hf := foldl_lay cs.toList 0 A j
  rw [← Array.foldl_toList, Array.toList_zipIdx, hf]
  by_cases hj : j < cs.size
  · rw [if_pos ⟨Nat.zero_le _, by simpa using hj, by omega⟩]
    simp
  · rw [if_neg (by simp; omega)]
    simp [hj, h]
/-- a list of one digest -/
theorem fill_one (D : List UInt8) (hD : D.length = 32) (i0 : TypeInfo) (hz1 : i0.size = 32) :
    Instr.fill (fun i => some (i * i0.size, i0.size)) ((Array.range (1 * i0.size)).map ((Value.agg z32).cells[· % (Value.agg z32).cells.size]!)) [(0, .agg (blk D))] = some (blk D) := by
  have hs : (blk D).size = 32 := by rw [blk_size, hD]
  rw [hz1]
  simp only [Instr.fill, Value.cells, hs]
  rw [if_neg (by simp)]
  rw [Nat.zero_mul, foldl_lay_all (blk D) _ (by simp [hs])]
theorem owns_nil32 (w : World) (base : Nat) : w.ownsRow base 29 32 (.slice none 0 0) 0 (([] : List UInt8).map Sha.bv) := World.ownsRow_nil _ _ _ _

set_option maxRecDepth 100000 in
set_option maxHeartbeats 4000000 in
theorem grown_at (n : Nat) (a : Addr) (c : Nat) (p : Nat → Option Addr) (cc : Nat → Nat) (ls : List (List UInt8)) (w : World) (hn : ls.length = n) (h1 : 1 ≤ n) (h2 : n ≤ 512) (hp : Parts w a p cc ls) (hm : ∀ l ∈ ls, l.length ≤ 140737488351232) :
    Calls Tryz.prog 45 #[.slice (some a) n c] w fun e w' => ∃ g Z, e = .returned (.slice (some ⟨g, 0, none⟩) (2 * wid n - 1) (2 * wid n - 1)) ∧ w.heap.size ≤ g ∧
      Row w' g 29 (blk Z) ∧ Z.length = 32 * (2 * wid n - 1) ∧ Below w.heap.size w w' := by
  obtain ⟨i0, hi, hz0, hz1, hz2⟩ := info_parts dig_info_all
  have HN := Lib.hid hn
  have HM := Lib.hid hm
  clear hn hm
  go_enter Tryz.func45, Tryz.ntmps45
  go_wp2_with fail
  go_loopw [3, 10] (fun v i wr => ∃ (k : Nat) (Y : List UInt8), k ≤ n ∧ i = .int .i64 k ∧ wr.ownsRow w.heap.size 29 32 v k (Y.map Sha.bv) ∧ Below w.heap.size w wr) (fun _ i _ => n - (intOf i).toNat)
  case atStart => exact ⟨0, [], Nat.zero_le _, rfl, owns_nil32 w _, Below.refl _ _⟩
  case round =>
    obtain ⟨k, Y, hk, rfl, hown, hb⟩ := hrel
    by_cases hlt : k < n
    · have hkl : k < ls.length := by rw [HN.out]; exact hlt
      have hcell := (hp.later hb).cell k hkl
      have hhas := (hp.later hb).has k hkl
      have hlen : (ls.getD k []).length ≤ 140737488351232 := by
        have h := HM.out (ls[k]) (List.getElem_mem hkl)
        simpa [List.getD, hkl] using h
      generalize ls.getD k [] = l at *
      have hki : (k : Int) < (n : Int) := by omega
      have HK := Lib.hid hkl
      clear hkl
      go_wp2_with fail
      refine (segment_at (p k) l.length (cc k) l hlen wr hhas).mono ?_
      rintro e w1 ⟨rfl, hb1⟩
      have hown1 := owns_below32 hown hb1 (Nat.le_refl _)
      have hB1 := hb.trans (hb1.mono hb.size)
      generalize hD : framed [word 4, l] = D
      have e2 : dval D = .agg (blk (Sha.digest D)) := rfl
      rw [e2]
      clear hD hb1 hown hhas hcell e2
      dsimp only
      iterate 1 go_step
      refine wpList_buildSlice rfl 43 29 1 _ rfl (blk (Sha.digest D)) i0 (.agg z32) Tryz.underlying43 hi hz0 (by rw [hz1]; omega) (by rw [hz1]; omega) ?f1 ?_
      case f1 =>
        simp only [List.map_toArray, List.map_cons, List.map_nil, Act.eval, Array.getD_eq_getD_getElem?, List.getElem?_toArray, List.getElem?_cons_succ, List.getElem?_cons_zero, Option.getD_some]
        exact fill_one _ (Sha.digest_length D) i0 hz1
      have hB2 := hB1.alloc hB1.size (.cells (blk (Sha.digest D)) 29)
      have rD := Row.new w1 29 (blk (Sha.digest D))
      refine wpList_append_own _ rfl (.tmp 14) (.tmp 17) 43 rfl w.heap.size 29 i0 (.agg z32) 32 32 Tryz.underlying43 hi hz0 hz1 hz2 rfl (by decide) _ k _ (by rfl) (hown1.alloc _) ⟨w1.heap.size, 0, none⟩ 1 1 ((Sha.digest D).map Sha.bv) (by rfl) ?h1 ?h2 ?h3 ?h4 ?h5 ?h6 ?_
      case h1 => rw [List.length_map, Sha.digest_length]
      case h2 =>
        intro j u hu
        rw [Addr.add_mid, Nat.zero_add, rD.cell]
        simpa [blk] using hu
      case h3 => exact one_bytes _
      case h4 => unfold maxLen; omega
      case h5 => omega
      case h6 => exact hB2.size
      intro v2 w2 hown2 hgrow2 _
      have hB3 : Below w.heap.size w w2 := hB2.grown hgrow2 hB2.size (fun k hk => (hown1.lt k hk).1)
      have hown3 : w2.ownsRow w.heap.size 29 32 v2 (k + 1) ((Y ++ Sha.digest D).map Sha.bv) := by
        rw [List.map_append]
        exact hown2
      obtain ⟨a3, n3, c3, rfl⟩ : ∃ a n c, v2 = .slice a n c := by
        rcases hown3.2 with ⟨rfl, _⟩ | ⟨g, cap, _, rfl, _⟩
        · exact ⟨_, _, _, rfl⟩
        · exact ⟨_, _, _, rfl⟩
      clear hown2 hgrow2 hown1 hB1 hB2 rD hb
      go_wp2_with fail
      go_roundw
      case rel => exact ⟨k + 1, _, by omega, by go_num, hown3, hB3⟩
      case measure => simp [intOf]; omega
    · obtain rfl : k = n := by omega
      have hl := hown.1
      obtain ⟨g, cap, rfl, hcap⟩ : ∃ g cap, u3 = .slice (some ⟨g, 0, none⟩) k cap ∧ k ≤ cap := by
        rcases hown.2 with ⟨_, h0⟩ | ⟨g, cap, _, rfl, _, _, hc, _⟩
        · omega
        · exact ⟨g, cap, rfl, hc⟩
      have hcells := hown.cells rfl
      rw [List.length_map] at hl
      have HL := Lib.hid hl
      have HC := Lib.hid hcells
      clear hown hl hcells
      go_wp2_with fail
      refine (build_at k ⟨g, 0, none⟩ cap Y wr h1 h2 (by rw [HL.out]; omega) HC.out).mono ?_
      rintro e w2 ⟨g2, Z, rfl, hg2, rZ, hZ, hb2⟩
      have hB := hb.trans (hb2.mono hb.size)
      have hle := Nat.le_trans hb.size hg2
      have HZ := Lib.hid hZ
      clear hZ hb hb2
      go_wp2_with fail
      go_ret
      exact ⟨g2, Z, rfl, hle, rZ, HZ.out, hB⟩
end Go.Proofs.YtafichokaofngaaGreatDoor
