/-
  Ring: WALK: tag.Ring: a server's digest for an index; conditions: the index is of 16 bytes.
  Pairs: WALKS: strongroomkit's lists of pairs: LentPairs; conditions: at most 100000 pairs.
-/
import Derived.Test.YtfahbdakhbpfcaaGreatM20
import Derived.Test.YtfahbdakhbpfcaaGreatM23
import Derived.Deep.Slices
namespace Go.Proofs.YtfahbdakhbpfcaaGreat
open Go.RowKit

theorem has_row {w : World} {b : Nat} {t : TypeId} {L : List UInt8} (h : Row w b t (blk L)) (n c : Nat) (hn : L.length = n) (hc : n ≤ c) : Has w (.slice (some ⟨b, 0, none⟩) n c) (L.map Sha.bv) := by
  subst hn
  refine .inr ⟨⟨b, 0, none⟩, c, by simp, by simpa using hc, fun j u hu => ?_⟩
  rw [Addr.add_mid, Nat.zero_add, h.cell]
  simpa [blk] using hu

set_option maxRecDepth 100000 in
set_option maxHeartbeats 1000000 in
theorem ring_at (L : List UInt8) (hL : L.length = 16) (x : Sha.U) (w : World) : Calls Tryz.prog 32 #[.agg (blk L), Sha.uv x] w fun e w' => e = .returned (dval (framed [word 9, L, Sha.be x])) ∧ Below w.heap.size w w' := by
  have HL := Lib.hid hL
  clear hL
  go_enter Tryz.func32, Tryz.ntmps32
  have D0 := Lib.hid (Row.new (w.alloc (.cells (blk L) 23)) 25 z32)
  have L0 := Lib.hid ((Row.new w 23 (blk L)).alloc (.cells z32 25))
  have B0 := Lib.hid (((Below.refl w.heap.size w).alloc (Nat.le_refl _) (.cells (blk L) 23)).alloc (by simp) (.cells z32 25))
  go_wp2_with fail
  generalize hW : (w.alloc _).alloc _ = W0
  have hW' : (w.alloc (.cells (blk L) 23)).alloc (.cells z32 25) = W0 := hW
  have hs0 : W0.heap.size = w.heap.size + 2 := by rw [← hW]; simp
  have hD : Row W0 (w.heap.size + 1) 25 z32 := by
    have h := hW' ▸ D0.out
    simpa using h
  have hL := hW' ▸ L0.out
  have hB := hW' ▸ B0.out
  have HS0 := Lib.hid hs0
  clear hW hW' D0 L0 B0 hs0
  refine wp_region_any (by kernel_rfl) ?_
  change wpAny _ _ _ _ _ _ _ W0.drew
  refine wpAny_takeL (i := 0) (v := ?_) rfl (by kernel_rfl) (by kernel_rfl) (by kernel_rfl) (fun _ _ _ h => h) (Or.inl ⟨by rfl, ?_⟩) ?_
  rotate_left
  · intro w
    go_simp
    try with_reducible rfl
  simp only [Act.put, List.setIfInBounds_toArray, List.set_cons_zero, List.set_cons_succ]
  refine wpAny_takeL (i := 1) (v := ?_) rfl (by kernel_rfl) (by kernel_rfl) (by kernel_rfl) (fun _ _ _ h => h) (Or.inl ⟨by rfl, ?_⟩) ?_
  rotate_left
  · intro w
    go_simp
    try with_reducible rfl
  simp only [Act.put, List.setIfInBounds_toArray, List.set_cons_zero, List.set_cons_succ]
  refine wpAny_of_idxL [2, 3, 4, 5] [_, _, _, _] _ _ rfl rfl (by kernel_rfl) ?_
  have hb0 := (Below.refl W0.heap.size W0).drew
  have hD := hD.drew
  have hL := hL.drew
  have hB := hB.trans (hb0.mono hB.size)
  clear hb0
  have hz0 : W0.heap.size = W0.drew.heap.size := rfl
  generalize W0.drew = W0 at *
  go_wp2_with fail
  refine (big32 x W0).mono ?_
  rintro e w1 ⟨rfl, rfl⟩
  go_wp2_with fail
  have hk := ((Below.refl W0.heap.size W0).alloc (Nat.le_refl _) (.cells (blk (Sha.be x)) 5)).alloc (by simp) (.cells #[.slice (some ⟨w.heap.size, 0, none⟩) 16 16, .slice (some ⟨W0.heap.size, 0, none⟩) 4 4] 70)
  have rX := (Row.new W0 5 (blk (Sha.be x))).alloc (.cells #[.slice (some ⟨w.heap.size, 0, none⟩) 16 16, .slice (some ⟨W0.heap.size, 0, none⟩) 4 4] 70)
  have rP := Row.new (W0.alloc (.cells (blk (Sha.be x)) 5)) 70 #[.slice (some ⟨w.heap.size, 0, none⟩) 16 16, .slice (some ⟨W0.heap.size, 0, none⟩) 4 4]
  simp only [World.size_alloc] at rP
  have hD1 := hD.below hk hD.lt
  have hL1 := hL.below hk hL.lt
  have hB1 := hB.trans (hk.mono hB.size)
  have hlt := hD.lt
  have hz : W0.heap.size + 2 = ((W0.alloc (.cells (blk (Sha.be x)) 5)).alloc (.cells #[.slice (some ⟨w.heap.size, 0, none⟩) 16 16, .slice (some ⟨W0.heap.size, 0, none⟩) 4 4] 70)).heap.size := by simp
  generalize hW : (W0.alloc _).alloc _ = W1
  have hW' : (W0.alloc (.cells (blk (Sha.be x)) 5)).alloc (.cells #[.slice (some ⟨w.heap.size, 0, none⟩) 16 16, .slice (some ⟨W0.heap.size, 0, none⟩) 4 4] 70) = W1 := hW
  rw [hW'] at hD1 hL1 hB1 rX rP hz
  clear hW hW' hk hD hL hB
  refine (made_any 9 (some ⟨W0.heap.size + 1, 0, none⟩) 2 2 (framed [word 9, L, Sha.be x]) (by rw [framed3_len, wordlen9, HL.out, Sha.be_length]; omega) W1 fun W hW => ?_).mono ?_
  · exact tag9_two (W0.heap.size + 1) 2 (some ⟨w.heap.size, 0, none⟩) (some ⟨W0.heap.size, 0, none⟩) 16 4 L (Sha.be x) W (Nat.le_refl _) HL.out (Sha.be_length x) ((rP.below hW rP.lt).cell 0) (has_row (hL1.below hW hL1.lt) 16 16 HL.out (Nat.le_refl _))
      ((rP.below hW rP.lt).cell 1) (has_row (rX.below hW rX.lt) 4 4 (Sha.be_length x) (Nat.le_refl _))
  · rintro e w1 ⟨rfl, hb1⟩
    have hD2 := hD1.below hb1 hD1.lt
    have hB2 := hB1.trans (hb1.mono hB1.size)
    clear hD1 hB1 hb1 hL1 rX rP
    dsimp only
    iterate 1 go_step
    refine wpList_store_row rfl 25 (.tmp 4) _ rfl (w.heap.size + 1) (blk (Sha.digest (framed [word 9, L, Sha.be x]))) rfl rfl 25 z32 hD2 (digInfo _) (digSize _) (blk_one _) ?_
    go_wp2_with fail
    exact bodyPost_ret (results_cell_row Tryz.results32 _ _ _ _ _ _ _ rfl (hD2.setRow (blk (Sha.digest (framed [word 9, L, Sha.be x])))) Tryz.underlying25 rfl (digInfo _)) rfl ⟨rfl, below_setRow hB2 (by omega) _⟩
end Go.Proofs.YtfahbdakhbpfcaaGreat
namespace Go.Proofs.YtfahbdakhbpfcaaGreat
open Go.RowKit

/-- a pair's two cells -/
def pcells (p : Int × Int) : List Value := [.int .i64 p.1, .int .i64 p.2]
def flat (l : List (Int × Int)) : List Value := l.flatMap pcells
def pval (p : Int × Int) : Value := .agg #[.int .i64 p.1, .int .i64 p.2]
theorem flat_length (l : List (Int × Int)) : (flat l).length = l.length * 2 := by
  induction l with
  | nil => rfl
  | cons x r ih => simp only [flat, List.flatMap_cons, List.length_append] at *; rw [ih]; simp [pcells]; omega
theorem flat_append (a b : List (Int × Int)) : flat (a ++ b) = flat a ++ flat b := List.flatMap_append
theorem flat_one : ∀ (l : List (Int × Int)), ∀ u ∈ flat l, u.oneCell' = true := by
  intro l u hu
  obtain ⟨p, _, hp⟩ := List.mem_flatMap.1 hu
  simp only [pcells, List.mem_cons, List.not_mem_nil, or_false] at hp
  rcases hp with rfl | rfl <;> rfl

/-- v is a slice of just these pairs (nil: of none) -/
def HasP (w : World) (v : Value) (l : List (Int × Int)) : Prop :=
  (v = .slice none 0 0 ∧ l = []) ∨ ∃ a c, v = .slice (some a) l.length c ∧ l.length ≤ c ∧ ∀ i p, l[i]? = some p → w.cell? (a.add (i * 2)) = some (.int .i64 p.1) ∧ w.cell? (a.add (i * 2 + 1)) = some (.int .i64 p.2)

theorem owns_below {w w' : World} {base n B : Nat} {e : TypeId} {size : Nat} {v : Value} {xs : List Value} (h : w.ownsRow base e size v n xs) (hb : Below B w w') (hB : w.heap.size ≤ B) : w'.ownsRow base e size v n xs := by
  refine ⟨h.1, ?_⟩
  rcases h.2 with h0 | ⟨g, cap, cur, rfl, hg, hr, hrest⟩
  · exact .inl h0
  · have hlt : g < w.heap.size := (Array.getElem?_eq_some_iff.1 hr).1
    exact .inr ⟨g, cap, cur, rfl, hg, (hb.block g (by omega)).trans hr, hrest⟩

theorem info_pair : (Tryz.prog.info? 44).map (fun i => (i.zero, i.size, i.bytes)) = some (some (.agg #[.int .i64 0, .int .i64 0]), 2, 16) := by kernel_rfl

theorem mark_at (k i : Int) (hk : 0 ≤ k ∧ k ≤ 1000) (w : World) : Calls Tryz.prog 11 #[.int .i64 k, .int .i64 i] w fun e w' => e = .returned (pval (1000003 * (k + 1), i)) ∧ Below w.heap.size w w' := by
  go_enter Tryz.func11, Tryz.ntmps11
  go_wp2_with fail
  exact bodyPost_ret (results_cell_row Tryz.results11 _ _ _ _ _ _ _ rfl (Row.new _ _ _) Tryz.underlying44 rfl (by kernel_rfl)) rfl ⟨rfl, (Below.refl _ _).alloc (Nat.le_refl _) _⟩

/-- what LentPairs answers of l -/
def lent (l : List (Int × Int)) : List (Int × Int) := l ++ (List.range 70).map fun i : Nat => (1000003, (l.length : Int) + (i : Int))

set_option maxRecDepth 100000 in
set_option maxHeartbeats 4000000 in
theorem lent_at (n c : Nat) (p : Option Addr) (l : List (Int × Int)) (w : World) (hl : l.length = n) (hn : n ≤ 100000) (hp : HasP w (.slice p n c) l) :
    Calls Tryz.prog 4 #[.slice p n c] w fun e w' => ∃ v, e = .returned v ∧ w'.ownsRow w.heap.size 44 2 v (n + 70) (flat (l ++ (List.range 70).map fun i : Nat => (1000003, (n : Int) + (i : Int)))) ∧ Below w.heap.size w w' := by
  go_enter Tryz.func4, Tryz.ntmps4
  obtain ⟨i0, hi, hz0, hz1, hz2⟩ := info_parts info_pair
  go_wp2_with fail
  go_loopw [3, 4] (fun v i wr => ∃ k : Nat, k ≤ n ∧ i = .int .i64 k ∧ wr.ownsRow w.heap.size 44 2 v k (flat (l.take k)) ∧ Below w.heap.size w wr) (fun _ i _ => n - (intOf i).toNat)
  case atStart => exact ⟨0, Nat.zero_le _, rfl, World.ownsRow_nil _ _ _ _, Below.refl _ _⟩
  case round =>
    obtain ⟨k, hk, rfl, hown, hb⟩ := hrel
    by_cases hlt : k < n
    · obtain ⟨⟨x, y⟩, hxy⟩ : ∃ q, l[k]? = some q := ⟨l[k]'(by omega), List.getElem?_eq_getElem _⟩
      rcases hp with ⟨_, h0⟩ | ⟨a, c', hpe, hcc, hcell⟩
      · subst h0
        simp at hxy
      simp only [Value.slice.injEq] at hpe
      obtain ⟨rfl, -, rfl⟩ := hpe
      obtain ⟨hc0, hc1⟩ := hcell k _ hxy
      have hc0 := (hb.cell (block_lt_of_cell hc0)).trans hc0
      have hc1 := (hb.cell (block_lt_of_cell hc1)).trans hc1
      have hc1 : wr.cell? ⟨(a.add (k * 2)).block, (a.add (k * 2)).off + 1, none⟩ = some (.int .i64 y) := by rw [← Deep.add_add] at hc1; exact hc1
      have hki : (k : Int) < (n : Int) := by omega
      have hcb : flat (l.take (k + 1)) = flat (l.take k) ++ [Value.int .i64 x, Value.int .i64 y] := by
        rw [List.take_add_one, hxy, flat_append]
        rfl
      have HCB := Lib.hid hcb
      clear hcb hcell
      go_wp2_with (at_builtin; refine wpList_append_own _ rfl (.tmp 12) (.tmp 17) 28 rfl w.heap.size 44 i0 (.agg #[.int .i64 0, .int .i64 0]) 2 16 Tryz.underlying28 hi hz0 hz1 hz2 rfl (by decide) _ k _ rfl (hown.alloc _) ⟨wr.heap.size, 0, none⟩ 1 1 [.int .i64 x, .int .i64 y] rfl rfl ?c1 ?c2 ?c3 ?c4 ?c5 ?_)
      case c2 => exact ⟨rfl, rfl⟩
      case c3 => unfold maxLen; omega
      case c4 => omega
      case c5 => have := hb.size; simp; omega
      intro v2 w2 hown2 hgrow2 _
      rw [← HCB.out] at hown2
      have hB2 := hb.alloc hb.size (.cells #[.int .i64 x, .int .i64 y] 44)
      have hB3 : Below w.heap.size w w2 := hB2.grown hgrow2 hB2.size (fun k hk => (hown.lt k hk).1)
      clear hgrow2 hown hB2 hb HCB
      go_wp2_with fail
      go_roundw
      case rel => exact ⟨k + 1, by omega, by go_num, hown2, hB3⟩
      case measure => simp [intOf]; omega
    · obtain rfl : k = n := by omega
      rw [List.take_of_length_le (by omega)] at hown
      go_wp2_with fail
      go_loopw [3, 5] (fun v i wr => ∃ m : Nat, m ≤ 70 ∧ i = .int .i64 m ∧ wr.ownsRow w.heap.size 44 2 v (k + m) (flat (l ++ (List.range m).map fun i : Nat => (1000003, (k : Int) + (i : Int)))) ∧ Below w.heap.size w wr) (fun _ i _ => 70 - (intOf i).toNat)
      case atStart => exact ⟨0, Nat.zero_le _, rfl, by simpa using hown, hb⟩
      case round =>
        obtain ⟨m, hm, rfl, hown, hb⟩ := hrel
        by_cases hlt2 : m < 70
        · have hmi : (m : Int) < 70 := by omega
          have hcb : flat (l ++ (List.range (m + 1)).map fun i : Nat => (1000003, (k : Int) + (i : Int))) = flat (l ++ (List.range m).map fun i : Nat => (1000003, (k : Int) + (i : Int))) ++ [Value.int .i64 1000003, Value.int .i64 ((k : Int) + (m : Int))] := by
            rw [List.range_succ, List.map_append, ← List.append_assoc, flat_append]
            rfl
          have HCB := Lib.hid hcb
          clear hcb
          go_wp2_with fail
          refine (mark_at 0 ((k : Int) + m) (by omega) wr).mono ?_
          rintro e w1 ⟨rfl, hb1⟩
          have hown1 := owns_below hown hb1 (Nat.le_refl _)
          have hB1 := hb.trans (hb1.mono hb.size)
          clear hown hb
          unfold pval
          go_wp2_with (at_builtin; refine wpList_append_own _ rfl (.tmp 23) (.tmp 29) 28 rfl w.heap.size 44 i0 (.agg #[.int .i64 0, .int .i64 0]) 2 16 Tryz.underlying28 hi hz0 hz1 hz2 rfl (by decide) _ (k + m) _ rfl (hown1.alloc _) ⟨w1.heap.size, 0, none⟩ 1 1 [Value.int .i64 1000003, Value.int .i64 ((k : Int) + (m : Int))] rfl rfl ?d1 ?d2 ?d3 ?d4 ?d5 ?_)
          case d1 =>
            intro j u hj
            rw [Addr.add_mid, Nat.zero_add, (Row.new w1 _ _).cell]
            simpa using hj
          case d2 => intro u hu; simp at hu; rcases hu with rfl | rfl <;> rfl
          case d3 => unfold maxLen; omega
          case d4 => omega
          case d5 => have := hB1.size; simp; omega
          intro v2 w2 hown2 hgrow2 _
          rw [← HCB.out] at hown2
          have hB2 := hB1.alloc hB1.size (.cells #[.int .i64 1000003, .int .i64 ((k : Int) + (m : Int))] 44)
          have hB3 : Below w.heap.size w w2 := hB2.grown hgrow2 hB2.size (fun k hk => (hown1.lt k hk).1)
          clear hgrow2 hown1 hB2 hB1 hb1 HCB
          go_wp2_with fail
          go_roundw
          case rel => exact ⟨m + 1, by omega, by go_num, hown2, hB3⟩
          case measure => simp [intOf]; omega
        · obtain rfl : m = 70 := by omega
          go_wp2_with fail
          go_ret
          exact ⟨_, rfl, hown, hb⟩
end Go.Proofs.YtfahbdakhbpfcaaGreat
