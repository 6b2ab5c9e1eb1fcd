/-
  Ord22: WALK: strongroomref22.Order: the servers by rank; conditions: 1 to 32 servers, the index of 16 bytes.
-/
import Derived.Test.YtfahbdakhbpfcaaGreatM46
namespace Go.Proofs.YtfahbdakhbpfcaaGreat
open Go.RowKit

theorem ordL_rank (L : List UInt8) (s x : Nat) (hx : x < s) : (ordL L s)[rank s (aheadB L) x]? = some x := by
  have hm : x ∈ ordL L s := (ordL_perm L s).mem_iff.2 (List.mem_range.2 hx)
  obtain ⟨j, hj⟩ := List.mem_iff_getElem?.1 hm
  have h1 := filter_pre (strictR L s) (ordL L s) (fun y hy => List.mem_range.1 ((ordL_perm L s).mem_iff.1 hy)) (ordL_sorted L s) j x hj
  have h2 := ((ordL_perm L s).filter fun t => aheadB L t x).length_eq
  have h3 : rank s (aheadB L) x = j := h2.symm.trans h1
  rw [h3]
  exact hj
theorem rank_inj (L : List UInt8) (s x y : Nat) (hx : x < s) (hy : y < s) (h : rank s (aheadB L) x = rank s (aheadB L) y) : x = y := by
  have h1 := ordL_rank L s x hx
  rw [h, ordL_rank L s y hy] at h1
  exact (Option.some.inj h1).symm
/-- how many of the first y stand ahead of x -/
def rankTo (L : List UInt8) (y x : Nat) : Nat := ((List.range y).filter fun t => aheadB L t x).length
theorem rankTo_succ (L : List UInt8) (y x : Nat) : rankTo L (y + 1) x = rankTo L y x + (if aheadB L y x then 1 else 0) := by
  unfold rankTo
  rw [List.range_succ, List.filter_append, List.length_append]
  congr 1
  cases h : aheadB L y x <;> simp [h]
theorem rankTo_le (L : List UInt8) (y x : Nat) : rankTo L y x ≤ y := by
  unfold rankTo
  exact Nat.le_trans (List.length_filter_le _ _) (by simp)
theorem aheadB_self (L : List UInt8) (x : Nat) : aheadB L x x = false := (strictR L (x + 1)).irrefl x (by omega)

theorem wpList_load_rowG {P : Program} {ops : Array Oper} {rest : List Oper} {o : Oper} {a : Act} {w : World} {Q : Exit → Act → World → Prop} (hgw : Region.wanted o (yielded ops a.tmps) = true) (ty : TypeId) (x : Operand) (ho : o.op = .load ty x)
    (g : Nat) (hx : a.eval x = .pointer (some ⟨g, 0, none⟩)) (t : TypeId) (cs : Array Value) (fr : Nat × Nat) (d : TypeDesc) (hg : w.heap[g]? = some (.cells cs t fr))
    (hu : P.underlying ty = some d) (hd : (match d with | .struct _ | .array _ _ => true | _ => false) = true) (hi : (P.info? ty).map (·.size) = some cs.size)
    (h : wpList P ops Q rest (a.put o.dst (.agg cs)) w) : wpList P ops Q (o :: rest) a w :=
  wpList_step fun K hK => by
    rw [if_pos hgw]
    exact wp_load_row ty x ho g hx t cs fr d hg hu hd hi (hK _ _ h)

/-- the places so far filled -/
def Placed (L : List UInt8) (s k : Nat) (O : List Nat) : Prop := O.length = s ∧ ∀ x, x < k → O[rank s (aheadB L) x]? = some x
theorem Placed.set {L : List UInt8} {s k : Nat} {O : List Nat} (h : Placed L s k O) (hk : k < s) : Placed L s (k + 1) (O.set (rank s (aheadB L) k) k) := by
  refine ⟨by rw [List.length_set]; exact h.1, fun x hx => ?_⟩
  by_cases e : x = k
  · subst e
    exact List.getElem?_set_self (by rw [h.1]; exact rank_lt (strictR L s) hk)
  · rw [List.getElem?_set_ne (fun e2 => e (rank_inj L s x k (by omega) hk e2.symm))]
    exact h.2 x (by omega)
theorem Placed.all {L : List UInt8} {s : Nat} {O : List Nat} (h : Placed L s s O) : O = ordL L s :=
  placed (strictR L s) (ordL L s) O (ordL_perm L s) (ordL_sorted L s) h.1 h.2
def natsA (O : List Nat) : Array Value := (O.map fun x : Nat => Value.int .i64 (x : Int)).toArray
theorem natsA_set (O : List Nat) (i x : Nat) : (natsA O).setIfInBounds i (.int .i64 (x : Int)) = natsA (O.set i x) := by
  simp [natsA, List.map_set]
theorem natsA_zero (s : Nat) : arr (fun _ => Value.int .i64 0) s = natsA (List.replicate s 0) := by
  apply Array.ext_getElem?
  intro i
  by_cases hi : i < s
  · simp [natsA, arr, hi]
  · simp [natsA, arr, hi]

theorem order22_none (cs : Array Value) (s : Int) (hs : s < 1) (w : World) : Calls Tryz.prog 29 #[.agg cs, .int .i64 s] w fun e w' => e = .returned (.tuple #[.slice none 0 0, .int .i64 2]) ∧ Below w.heap.size w w' := by
  go_enter Tryz.func29, Tryz.ntmps29
  go_wp2_with fail
  exact bodyPost_ret (results_tmp2 rfl _ _ _) rfl ⟨rfl, (Below.refl _ _).alloc (Nat.le_refl _) _⟩

set_option maxRecDepth 100000 in
set_option maxHeartbeats 2000000 in
theorem order22_at (L : List UInt8) (hL : L.length = 16) (s : Nat) (hs : 1 ≤ s) (hs2 : s ≤ 32) (w : World) :
    Calls Tryz.prog 29 #[.agg (blk L), .int .i64 s] w fun e w' =>
      e = .returned (.tuple #[.slice (some ⟨w.heap.size + 1, 0, none⟩) s s, .int .i64 0]) ∧ Row w' (w.heap.size + 1) 3 (natsA (ordL L s)) ∧ Below w.heap.size w w' := by
  have hmk := make_ints s (by omega)
  have HL := Lib.hid hL
  clear hL
  have R0 := (Row.new w 23 (blk L)).alloc (.cells (natsA (List.replicate s 0)) 3)
  have R1 := Row.new (w.alloc (.cells (blk L) 23)) 3 (natsA (List.replicate s 0))
  have B0 := ((Below.refl w.heap.size w).alloc (Nat.le_refl _) (.cells (blk L) 23)).alloc (by simp) (.cells (natsA (List.replicate s 0)) 3)
  simp only [World.size_alloc] at R1
  rw [natsA_zero] at hmk
  go_enter Tryz.func29, Tryz.ntmps29
  go_wp2_with fail
  go_loopw [7] (fun i wr => ∃ (x : Nat) (O : List Nat), x ≤ s ∧ i = .int .i64 x ∧ Hid (Placed L s x O) ∧ Row wr w.heap.size 23 (blk L) ∧ Row wr (w.heap.size + 1) 3 (natsA O) ∧ Below w.heap.size w wr) (fun i _ => s - (intOf i).toNat)
  case atStart => exact ⟨0, _, Nat.zero_le _, rfl, Lib.hid ⟨by simp, fun x hx => absurd hx (Nat.not_lt_zero _)⟩, R0, R1, B0⟩
  case round =>
    clear R0 R1 B0
    obtain ⟨x, O, hx, rfl, HP, R0, R1, hB⟩ := hrel
    by_cases hlt : x < s
    · have hxi : (x : Int) < (s : Int) := by omega
      go_wp2_with fail
      go_loopw [8, 9] (fun r j wr => ∃ (y n : Nat), y ≤ s ∧ j = .int .i64 y ∧ r = .int .i64 n ∧ Hid (n = rankTo L y x) ∧ Row wr w.heap.size 23 (blk L) ∧ Row wr (w.heap.size + 1) 3 (natsA O) ∧ Below w.heap.size w wr) (fun _ j _ => s - (intOf j).toNat)
      case atStart => exact ⟨0, 0, Nat.zero_le _, rfl, rfl, Lib.hid rfl, R0, R1, hB⟩
      case round =>
        clear R0 R1 hB
        obtain ⟨y, n, hy, rfl, rfl, HN, R0, R1, hB⟩ := hrel
        by_cases hlt2 : y < s
        · have hyi : (y : Int) < (s : Int) := by omega
          by_cases hyx : y = x
          · subst hyx
            go_wp2_with fail
            go_roundw
            case rel => exact ⟨y + 1, n, by omega, by go_num, rfl, Lib.hid (by rw [rankTo_succ, aheadB_self]; exact HN.out), R0, R1, hB⟩
            case measure => simp [intOf]; omega
          · have hne : ((y : Int) != (x : Int)) = true := by
              simp only [bne_iff_ne, ne_eq]
              omega
            go_wp2_with (refine wpList_load_rowG rfl 23 (.tmp 2) rfl w.heap.size rfl 23 (blk L) (0, 0) _ R0 Tryz.underlying23 rfl (idx_info L HL.out) ?_)
            refine (ahead_at L HL.out y x (by omega) (by omega) wr).mono ?_
            rintro e w4 ⟨rfl, hb4⟩
            have R0' := R0.below hb4 R0.lt
            have R1' := R1.below hb4 R1.lt
            have hB' := hB.trans (hb4.mono hB.size)
            have hn32 : n ≤ 32 := by rw [HN.out]; have := rankTo_le L y x; omega
            clear R0 R1 hB hb4
            cases hah : aheadB L y x with
            | true =>
              go_wp2_with fail
              go_roundw
              case rel => exact ⟨y + 1, n + 1, by omega, by go_num, by go_num, Lib.hid (by rw [rankTo_succ, hah, HN.out]; rfl), R0', R1', hB'⟩
              case measure => simp [intOf]; omega
            | false =>
              go_wp2_with fail
              go_roundw
              case rel => exact ⟨y + 1, n, by omega, by go_num, rfl, Lib.hid (by rw [rankTo_succ, hah]; exact HN.out), R0', R1', hB'⟩
              case measure => simp [intOf]; omega
        · obtain rfl : y = s := by omega
          have hns : n < y := by rw [HN.out]; exact rank_lt (strictR L y) hlt
          have hni : (n : Int) < (y : Int) := by omega
          obtain ⟨o, ho⟩ : ∃ o, O[n]? = some o := ⟨O[n]'(by have := HP.out.1; omega), List.getElem?_eq_getElem _⟩
          have hc : wr.cell? ⟨w.heap.size + 1, n, none⟩ = some (.int .i64 (o : Int)) := (R1.cell n).trans (by simp [natsA, ho])
          have hf := R1.frozen n
          have R0' := R0.other ⟨w.heap.size + 1, n, none⟩ (.int .i64 (x : Int)) (by simp)
          have R1' := R1.store n (.int .i64 (x : Int))
          rw [natsA_set] at R1'
          have hB' := hB.setCell (p := ⟨w.heap.size + 1, n, none⟩) (by simp) (.int .i64 (x : Int))
          have HO := Lib.hid (show O.set n x = O.set (rank y (aheadB L) x) x by rw [HN.out]; rfl)
          clear R0 R1 hB ho
          go_wp2_with fail
          go_roundw
          case rel =>
            refine ⟨x + 1, _, by omega, by go_num, Lib.hid (HP.out.set hlt), R0', ?_, hB'⟩
            rw [← HO.out]
            exact R1'
          case measure => simp [intOf]; omega
    · obtain rfl : x = s := by omega
      go_wp2_with fail
      refine bodyPost_ret (results_tmp2 rfl _ _ _) rfl ⟨rfl, ?_, hB⟩
      rw [← HP.out.all]
      exact R1
end Go.Proofs.YtfahbdakhbpfcaaGreat
