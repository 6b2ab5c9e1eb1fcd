/-
  PlanC: repair.Plan's contract, whole; conditions: at most 100100 pairs a list.
  Ref09: WALKS: strongroomref09: up, Check; conditions: numbers within ints.
-/
import Derived.Test.YtfahbdakhbpfcaaGreatM34
import Derived.Test.YtfahbdakhbpfcaaGreatM39
namespace Go.Proofs.YtfahbdakhbpfcaaGreat
open Go.RowKit Go.Shelf Go.Maps

open Classical in
/-- what a plan answers: why not, and its tries -/
noncomputable def planOut (L : List UInt8) (k n seg size s : Int) (good bad : List (Int × Int)) : Int × List (Int × List Int) :=
  if okC k n seg size then
    if 0 ≤ s ∧ s ≤ 32 ∧ good.all (inB s n) = true ∧ bad.all (inB s n) = true then (0, planK L s.toNat good bad n.toNat) else (2, [])
  else (5, [])
theorem planOut_5 {L : List UInt8} {k n seg size s : Int} {good bad : List (Int × Int)} (h : ¬ okC k n seg size) : planOut L k n seg size s good bad = (5, []) := if_neg h
theorem planOut_2 {L : List UInt8} {k n seg size s : Int} {good bad : List (Int × Int)} (h : okC k n seg size) (h2 : ¬ (0 ≤ s ∧ s ≤ 32 ∧ good.all (inB s n) = true ∧ bad.all (inB s n) = true)) : planOut L k n seg size s good bad = (2, []) := (if_pos h).trans (if_neg h2)
theorem planOut_0 {L : List UInt8} {k n seg size s : Int} {good bad : List (Int × Int)} (h : okC k n seg size) (h2 : 0 ≤ s ∧ s ≤ 32 ∧ good.all (inB s n) = true ∧ bad.all (inB s n) = true) : planOut L k n seg size s good bad = (0, planK L s.toNat good bad n.toNat) := (if_pos h).trans (if_pos h2)

theorem plan_at (cs : Array Value) (L : List UInt8) (k n seg size s : Int) (hv : Vf cs L k n seg size) (pG pB : Addr) (nG cG nB cB : Nat) (good bad : List (Int × Int)) (w : World)
    (hG : HasP w (.slice (some pG) nG cG) good) (hB : HasP w (.slice (some pB) nB cB) bad) (hnG : nG ≤ 100100) (hnB : nB ≤ 100100) :
    CallsIn Fence.wide 9 Tryz.prog 5 #[.agg cs, .int .i64 s, .slice (some pG) nG cG, .slice (some pB) nB cB] w fun e w' =>
      ∃ v T, e = .returned (.tuple #[v, .int .i64 (planOut L k n seg size s good bad).1]) ∧ Tries w' w.heap.size v T ∧ T.map keyT = (planOut L k n seg size s good bad).2 ∧ Below w.heap.size w w' := by
  have hcs : (Tryz.prog.info? 27).map (·.size) = some cs.size := verify_info.trans (by rw [hv.size52])
  have hno : ∀ (er : Int), er ≠ 0 → planOut L k n seg size s good bad = (er, []) → (∀ W, Below w.heap.size w W → W.cell? ⟨w.heap.size + 2, 0, none⟩ = some (.slice (some pG) nG cG) → W.cell? ⟨w.heap.size + 2, 1, none⟩ = some (.slice (some pB) nB cB) →
      Calls Tryz.prog 12 #[.agg cs, .int .i64 s, .slice (some ⟨w.heap.size + 2, 0, none⟩) 2 2] W fun e w' => e = .returned (.int .i64 er) ∧ Below W.heap.size W w') →
      CallsIn Fence.wide 9 Tryz.prog 5 #[.agg cs, .int .i64 s, .slice (some pG) nG cG, .slice (some pB) nB cB] w fun e w' =>
      ∃ v T, e = .returned (.tuple #[v, .int .i64 (planOut L k n seg size s good bad).1]) ∧ Tries w' w.heap.size v T ∧ T.map keyT = (planOut L k n seg size s good bad).2 ∧ Below w.heap.size w w' := by
    intro er her hout hm
    refine (plan_no cs hcs s er her (some pG) (some pB) nG cG nB cB w hm).mono ?_
    rintro e w' ⟨rfl, hb⟩
    exact ⟨_, [], by rw [hout], ⟨World.ownsRow_nil _ _ _ _, OwnT.nil _ _⟩, by rw [hout]; rfl, hb⟩
  by_cases hok : okC k n seg size
  · have hn : 1 ≤ n ∧ n ≤ 255 := ⟨hok.1, hok.2.1⟩
    have key : ∀ W, Below w.heap.size w W → W.cell? ⟨w.heap.size + 2, 0, none⟩ = some (.slice (some pG) nG cG) → W.cell? ⟨w.heap.size + 2, 1, none⟩ = some (.slice (some pB) nB cB) → 0 ≤ s → s ≤ 32 →
        Calls Tryz.prog 12 #[.agg cs, .int .i64 s, .slice (some ⟨w.heap.size + 2, 0, none⟩) 2 2] W fun e w' =>
        ((allIn s n 2 (fun j => if j = 0 then good else bad) ∧ e = .returned (.int .i64 0)) ∨ (¬ allIn s n 2 (fun j => if j = 0 then good else bad) ∧ e = .returned (.int .i64 2))) ∧ Below W.heap.size W w' := by
      intro W hW h0 h1 hs0 hs1
      have hlt : w.heap.size + 2 < W.heap.size := block_lt_of_cell h0
      refine may_lists cs L k n seg size s W hv hok hs0 hs1 2 (w.heap.size + 2) 2 (fun j => if j = 0 then pG else pB) (fun j => if j = 0 then nG else nB) (fun j => if j = 0 then cG else cB) (fun j => if j = 0 then good else bad) (by omega) (fun _ => hlt) ?_ ?_ ?_
      · intro j hj
        rcases (by omega : j = 0 ∨ j = 1) with rfl | rfl
        · exact h0
        · exact h1
      · intro j hj
        rcases (by omega : j = 0 ∨ j = 1) with rfl | rfl
        · exact hG.later hW
        · exact hB.later hW
      · intro j hj
        rcases (by omega : j = 0 ∨ j = 1) with rfl | rfl
        · exact hnG
        · exact hnB
    have hall : allIn s n 2 (fun j => if j = 0 then good else bad) ↔ good.all (inB s n) = true ∧ bad.all (inB s n) = true := by
      refine ⟨fun h => ⟨h 0 (by omega), h 1 (by omega)⟩, fun h j hj => ?_⟩
      rcases (by omega : j = 0 ∨ j = 1) with rfl | rfl
      · exact h.1
      · exact h.2
    by_cases hs : 0 ≤ s ∧ s ≤ 32
    · by_cases ha : good.all (inB s n) = true ∧ bad.all (inB s n) = true
      · rw [planOut_0 hok ⟨hs.1, hs.2, ha.1, ha.2⟩]
        obtain ⟨s, rfl⟩ : ∃ m : Nat, s = (m : Int) := ⟨s.toNat, by omega⟩
        obtain ⟨N, hN⟩ : ∃ m : Nat, n = (m : Int) := ⟨n.toNat, by omega⟩
        have hp := plan_yes cs hcs L k n seg size hv N hN (by omega) s (by omega) (some pG) (some pB) nG cG nB cB good bad w hG hB hnG hnB (fun q hq => by
          have h1 := List.all_eq_true.1 ha.1 q hq
          simp only [inB, decide_eq_true_eq] at h1
          omega) (fun W hW h0 h1 => (key W hW h0 h1 hs.1 hs.2).mono fun e w' h => ⟨by
            rcases h.1 with ⟨_, h2⟩ | ⟨h2, _⟩
            · exact h2
            · exact absurd (hall.2 ha) h2, h.2⟩)
        rw [hN]
        exact hp
      · refine hno 2 (by decide) (planOut_2 hok fun h => ha h.2.2) fun W hW h0 h1 => (key W hW h0 h1 hs.1 hs.2).mono fun e w' h => ⟨?_, h.2⟩
        rcases h.1 with ⟨h2, _⟩ | ⟨_, h2⟩
        · exact absurd (hall.1 h2) ha
        · exact h2
    · exact hno 2 (by decide) (planOut_2 hok fun h => hs ⟨h.1, h.2.1⟩) fun W _ _ _ => may_arg cs L k n seg size s _ W hv hok (by omega)
  · exact hno 5 (by decide) (planOut_5 hok) fun W _ _ _ => may_cap cs L k n seg size s _ W hv hok
end Go.Proofs.YtfahbdakhbpfcaaGreat
namespace Go.Proofs.YtfahbdakhbpfcaaGreat
open Go.RowKit

theorem upI_split (a b : Int) (h1 : 1 ≤ b) : a / b + (a % b + b - 1) / b = upI a b := by
  unfold upI
  have e : a + b - 1 = b * (a / b) + (a % b + b - 1) := by have := Int.mul_ediv_add_emod a b; omega
  rw [e, Int.mul_add_ediv_left _ _ (by omega)]
set_option maxRecDepth 100000 in
theorem up09_at (a b : Int) (h0 : 0 ≤ a) (h1 : a ≤ 100000000) (h2 : 1 ≤ b) (h3 : b ≤ 100000000) (w : World) : Calls Tryz.prog 37 #[.int .i64 a, .int .i64 b] w fun e w' => e = .returned (.int .i64 (upI a b)) ∧ ∃ q, w' = w.drewN q := by
  have hu := upI_split a b h2
  have hq0 : 0 ≤ a / b := Int.ediv_nonneg h0 (by omega)
  have hq1 : a / b ≤ a := Int.ediv_le_self _ h0
  have hr0 : 0 ≤ a % b := Int.emod_nonneg _ (by omega)
  have hr1 : a % b < b := Int.emod_lt_of_pos _ (by omega)
  have hs0 : 0 ≤ (a % b + b - 1) / b := Int.ediv_nonneg (by omega) (by omega)
  have hs1 : (a % b + b - 1) / b ≤ a % b + b - 1 := Int.ediv_le_self _ (by omega)
  have t1 : a.tdiv b = a / b := Int.tdiv_eq_ediv_of_nonneg h0
  have t2 : a.tmod b = a % b := Int.tmod_eq_emod_of_nonneg h0
  have t3 : (a % b + b - 1).tdiv b = (a % b + b - 1) / b := Int.tdiv_eq_ediv_of_nonneg (by omega)
  have x1 : IntKind.i64.wrap (a / b) = a / b := IntWalk.i64_in _ ⟨by omega, by omega⟩
  have x2 : IntKind.i64.wrap (a % b) = a % b := IntWalk.i64_in _ ⟨by omega, by omega⟩
  have x3 : IntKind.i64.wrap (a % b + b) = a % b + b := IntWalk.i64_in _ ⟨by omega, by omega⟩
  have x4 : IntKind.i64.wrap (a % b + b - 1) = a % b + b - 1 := IntWalk.i64_in _ ⟨by omega, by omega⟩
  have x5 : IntKind.i64.wrap ((a % b + b - 1) / b) = (a % b + b - 1) / b := IntWalk.i64_in _ ⟨by omega, by omega⟩
  have x6 : IntKind.i64.wrap (a / b + (a % b + b - 1) / b) = a / b + (a % b + b - 1) / b := IntWalk.i64_in _ ⟨by omega, by omega⟩
  have hb : (b == 0) = false := by simp only [beq_eq_false_iff_ne]; omega
  have HU := Lib.hid hu
  clear hu
  go_enter Tryz.func37, Tryz.ntmps37
  go_wp2_with fail
  go_quiet (fail)
  go_wp2_with fail
  go_ret
  exact ⟨by rw [← HU.out]; rfl, _, rfl⟩
set_option maxRecDepth 100000 in
set_option maxHeartbeats 1000000 in
theorem laid09_at (k n seg size : Int) (hk : 1 ≤ k) (hk2 : k ≤ 255) (hs : 1 ≤ seg) (hs2 : seg ≤ 100000) (hz : 32 < size) (hz2 : size ≤ 16777216) (w : World) :
    Calls Tryz.prog 36 #[.int .i64 k, .int .i64 n, .int .i64 seg, .int .i64 size] w fun e w' =>
      (∃ t b l : Int, e = .returned (.agg #[.int .i64 k, .int .i64 n, .int .i64 seg, .int .i64 size, .int .i64 (upI size seg), .int .i64 t, .int .i64 b, .int .i64 l])) ∧ Below w.heap.size w w' := by
  have hk0 : ¬ k = 0 := by omega
  have hq1 : seg.tdiv k = seg / k := Int.tdiv_eq_ediv_of_nonneg (by omega)
  have hq2 : 0 ≤ seg / k := Int.ediv_nonneg (by omega) (by omega)
  have hq3 : seg / k ≤ seg := Int.ediv_le_self _ (by omega)
  have hq : IntKind.i64.wrap (seg.tdiv k) = seg / k := by rw [hq1]; exact IntWalk.i64_in _ ⟨by omega, by omega⟩
  clear hq1
  have sb := seg_bound size seg hs (by omega)
  obtain ⟨sb1, sb2, sb3⟩ := sb
  have su := upI_bd size seg (by omega) hs
  obtain ⟨su1, su2⟩ := su
  have hres := (Row.new w 55 zSh).alloc (.cells #[.int .i64 k, .int .i64 n, .int .i64 seg, .int .i64 size, .int .i64 0, .int .i64 0, .int .i64 0, .int .i64 0] 55)
  have hrow := Row.new (w.alloc (.cells zSh 55)) 55 #[.int .i64 k, .int .i64 n, .int .i64 seg, .int .i64 size, .int .i64 0, .int .i64 0, .int .i64 0, .int .i64 0]
  have hb2 := ((Below.refl w.heap.size w).alloc (Nat.le_refl _) (.cells zSh 55)).alloc (by simp) (.cells #[.int .i64 k, .int .i64 n, .int .i64 seg, .int .i64 size, .int .i64 0, .int .i64 0, .int .i64 0, .int .i64 0] 55)
  simp only [World.size_alloc] at hrow
  go_enter Tryz.func36, Tryz.ntmps36
  go_wp2_with fail
  generalize hW : (w.alloc _).alloc _ = W
  have hW' : (w.alloc (.cells zSh 55)).alloc (.cells #[.int .i64 k, .int .i64 n, .int .i64 seg, .int .i64 size, .int .i64 0, .int .i64 0, .int .i64 0, .int .i64 0] 55) = W := hW
  rw [hW'] at hres hrow hb2
  clear hW hW'
  refine (up09_at size seg (by omega) (by omega) hs (by omega) _).mono ?_
  rintro e w4 ⟨rfl, q, rfl⟩
  replace hres := hres.drewN q
  replace hrow := hrow.drewN q
  replace hb2 : Below w.heap.size w (W.drewN q) := hb2.trans ⟨rfl, rfl, rfl, Nat.le_refl _, fun _ _ => rfl⟩
  generalize W.drewN q = V at *
  have c4 : V.cell? ⟨w.heap.size + 1, 4, none⟩ = some (.int .i64 0) := hrow.cell 4
  have f4 := hrow.frozen 4
  have r4 := hrow.store 4 (.int .i64 (upI size seg))
  have c5 := r4.cell 5
  have f5 := r4.frozen 5
  have cc4 := r4.cell 4
  change _ = some (Value.int .i64 0) at c5
  change _ = some (Value.int .i64 (upI size seg)) at cc4
  have r5 := r4.store 5 (.int .i64 (size - (upI size seg - 1) * seg))
  have c6 := r5.cell 6
  have f6 := r5.frozen 6
  change _ = some (Value.int .i64 0) at c6
  have r6 := r5.store 6 (.int .i64 (seg / k))
  have c55 := r6.cell 5
  change _ = some (Value.int .i64 (size - (upI size seg - 1) * seg)) at c55
  have hb4 := ((hb2.setCell (p := ⟨w.heap.size + 1, 4, none⟩) (by simp) (.int .i64 (upI size seg))).setCell (p := ⟨w.heap.size + 1, 5, none⟩) (by simp) (.int .i64 (size - (upI size seg - 1) * seg))).setCell (p := ⟨w.heap.size + 1, 6, none⟩) (by simp) (.int .i64 (seg / k))
  have h4 := ((hres.other ⟨w.heap.size + 1, 4, none⟩ (.int .i64 (upI size seg)) (by simp)).other ⟨w.heap.size + 1, 5, none⟩ (.int .i64 (size - (upI size seg - 1) * seg)) (by simp)).other ⟨w.heap.size + 1, 6, none⟩ (.int .i64 (seg / k)) (by simp)
  have R6 := Lib.hid r6
  have HB4 := Lib.hid hb4
  have H4 := Lib.hid h4
  clear hb2 hres hrow r4 r5 r6 hb4 h4
  go_wp2_with fail
  generalize ((V.setCell _ _).setCell _ _).setCell _ _ = U at *
  refine (up09_at (size - (upI size seg - 1) * seg) k (by omega) (by omega) hk (by omega) _).mono ?_
  rintro e w5 ⟨rfl, q2, rfl⟩
  have hrow := R6.out.drewN q2
  have hres := H4.out.drewN q2
  have hb2 : Below w.heap.size w (U.drewN q2) := HB4.out.trans ⟨rfl, rfl, rfl, Nat.le_refl _, fun _ _ => rfl⟩
  clear c4 f4 c5 f5 cc4 c6 f6 c55 R6 H4 HB4
  generalize U.drewN q2 = V at *
  have c7 := hrow.cell 7
  have f7 := hrow.frozen 7
  change _ = some (Value.int .i64 0) at c7
  have hrow := hrow.store 7 (.int .i64 (upI (size - (upI size seg - 1) * seg) k))
  have hres := hres.other ⟨w.heap.size + 1, 7, none⟩ (.int .i64 (upI (size - (upI size seg - 1) * seg) k)) (by simp)
  have hb2 := hb2.setCell (p := ⟨w.heap.size + 1, 7, none⟩) (by simp) (.int .i64 (upI (size - (upI size seg - 1) * seg) k))
  simp only [List.setIfInBounds_toArray, List.set_cons_zero, List.set_cons_succ] at hrow
  go_wp2_with (first | (refine wpList_load_row rfl 55 (.tmp 9) rfl (w.heap.size + 1) rfl 55 _ (0, 0) _ hrow Tryz.underlying55 rfl shape_info ?_) | (refine wpList_store_row rfl 55 (.tmp 8) (.tmp 36) rfl w.heap.size _ rfl rfl 55 zSh hres shape_info rfl (one8 _ _ _ _ _ _ _ _) ?_))
  exact bodyPost_ret (results_cell_row Tryz.results36 _ _ _ _ _ _ _ rfl (hres.setRow _) Tryz.underlying55 rfl shape_info) rfl ⟨⟨_, _, _, rfl⟩, below_setRow hb2 (Nat.le_refl _) _⟩

/-- a capability's numbers, one by one -/
def okP (k n seg : Int) : Prop := 1 ≤ n ∧ n ≤ 255 ∧ 1 ≤ k ∧ k ≤ n ∧ 1 ≤ seg ∧ seg ≤ 65536
end Go.Proofs.YtfahbdakhbpfcaaGreat
