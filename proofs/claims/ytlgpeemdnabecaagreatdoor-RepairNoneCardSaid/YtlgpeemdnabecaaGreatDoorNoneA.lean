/- WALKS: a net that is nil, or that nobody made: there is none, Wait says so, Repair says so; conditions: none. -/
import Derived.Test.YtlgpeemdnabecaaGreatDoorProg
import Derived.Test.YtlgpeemdnabecaaGreatDoorBase
import Derived.KernelRfl
namespace Go.Proofs.YtlgpeemdnabecaaGreatDoor
open Go.RowKit

/-- a net that is none: nil, or never made -/
def NoNet (w : World) (v : Value) : Prop := v = .pointer none ∨ ∃ b, v = .pointer (some ⟨b, 0, none⟩) ∧ w.cell? ⟨b, 0, none⟩ = some (.bool false)
theorem NoNet.below {w w' : World} {v : Value} (h : NoNet w v) (hb : Below w.heap.size w w') : NoNet w' v := by
  rcases h with rfl | ⟨b, rfl, hc⟩
  · exact .inl rfl
  · exact .inr ⟨b, rfl, (hb.cell (p := ⟨b, 0, none⟩) (block_lt_of_cell hc)).trans hc⟩

theorem there_none (v : Value) (w : World) (h : NoNet w v) : Calls Tryz.prog 16 #[v] w fun e w' => e = .returned (.bool false) ∧ w = w' := by
  rcases h with rfl | ⟨b, rfl, hc⟩
  · go_enter Tryz.func16, Tryz.ntmps16
    go_wp2
    go_ret
    exact ⟨rfl, rfl⟩
  · go_enter Tryz.func16, Tryz.ntmps16
    go_wp2
    go_ret
    exact ⟨rfl, rfl⟩
theorem wait_none (v : Value) (w : World) (h : NoNet w v) : Calls Tryz.prog 6 #[v, .int .i64 0] w fun e w' => e = .returned (.int .i64 1) ∧ w = w' := by
  go_enter Tryz.func6, Tryz.ntmps6
  go_wp2_with fail
  refine (there_none v w h).mono ?_
  rintro e w1 ⟨rfl, rfl⟩
  go_wp2_with fail
  go_ret
  exact ⟨rfl, rfl⟩

theorem repaired_size : (Tryz.prog.info? 39).map (·.size) = some 3 := by kernel_rfl

set_option maxRecDepth 100000 in
set_option maxHeartbeats 1000000 in
theorem repair_none (p : Value) (cs ds : Array Value) (w : World) (h : NoNet w p) :
    Calls Tryz.prog 4 #[p, .agg cs, .agg ds] w fun e w' => e = .returned (.tuple #[.agg #[.slice none 0 0, .slice none 0 0, .slice none 0 0], .int .i64 1]) ∧ Below w.heap.size w w' := by
  go_enter Tryz.func4, Tryz.ntmps4
  go_wp2_with fail
  have hb3 : Below w.heap.size w (((w.alloc (.cells cs 27)).alloc (.cells ds 30)).alloc (.cells #[.slice none 0 0, .slice none 0 0, .slice none 0 0] 39)) := (((Below.refl _ w).alloc (Nat.le_refl _) _).alloc (by simp) _).alloc (by simp; omega) _
  have hr := Row.new ((w.alloc (.cells cs 27)).alloc (.cells ds 30)) 39 #[.slice none 0 0, .slice none 0 0, .slice none 0 0]
  simp only [World.size_alloc] at hr
  generalize hW : ((w.alloc _).alloc _).alloc _ = W at *
  clear hW
  have k0 : W.cell? ⟨w.heap.size + 1 + 1, 0, none⟩ = some (.slice none 0 0) := hr.cell 0
  have k1 : W.cell? ⟨w.heap.size + 1 + 1, 1, none⟩ = some (.slice none 0 0) := hr.cell 1
  have k2 : W.cell? ⟨w.heap.size + 1 + 1, 2, none⟩ = some (.slice none 0 0) := hr.cell 2
  have f0 := hr.frozen 0
  have f1 := hr.frozen 1
  have f2 := hr.frozen 2
  refine (wait_none p W (h.below hb3)).mono ?_
  rintro e w1 ⟨rfl, rfl⟩
  go_wp2_with fail
  refine bodyPost_ret (v := .tuple #[.agg #[.slice none 0 0, .slice none 0 0, .slice none 0 0], .int .i64 1]) (results_row_tmp Tryz.results4 _ _ _ _ _ _ rfl (((hr.store 0 _).store 1 _).store 2 _) Tryz.underlying39 rfl repaired_size) rfl ⟨rfl, ?_⟩
  exact ((hb3.setCell (p := ⟨w.heap.size + 1 + 1, 0, none⟩) (by simp; omega) _).setCell (p := ⟨w.heap.size + 1 + 1, 1, none⟩) (by simp; omega) _).setCell (p := ⟨w.heap.size + 1 + 1, 2, none⟩) (by simp; omega) _

theorem samePairs_none (w : World) : Calls Tryz.prog 14 #[.slice none 0 0, .slice none 0 0] w fun e w' => e = .returned (.bool true) ∧ w = w' := by
  go_enter Tryz.func14, Tryz.ntmps14
  go_wp2
  go_rounds 1
  go_ret
  exact ⟨rfl, rfl⟩
theorem sameInts_none (w : World) : Calls Tryz.prog 15 #[.slice none 0 0, .slice none 0 0] w fun e w' => e = .returned (.bool true) ∧ w = w' := by
  go_enter Tryz.func15, Tryz.ntmps15
  go_wp2
  go_rounds 1
  go_ret
  exact ⟨rfl, rfl⟩

set_option maxRecDepth 100000 in
theorem same_none (w : World) : Calls Tryz.prog 5 #[.agg #[.slice none 0 0, .slice none 0 0, .slice none 0 0], .agg #[.slice none 0 0, .slice none 0 0, .slice none 0 0]] w fun e w' => e = .returned (.bool true) ∧ Below w.heap.size w w' := by
  go_enter Tryz.func5, Tryz.ntmps5
  go_wp2_with fail
  refine (samePairs_none _).mono ?_
  rintro e w1 ⟨rfl, rfl⟩
  go_wp2_with fail
  refine (samePairs_none _).mono ?_
  rintro e w1 ⟨rfl, rfl⟩
  go_wp2_with fail
  refine (sameInts_none _).mono ?_
  rintro e w1 ⟨rfl, rfl⟩
  go_wp2_with fail
  go_ret
  exact ⟨rfl, ((Below.refl _ w).alloc (Nat.le_refl _) _).alloc (by simp) _⟩

set_option maxRecDepth 100000 in
set_option maxHeartbeats 1000000 in
theorem law_true (cs ds : Array Value) (hcs : (Tryz.prog.info? 27).map (·.size) = some cs.size) (hds : (Tryz.prog.info? 30).map (·.size) = some ds.size) (w : World) :
    Calls Tryz.prog 3 #[.agg cs, .agg ds] w fun e w' => e = .returned (.bool true) ∧ Below w.heap.size w w' := by
  have rA := ((Row.new w 27 cs).alloc (.cells ds 30)).alloc (.cells #[.bool false, .slice none 0 0, .slice none 0 0, .int .i64 0, .slice none 0 0] 35)
  have rB := (Row.new (w.alloc (.cells cs 27)) 30 ds).alloc (.cells #[.bool false, .slice none 0 0, .slice none 0 0, .int .i64 0, .slice none 0 0] 35)
  have rC := Row.new ((w.alloc (.cells cs 27)).alloc (.cells ds 30)) 35 #[.bool false, .slice none 0 0, .slice none 0 0, .int .i64 0, .slice none 0 0]
  simp only [World.size_alloc] at rB rC
  have hb3 := (((Below.refl w.heap.size w).alloc (Nat.le_refl _) (.cells cs 27)).alloc (by simp) (.cells ds 30)).alloc (by simp; omega) (.cells #[.bool false, .slice none 0 0, .slice none 0 0, .int .i64 0, .slice none 0 0] 35)
  have HA := Lib.hid rA
  have HB := Lib.hid rB
  have HC := Lib.hid rC
  have HH := Lib.hid hb3
  have Hcs := Lib.hid hcs
  have Hds := Lib.hid hds
  clear rA rB rC hb3 hcs hds
  go_enter Tryz.func3, Tryz.ntmps3
  repeat (first | (refine wpList_load_row rfl 27 (.tmp 2) rfl _ rfl 27 cs (0, 0) _ HA.out Tryz.underlying27 rfl Hcs.out ?_) | (refine wpList_load_row rfl 30 (.tmp 3) rfl _ rfl 30 ds (0, 0) _ HB.out Tryz.underlying30 rfl Hds.out ?_) | go_step)
  have hsz : (((w.alloc (.cells cs 27)).alloc (.cells ds 30)).alloc (.cells #[.bool false, .slice none 0 0, .slice none 0 0, .int .i64 0, .slice none 0 0] 35)).heap.size = w.heap.size + 3 := by simp
  generalize hW : ((w.alloc _).alloc _).alloc _ = W at *
  clear hW
  refine (repair_none (.pointer none) cs ds W (.inl rfl)).mono ?_
  rintro e w1 ⟨rfl, hb1⟩
  have r1 := Lib.hid ((HA.out.below hb1 (by omega)).alloc (.cells #[.slice none 0 0, .slice none 0 0, .slice none 0 0] 39))
  have r2 := Lib.hid ((HB.out.below hb1 (by omega)).alloc (.cells #[.slice none 0 0, .slice none 0 0, .slice none 0 0] 39))
  have r3 := Lib.hid ((HC.out.below hb1 (by omega)).alloc (.cells #[.slice none 0 0, .slice none 0 0, .slice none 0 0] 39))
  have r4 := Lib.hid (Row.new w1 39 #[.slice none 0 0, .slice none 0 0, .slice none 0 0])
  have hb4 := Lib.hid ((HH.out.trans (hb1.mono (by omega))).alloc (by have := hb1.size; omega) (.cells #[.slice none 0 0, .slice none 0 0, .slice none 0 0] 39))
  have hs1 := hb1.size
  clear HA HB HC hb1 HH
  dsimp only
  repeat (first | (refine wpList_load_row rfl 27 (.tmp 2) rfl _ rfl 27 cs (0, 0) _ r1.out Tryz.underlying27 rfl Hcs.out ?_) | (refine wpList_load_row rfl 30 (.tmp 3) rfl _ rfl 30 ds (0, 0) _ r2.out Tryz.underlying30 rfl Hds.out ?_) | go_step)
  have hsz2 : (w1.alloc (.cells #[.slice none 0 0, .slice none 0 0, .slice none 0 0] 39)).heap.size = w1.heap.size + 1 := by simp
  generalize hW2 : w1.alloc _ = W2 at *
  clear hW2
  refine (repair_none (.pointer (some ⟨w.heap.size + 1 + 1, 0, none⟩)) cs ds W2 (.inr ⟨_, rfl, r3.out.cell 0⟩)).mono ?_
  rintro e w3 ⟨rfl, hb3⟩
  have hs3 := hb3.size
  have q4 := Lib.hid ((r4.out.below hb3 (by omega)).alloc (.cells #[.slice none 0 0, .slice none 0 0, .slice none 0 0] 39))
  have q5 := Lib.hid (Row.new w3 39 #[.slice none 0 0, .slice none 0 0, .slice none 0 0])
  have hb5 := Lib.hid ((hb4.out.trans (hb3.mono (by omega))).alloc (by omega) (.cells #[.slice none 0 0, .slice none 0 0, .slice none 0 0] 39))
  clear r1 r2 r3 r4 hb3 hb4
  dsimp only
  have k0 : (w3.alloc (.cells #[.slice none 0 0, .slice none 0 0, .slice none 0 0] 39)).cell? ⟨w1.heap.size, 0, none⟩ = some (.slice none 0 0) := q4.out.cell 0
  have k1 : (w3.alloc (.cells #[.slice none 0 0, .slice none 0 0, .slice none 0 0] 39)).cell? ⟨w1.heap.size, 1, none⟩ = some (.slice none 0 0) := q4.out.cell 1
  have k2 : (w3.alloc (.cells #[.slice none 0 0, .slice none 0 0, .slice none 0 0] 39)).cell? ⟨w1.heap.size, 2, none⟩ = some (.slice none 0 0) := q4.out.cell 2
  go_wp2_with fail
  refine (same_none _).mono ?_
  rintro e w6 ⟨rfl, hb6⟩
  have q6 := q5.out.below hb6 (by simp)
  have j0 : w6.cell? ⟨w3.heap.size, 0, none⟩ = some (.slice none 0 0) := q6.cell 0
  have j1 : w6.cell? ⟨w3.heap.size, 1, none⟩ = some (.slice none 0 0) := q6.cell 1
  have j2 : w6.cell? ⟨w3.heap.size, 2, none⟩ = some (.slice none 0 0) := q6.cell 2
  have hs6 := hb6.size
  simp only [World.size_alloc] at hs6
  clear k0 k1 k2
  go_wp2_with fail
  refine (same_none _).mono ?_
  rintro e w7 ⟨rfl, hb7⟩
  clear j0 j1 j2
  go_wp2_with fail
  go_ret
  exact ⟨rfl, (hb5.out.trans (hb6.mono (by simp; omega))).trans (hb7.mono (by omega))⟩
end Go.Proofs.YtlgpeemdnabecaaGreatDoor
