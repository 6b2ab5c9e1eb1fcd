/- WALKS: backup's functions on a net that is nil, or that nobody made; conditions: none. -/
import Derived.Test.YtbbfdnknbghffaaGreatDoorProg
import Derived.Test.YtbbfdnknbghffaaGreatDoorBase
import Derived.KernelRfl
namespace Go.Proofs.YtbbfdnknbghffaaGreatDoor
open Go.RowKit

/-- a net that is none: nil, or never made -/
def NoNet (w : World) (v : Value) : Prop := v = .pointer none ∨ ∃ b, v = .pointer (some ⟨b, 0, none⟩) ∧ w.cell? ⟨b, 0, none⟩ = some (.bool false)
theorem NoNet.below {w w' : World} {v : Value} (h : NoNet w v) (hb : Below w.heap.size w w') : NoNet w' v := by
  rcases h with rfl | ⟨b, rfl, hc⟩
  · exact .inl rfl
  · exact .inr ⟨b, rfl, (hb.cell (p := ⟨b, 0, none⟩) (block_lt_of_cell hc)).trans hc⟩

theorem there_none (v : Value) (w : World) (h : NoNet w v) : Calls Tryz.prog 57 #[v] w fun e w' => e = .returned (.bool false) ∧ w = w' := by
  rcases h with rfl | ⟨b, rfl, hc⟩
  · go_enter Tryz.func57, Tryz.ntmps57
    go_wp2
    go_ret
    exact ⟨rfl, rfl⟩
  · go_enter Tryz.func57, Tryz.ntmps57
    go_wp2
    go_ret
    exact ⟨rfl, rfl⟩
theorem wait_none (v : Value) (w : World) (h : NoNet w v) : Calls Tryz.prog 28 #[v, .int .i64 0] w fun e w' => e = .returned (.int .i64 1) ∧ w = w' := by
  go_enter Tryz.func28, Tryz.ntmps28
  go_wp2_with fail
  refine (there_none v w h).mono ?_
  rintro e w1 ⟨rfl, rfl⟩
  go_wp2_with fail
  go_ret
  exact ⟨rfl, rfl⟩
theorem isNet_none (v : Value) (w : World) (h : NoNet w v) : Calls Tryz.prog 8 #[v] w fun e w' => e = .returned (.bool false) ∧ w = w' := by
  go_enter Tryz.func8, Tryz.ntmps8
  go_wp2_with fail
  refine (wait_none v w h).mono ?_
  rintro e w1 ⟨rfl, rfl⟩
  go_wp2_with fail
  go_ret
  exact ⟨rfl, rfl⟩

/-- a capability that is none -/
def zcap : Array Value := #[.int .u8 0, .bool false, .int .u8 0, .int .u8 0, .int .u8 0, .int .u8 0, .int .u8 0, .int .u8 0, .int .u8 0, .int .u8 0, .int .u8 0, .int .u8 0, .int .u8 0, .int .u8 0, .int .u8 0, .int .u8 0, .int .u8 0, .int .u8 0, .int .u8 0, .int .u8 0, .int .u8 0, .int .u8 0, .int .u8 0, .int .u8 0, .int .u8 0, .int .u8 0, .int .u8 0, .int .u8 0, .int .u8 0, .int .u8 0, .int .u8 0, .int .u8 0, .int .u8 0, .int .u8 0, .int .u8 0, .int .u8 0, .int .u8 0, .int .u8 0, .int .u8 0, .int .u8 0, .int .u8 0, .int .u8 0, .int .u8 0, .int .u8 0, .int .u8 0, .int .u8 0, .int .u8 0, .int .u8 0, .int .u8 0, .int .u8 0, .int .i64 0, .int .i64 0, .int .i64 0, .int .i64 0, .int .u8 0, .int .u8 0, .int .u8 0, .int .u8 0, .int .u8 0, .int .u8 0, .int .u8 0, .int .u8 0, .int .u8 0, .int .u8 0, .int .u8 0, .int .u8 0, .int .u8 0, .int .u8 0, .int .u8 0, .int .u8 0, .int .u8 0, .int .u8 0, .int .u8 0, .int .u8 0, .int .u8 0, .int .u8 0, .int .u8 0, .int .u8 0, .int .u8 0, .int .u8 0, .int .u8 0, .int .u8 0, .int .u8 0, .int .u8 0, .int .u8 0, .int .u8 0, .int .u8 0, .int .u8 0, .int .u8 0, .int .u8 0, .int .u8 0, .int .u8 0, .int .u8 0, .int .u8 0, .int .u8 0, .int .u8 0, .int .u8 0, .int .u8 0, .int .u8 0, .int .u8 0, .int .u8 0, .int .u8 0, .int .i64 0, .int .i64 0, .int .i64 0, .int .i64 0, .slice none 0 0]
theorem zcap_size : (Tryz.prog.info? 80).map (·.size) = some zcap.size := by kernel_rfl
theorem zcap_one : zcap.all (·.oneCell') = true := by kernel_rfl

set_option maxRecDepth 100000 in
set_option maxHeartbeats 1000000 in
theorem rooted_none (p : Value) (s : ByteArray) (w : World) (h : NoNet w p) :
    Calls Tryz.prog 20 #[p, .string s] w fun e w' => e = .returned (.tuple #[.agg zcap, .int .i64 1]) ∧ Below w.heap.size w w' := by
  have hr := Row.new w 80 zcap
  have hb := (Below.refl w.heap.size w).alloc (Nat.le_refl _) (.cells zcap 80)
  have HR := Lib.hid hr
  have HB := Lib.hid hb
  clear hr hb
  go_enter Tryz.func20, Tryz.ntmps20
  go_wp2_with fail
  generalize hW : w.alloc _ = W
  have hW' : w.alloc (.cells zcap 80) = W := hW
  have hR := hW' ▸ HR.out
  have hB := hW' ▸ HB.out
  clear hW hW' HR HB
  refine (isNet_none p W ((show NoNet W p from by first | exact h.below hB))).mono ?_
  rintro e w1 ⟨rfl, rfl⟩
  have HR := Lib.hid hR
  have HB := Lib.hid hB
  clear hR hB
  go_wp2_with (refine wpList_store_row rfl 80 (.tmp 4) (.tmp 12) rfl w.heap.size zcap rfl rfl 80 zcap HR.out zcap_size (Eq.refl zcap.size) zcap_one ?_)
  exact bodyPost_ret (results_row_tmp Tryz.results20 _ _ _ _ _ _ rfl (HR.out.setRow zcap) Tryz.underlying80 rfl zcap_size) rfl ⟨rfl, below_setRow HB.out (Nat.le_refl _) _⟩
end Go.Proofs.YtbbfdnknbghffaaGreatDoor
