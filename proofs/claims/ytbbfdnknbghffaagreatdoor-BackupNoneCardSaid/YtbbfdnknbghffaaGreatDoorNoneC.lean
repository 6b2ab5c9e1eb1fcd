/- WALKS: backup.Keep, Restore, things, Caps, Renew on a net that is none; conditions: none. -/
import Derived.Test.YtbbfdnknbghffaaGreatDoorNoneB
namespace Go.Proofs.YtbbfdnknbghffaaGreatDoor
open Go.RowKit

/-- what Keep answers -/
def zbak : Array Value := #[.string ByteArray.empty, .slice none 0 0, .int .i64 0, .int .i64 0]
theorem zbak_size : (Tryz.prog.info? 40).map (·.size) = some zbak.size := by kernel_rfl
theorem zbak_one : zbak.all (·.oneCell') = true := by kernel_rfl

set_option maxRecDepth 100000 in
set_option maxHeartbeats 1000000 in
theorem keep_none (p tree known : Value) (cs ds : Array Value) (w : World) (h : NoNet w p) :
    Calls Tryz.prog 4 #[p, tree, .agg cs, .agg ds, known] w fun e w' => e = .returned (.tuple #[.agg zbak, .int .i64 1]) ∧ Below w.heap.size w w' := by
  have hr := Row.new ((w.alloc (.cells cs 25)).alloc (.cells ds 28)) 40 zbak
  simp only [World.size_alloc] at hr
  have hb := (((Below.refl w.heap.size w).alloc (Nat.le_refl _) (.cells cs 25)).alloc (by simp) (.cells ds 28)).alloc (by simp; omega) (.cells zbak 40)
  have HR := Lib.hid hr
  have HB := Lib.hid hb
  clear hr hb
  go_enter Tryz.func4, Tryz.ntmps4
  go_wp2_with fail
  generalize hW : ((w.alloc _).alloc _).alloc _ = W
  have hW' : ((w.alloc (.cells cs 25)).alloc (.cells ds 28)).alloc (.cells zbak 40) = W := hW
  have hR := hW' ▸ HR.out
  have hB := hW' ▸ HB.out
  clear hW hW' HR HB
  refine (isNet_none p W (h.below hB)).mono ?_
  rintro e w1 ⟨rfl, rfl⟩
  have HR := Lib.hid hR
  have HB := Lib.hid hB
  clear hR hB
  go_wp2_with (refine wpList_store_row rfl 40 (.tmp 10) (.tmp 20) rfl (w.heap.size + 1 + 1) zbak rfl rfl 40 zbak HR.out zbak_size (Eq.refl zbak.size) zbak_one ?_)
  exact bodyPost_ret (results_row_tmp Tryz.results4 _ _ _ _ _ _ rfl (HR.out.setRow zbak) Tryz.underlying40 rfl zbak_size) rfl ⟨rfl, below_setRow HB.out (by omega) _⟩

set_option maxRecDepth 100000 in
set_option maxHeartbeats 1000000 in
theorem restore_none (p : Value) (s : ByteArray) (w : World) (h : NoNet w p) :
    Calls Tryz.prog 5 #[p, .string s] w fun e w' => e = .returned (.tuple #[.slice none 0 0, .int .i64 1]) ∧ Below w.heap.size w w' := by
  go_enter Tryz.func5, Tryz.ntmps5
  go_wp2_with fail
  refine (rooted_none p s w h).mono ?_
  rintro e w1 ⟨rfl, hb⟩
  have HR := Lib.hid (Row.new w1 80 zcap)
  have HB := Lib.hid (hb.alloc hb.size (.cells zcap 80))
  have HS := Lib.hid hb.size
  clear hb
  go_wp2_with (refine wpList_store_row rfl 80 (.tmp 6) (.tmp 18) rfl w1.heap.size zcap rfl rfl 80 zcap HR.out zcap_size (Eq.refl zcap.size) zcap_one ?_)
  go_ret2
  exact ⟨rfl, below_setRow HB.out HS.out _⟩

set_option maxRecDepth 100000 in
set_option maxHeartbeats 1000000 in
theorem things_none (p : Value) (s : ByteArray) (w : World) (h : NoNet w p) :
    Calls Tryz.prog 24 #[p, .string s] w fun e w' => e = .returned (.tuple #[.slice none 0 0, .int .i64 1]) ∧ Below w.heap.size w w' := by
  go_enter Tryz.func24, Tryz.ntmps24
  go_wp2_with fail
  refine (rooted_none p s w h).mono ?_
  rintro e w1 ⟨rfl, hb⟩
  have HR := Lib.hid (Row.new w1 80 zcap)
  have HB := Lib.hid (hb.alloc hb.size (.cells zcap 80))
  have HS := Lib.hid hb.size
  clear hb
  go_wp2_with (refine wpList_store_row rfl 80 (.tmp 6) (.tmp 16) rfl w1.heap.size zcap rfl rfl 80 zcap HR.out zcap_size (Eq.refl zcap.size) zcap_one ?_)
  go_ret2
  exact ⟨rfl, below_setRow HB.out HS.out _⟩

set_option maxRecDepth 100000 in
theorem caps_none (p : Value) (s : ByteArray) (w : World) (h : NoNet w p) :
    Calls Tryz.prog 6 #[p, .string s] w fun e w' => e = .returned (.tuple #[.slice none 0 0, .int .i64 1]) ∧ Below w.heap.size w w' := by
  go_enter Tryz.func6, Tryz.ntmps6
  go_wp2_with fail
  refine (things_none p s w h).mono ?_
  rintro e w1 ⟨rfl, hb⟩
  go_wp2_with fail
  go_ret2
  exact ⟨rfl, hb⟩

set_option maxRecDepth 100000 in
set_option maxHeartbeats 1000000 in
theorem renew_none (p : Value) (s : ByteArray) (ds : Array Value) (w : World) (h : NoNet w p) :
    Calls Tryz.prog 7 #[p, .string s, .agg ds] w fun e w' => e = .returned (.tuple #[.slice none 0 0, .int .i64 1]) ∧ Below w.heap.size w w' := by
  have hb0 := (Below.refl w.heap.size w).alloc (Nat.le_refl _) (.cells ds 28)
  go_enter Tryz.func7, Tryz.ntmps7
  go_wp2_with fail
  refine (rooted_none p s _ (h.below hb0)).mono ?_
  rintro e w1 ⟨rfl, hb1⟩
  have hb := hb0.trans (hb1.mono hb0.size)
  have HR := Lib.hid (Row.new w1 80 zcap)
  have HB := Lib.hid (hb.alloc hb.size (.cells zcap 80))
  have HS := Lib.hid hb.size
  clear hb hb0 hb1
  go_wp2_with (refine wpList_store_row rfl 80 (.tmp 8) (.tmp 24) rfl w1.heap.size zcap rfl rfl 80 zcap HR.out zcap_size (Eq.refl zcap.size) zcap_one ?_)
  go_ret2
  exact ⟨rfl, below_setRow HB.out HS.out _⟩
end Go.Proofs.YtbbfdnknbghffaaGreatDoor
