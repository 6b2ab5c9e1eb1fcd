/-
  CutB: WALK: cut.Again: whether four numbers make a shape; conditions: none.
-/
import Derived.Test.YtfahbdakhbpfcaaGreatM34
namespace Go.Proofs.YtfahbdakhbpfcaaGreat
open Go.RowKit

def shapeV (v : Value) : Prop := ∃ a b c d e f g h : Int, v = .agg #[.int .i64 a, .int .i64 b, .int .i64 c, .int .i64 d, .int .i64 e, .int .i64 f, .int .i64 g, .int .i64 h]
theorem i64_wf {x : Int} (h : (Lit.int .i64 x).wf = true) : -9223372036854775808 ≤ x ∧ x ≤ 9223372036854775807 := by
  have h2 : (decide (IntKind.i64.min ≤ x) && decide (x ≤ IntKind.i64.max)) = true := h
  rw [Bool.and_eq_true] at h2
  exact ⟨of_decide_eq_true h2.1, of_decide_eq_true h2.2⟩

theorem quiet_up (a b : Int) (h0 : 0 ≤ a) (h1 : a ≤ 100000000) (h2 : 1 ≤ b) (h3 : b ≤ 100000000) (w : World) (m : Nat) : Calls Tryz.prog 30 #[.int .i64 a, .int .i64 b] (w.drewN m) fun e w' => e = .returned (.int .i64 (upI a b)) ∧ ∃ q, w' = w.drewN q :=
  (up_at a b h0 h1 h2 h3 _).mono fun _ _ ⟨h, h'⟩ => ⟨h, m, h'.symm⟩

set_option maxRecDepth 100000 in
set_option maxHeartbeats 1000000 in
theorem again_no1 (k n seg size : Int) (w : World) (h : n < 1) :
    Calls Tryz.prog 24 #[.int .i64 k, .int .i64 n, .int .i64 seg, .int .i64 size] w fun e w' =>
      (∃ v, shapeV v ∧ e = .returned (.tuple #[v, .int .i64 92])) ∧ Below w.heap.size w w' := by
  go_enter Tryz.func24, Tryz.ntmps24
  go_wp2_with fail
  go_quiet (fail)
  have R : Row ((w.alloc (.cells zSh 55)).drewN nq) w.heap.size 55 zSh := (Row.new w 55 zSh).drewN nq
  have B : Below w.heap.size w ((w.alloc (.cells zSh 55)).drewN nq) := below_drewN ((Below.refl _ _).alloc (Nat.le_refl _) _) nq
  go_wp2_with (refine wpList_store_row rfl 55 (.tmp 8) (.tmp 52) rfl w.heap.size zSh rfl rfl 55 zSh R shape_info rfl (one8 _ _ _ _ _ _ _ _) ?_)
  exact bodyPost_ret (results_row_tmp Tryz.results24 _ _ w.heap.size 55 zSh _ rfl (R.setRow zSh) Tryz.underlying55 rfl shape_info) rfl ⟨⟨_, ⟨_, _, _, _, _, _, _, _, rfl⟩, rfl⟩, below_setRow B (Nat.le_refl _) zSh⟩

set_option maxRecDepth 100000 in
set_option maxHeartbeats 1000000 in
theorem again_no2 (k n seg size : Int) (w : World) (h1 : 1 ≤ n) (h : 255 < n) :
    Calls Tryz.prog 24 #[.int .i64 k, .int .i64 n, .int .i64 seg, .int .i64 size] w fun e w' =>
      (∃ v, shapeV v ∧ e = .returned (.tuple #[v, .int .i64 92])) ∧ Below w.heap.size w w' := by
  go_enter Tryz.func24, Tryz.ntmps24
  go_wp2_with fail
  go_quiet (fail)
  have R : Row ((w.alloc (.cells zSh 55)).drewN nq) w.heap.size 55 zSh := (Row.new w 55 zSh).drewN nq
  have B : Below w.heap.size w ((w.alloc (.cells zSh 55)).drewN nq) := below_drewN ((Below.refl _ _).alloc (Nat.le_refl _) _) nq
  go_wp2_with (refine wpList_store_row rfl 55 (.tmp 8) (.tmp 52) rfl w.heap.size zSh rfl rfl 55 zSh R shape_info rfl (one8 _ _ _ _ _ _ _ _) ?_)
  exact bodyPost_ret (results_row_tmp Tryz.results24 _ _ w.heap.size 55 zSh _ rfl (R.setRow zSh) Tryz.underlying55 rfl shape_info) rfl ⟨⟨_, ⟨_, _, _, _, _, _, _, _, rfl⟩, rfl⟩, below_setRow B (Nat.le_refl _) zSh⟩

set_option maxRecDepth 100000 in
set_option maxHeartbeats 1000000 in
theorem again_no3 (k n seg size : Int) (w : World) (h1 : 1 ≤ n) (h2 : n ≤ 255) (h : k < 1) :
    Calls Tryz.prog 24 #[.int .i64 k, .int .i64 n, .int .i64 seg, .int .i64 size] w fun e w' =>
      (∃ v, shapeV v ∧ e = .returned (.tuple #[v, .int .i64 92])) ∧ Below w.heap.size w w' := by
  go_enter Tryz.func24, Tryz.ntmps24
  go_wp2_with fail
  go_quiet (fail)
  have R : Row ((w.alloc (.cells zSh 55)).drewN nq) w.heap.size 55 zSh := (Row.new w 55 zSh).drewN nq
  have B : Below w.heap.size w ((w.alloc (.cells zSh 55)).drewN nq) := below_drewN ((Below.refl _ _).alloc (Nat.le_refl _) _) nq
  go_wp2_with (refine wpList_store_row rfl 55 (.tmp 8) (.tmp 52) rfl w.heap.size zSh rfl rfl 55 zSh R shape_info rfl (one8 _ _ _ _ _ _ _ _) ?_)
  exact bodyPost_ret (results_row_tmp Tryz.results24 _ _ w.heap.size 55 zSh _ rfl (R.setRow zSh) Tryz.underlying55 rfl shape_info) rfl ⟨⟨_, ⟨_, _, _, _, _, _, _, _, rfl⟩, rfl⟩, below_setRow B (Nat.le_refl _) zSh⟩

set_option maxRecDepth 100000 in
set_option maxHeartbeats 1000000 in
theorem again_no4 (k n seg size : Int) (w : World) (h1 : 1 ≤ n) (h2 : n ≤ 255) (h3 : 1 ≤ k) (h : n < k) :
    Calls Tryz.prog 24 #[.int .i64 k, .int .i64 n, .int .i64 seg, .int .i64 size] w fun e w' =>
      (∃ v, shapeV v ∧ e = .returned (.tuple #[v, .int .i64 92])) ∧ Below w.heap.size w w' := by
  go_enter Tryz.func24, Tryz.ntmps24
  go_wp2_with fail
  go_quiet (fail)
  have R : Row ((w.alloc (.cells zSh 55)).drewN nq) w.heap.size 55 zSh := (Row.new w 55 zSh).drewN nq
  have B : Below w.heap.size w ((w.alloc (.cells zSh 55)).drewN nq) := below_drewN ((Below.refl _ _).alloc (Nat.le_refl _) _) nq
  go_wp2_with (refine wpList_store_row rfl 55 (.tmp 8) (.tmp 52) rfl w.heap.size zSh rfl rfl 55 zSh R shape_info rfl (one8 _ _ _ _ _ _ _ _) ?_)
  exact bodyPost_ret (results_row_tmp Tryz.results24 _ _ w.heap.size 55 zSh _ rfl (R.setRow zSh) Tryz.underlying55 rfl shape_info) rfl ⟨⟨_, ⟨_, _, _, _, _, _, _, _, rfl⟩, rfl⟩, below_setRow B (Nat.le_refl _) zSh⟩

set_option maxRecDepth 100000 in
set_option maxHeartbeats 1000000 in
theorem again_no5 (k n seg size : Int) (w : World) (h1 : 1 ≤ n) (h2 : n ≤ 255) (h3 : 1 ≤ k) (h4 : k ≤ n) (h : seg < 1) :
    Calls Tryz.prog 24 #[.int .i64 k, .int .i64 n, .int .i64 seg, .int .i64 size] w fun e w' =>
      (∃ v, shapeV v ∧ e = .returned (.tuple #[v, .int .i64 92])) ∧ Below w.heap.size w w' := by
  go_enter Tryz.func24, Tryz.ntmps24
  go_wp2_with fail
  go_quiet (fail)
  have R : Row ((w.alloc (.cells zSh 55)).drewN nq) w.heap.size 55 zSh := (Row.new w 55 zSh).drewN nq
  have B : Below w.heap.size w ((w.alloc (.cells zSh 55)).drewN nq) := below_drewN ((Below.refl _ _).alloc (Nat.le_refl _) _) nq
  go_wp2_with (refine wpList_store_row rfl 55 (.tmp 8) (.tmp 52) rfl w.heap.size zSh rfl rfl 55 zSh R shape_info rfl (one8 _ _ _ _ _ _ _ _) ?_)
  exact bodyPost_ret (results_row_tmp Tryz.results24 _ _ w.heap.size 55 zSh _ rfl (R.setRow zSh) Tryz.underlying55 rfl shape_info) rfl ⟨⟨_, ⟨_, _, _, _, _, _, _, _, rfl⟩, rfl⟩, below_setRow B (Nat.le_refl _) zSh⟩

set_option maxRecDepth 100000 in
set_option maxHeartbeats 1000000 in
theorem again_no6 (k n seg size : Int) (w : World) (h1 : 1 ≤ n) (h2 : n ≤ 255) (h3 : 1 ≤ k) (h4 : k ≤ n) (h5 : 1 ≤ seg) (h : (seg % k != 0) = true) (hs : seg ≤ 9223372036854775807) :
    Calls Tryz.prog 24 #[.int .i64 k, .int .i64 n, .int .i64 seg, .int .i64 size] w fun e w' =>
      (∃ v, shapeV v ∧ e = .returned (.tuple #[v, .int .i64 92])) ∧ Below w.heap.size w w' := by
  have hk0 : ¬ k = 0 := by omega
  have hm : seg.tmod k = seg % k := Int.tmod_eq_emod_of_nonneg (by omega)
  have hq1 : seg.tdiv k = seg / k := Int.tdiv_eq_ediv_of_nonneg (by omega)
  have hq2 : 0 ≤ seg / k := Int.ediv_nonneg (by omega) (by omega)
  have hq3 : seg / k ≤ seg := Int.ediv_le_self _ (by omega)
  have hq : IntKind.i64.wrap (seg / k) = seg / k := IntWalk.i64_in _ ⟨by omega, by omega⟩
  go_enter Tryz.func24, Tryz.ntmps24
  go_wp2_with fail
  go_quiet (fail)
  have R : Row ((w.alloc (.cells zSh 55)).drewN nq) w.heap.size 55 zSh := (Row.new w 55 zSh).drewN nq
  have B : Below w.heap.size w ((w.alloc (.cells zSh 55)).drewN nq) := below_drewN ((Below.refl _ _).alloc (Nat.le_refl _) _) nq
  go_wp2_with (refine wpList_store_row rfl 55 (.tmp 8) (.tmp 52) rfl w.heap.size zSh rfl rfl 55 zSh R shape_info rfl (one8 _ _ _ _ _ _ _ _) ?_)
  exact bodyPost_ret (results_row_tmp Tryz.results24 _ _ w.heap.size 55 zSh _ rfl (R.setRow zSh) Tryz.underlying55 rfl shape_info) rfl ⟨⟨_, ⟨_, _, _, _, _, _, _, _, rfl⟩, rfl⟩, below_setRow B (Nat.le_refl _) zSh⟩

set_option maxRecDepth 100000 in
set_option maxHeartbeats 1000000 in
theorem again_no7 (k n seg size : Int) (w : World) (h1 : 1 ≤ n) (h2 : n ≤ 255) (h3 : 1 ≤ k) (h4 : k ≤ n) (h5 : 1 ≤ seg) (h6 : seg % k = 0) (h : upI 65536 k < seg / k) (hs : seg ≤ 9223372036854775807) :
    Calls Tryz.prog 24 #[.int .i64 k, .int .i64 n, .int .i64 seg, .int .i64 size] w fun e w' =>
      (∃ v, shapeV v ∧ e = .returned (.tuple #[v, .int .i64 92])) ∧ Below w.heap.size w w' := by
  have hk0 : ¬ k = 0 := by omega
  have hm : seg.tmod k = seg % k := Int.tmod_eq_emod_of_nonneg (by omega)
  have hq1 : seg.tdiv k = seg / k := Int.tdiv_eq_ediv_of_nonneg (by omega)
  have hq2 : 0 ≤ seg / k := Int.ediv_nonneg (by omega) (by omega)
  have hq3 : seg / k ≤ seg := Int.ediv_le_self _ (by omega)
  have hq : IntKind.i64.wrap (seg / k) = seg / k := IntWalk.i64_in _ ⟨by omega, by omega⟩
  go_enter Tryz.func24, Tryz.ntmps24
  go_wp2_with fail
  go_quiet (((go_at_call 30; exact quiet_up 65536 k (by omega) (by omega) (by omega) (by omega) _ _)))
  have R : Row ((w.alloc (.cells zSh 55)).drewN nq) w.heap.size 55 zSh := (Row.new w 55 zSh).drewN nq
  have B : Below w.heap.size w ((w.alloc (.cells zSh 55)).drewN nq) := below_drewN ((Below.refl _ _).alloc (Nat.le_refl _) _) nq
  go_wp2_with (refine wpList_store_row rfl 55 (.tmp 8) (.tmp 52) rfl w.heap.size zSh rfl rfl 55 zSh R shape_info rfl (one8 _ _ _ _ _ _ _ _) ?_)
  exact bodyPost_ret (results_row_tmp Tryz.results24 _ _ w.heap.size 55 zSh _ rfl (R.setRow zSh) Tryz.underlying55 rfl shape_info) rfl ⟨⟨_, ⟨_, _, _, _, _, _, _, _, rfl⟩, rfl⟩, below_setRow B (Nat.le_refl _) zSh⟩

set_option maxRecDepth 100000 in
set_option maxHeartbeats 1000000 in
theorem again_no8 (k n seg size : Int) (w : World) (h1 : 1 ≤ n) (h2 : n ≤ 255) (h3 : 1 ≤ k) (h4 : k ≤ n) (h5 : 1 ≤ seg) (h6 : seg % k = 0) (h7 : seg / k ≤ upI 65536 k) (h : size ≤ 32) (hs : seg ≤ 9223372036854775807) :
    Calls Tryz.prog 24 #[.int .i64 k, .int .i64 n, .int .i64 seg, .int .i64 size] w fun e w' =>
      (∃ v, shapeV v ∧ e = .returned (.tuple #[v, .int .i64 92])) ∧ Below w.heap.size w w' := by
  have hk0 : ¬ k = 0 := by omega
  have hm : seg.tmod k = seg % k := Int.tmod_eq_emod_of_nonneg (by omega)
  have hq1 : seg.tdiv k = seg / k := Int.tdiv_eq_ediv_of_nonneg (by omega)
  have hq2 : 0 ≤ seg / k := Int.ediv_nonneg (by omega) (by omega)
  have hq3 : seg / k ≤ seg := Int.ediv_le_self _ (by omega)
  have hq : IntKind.i64.wrap (seg / k) = seg / k := IntWalk.i64_in _ ⟨by omega, by omega⟩
  go_enter Tryz.func24, Tryz.ntmps24
  go_wp2_with fail
  go_quiet (((go_at_call 30; exact quiet_up 65536 k (by omega) (by omega) (by omega) (by omega) _ _)))
  have R : Row ((w.alloc (.cells zSh 55)).drewN nq) w.heap.size 55 zSh := (Row.new w 55 zSh).drewN nq
  have B : Below w.heap.size w ((w.alloc (.cells zSh 55)).drewN nq) := below_drewN ((Below.refl _ _).alloc (Nat.le_refl _) _) nq
  go_wp2_with (refine wpList_store_row rfl 55 (.tmp 8) (.tmp 52) rfl w.heap.size zSh rfl rfl 55 zSh R shape_info rfl (one8 _ _ _ _ _ _ _ _) ?_)
  exact bodyPost_ret (results_row_tmp Tryz.results24 _ _ w.heap.size 55 zSh _ rfl (R.setRow zSh) Tryz.underlying55 rfl shape_info) rfl ⟨⟨_, ⟨_, _, _, _, _, _, _, _, rfl⟩, rfl⟩, below_setRow B (Nat.le_refl _) zSh⟩

set_option maxRecDepth 100000 in
set_option maxHeartbeats 1000000 in
theorem again_no9 (k n seg size : Int) (w : World) (h1 : 1 ≤ n) (h2 : n ≤ 255) (h3 : 1 ≤ k) (h4 : k ≤ n) (h5 : 1 ≤ seg) (h6 : seg % k = 0) (h7 : seg / k ≤ upI 65536 k) (h8 : 32 < size) (h : 16777216 < size) (hs : seg ≤ 9223372036854775807) :
    Calls Tryz.prog 24 #[.int .i64 k, .int .i64 n, .int .i64 seg, .int .i64 size] w fun e w' =>
      (∃ v, shapeV v ∧ e = .returned (.tuple #[v, .int .i64 92])) ∧ Below w.heap.size w w' := by
  have hk0 : ¬ k = 0 := by omega
  have hm : seg.tmod k = seg % k := Int.tmod_eq_emod_of_nonneg (by omega)
  have hq1 : seg.tdiv k = seg / k := Int.tdiv_eq_ediv_of_nonneg (by omega)
  have hq2 : 0 ≤ seg / k := Int.ediv_nonneg (by omega) (by omega)
  have hq3 : seg / k ≤ seg := Int.ediv_le_self _ (by omega)
  have hq : IntKind.i64.wrap (seg / k) = seg / k := IntWalk.i64_in _ ⟨by omega, by omega⟩
  go_enter Tryz.func24, Tryz.ntmps24
  go_wp2_with fail
  go_quiet (((go_at_call 30; exact quiet_up 65536 k (by omega) (by omega) (by omega) (by omega) _ _)))
  have R : Row ((w.alloc (.cells zSh 55)).drewN nq) w.heap.size 55 zSh := (Row.new w 55 zSh).drewN nq
  have B : Below w.heap.size w ((w.alloc (.cells zSh 55)).drewN nq) := below_drewN ((Below.refl _ _).alloc (Nat.le_refl _) _) nq
  go_wp2_with (refine wpList_store_row rfl 55 (.tmp 8) (.tmp 52) rfl w.heap.size zSh rfl rfl 55 zSh R shape_info rfl (one8 _ _ _ _ _ _ _ _) ?_)
  exact bodyPost_ret (results_row_tmp Tryz.results24 _ _ w.heap.size 55 zSh _ rfl (R.setRow zSh) Tryz.underlying55 rfl shape_info) rfl ⟨⟨_, ⟨_, _, _, _, _, _, _, _, rfl⟩, rfl⟩, below_setRow B (Nat.le_refl _) zSh⟩

set_option maxRecDepth 100000 in
set_option maxHeartbeats 1000000 in
theorem again_no10 (k n seg size : Int) (w : World) (h1 : 1 ≤ n) (h2 : n ≤ 255) (h3 : 1 ≤ k) (h4 : k ≤ n) (h5 : 1 ≤ seg) (h6 : seg % k = 0) (h7 : seg / k ≤ upI 65536 k) (h8 : 32 < size) (h9 : size ≤ 16777216) (hs : seg ≤ 100000) (h : 512 < upI size seg) :
    Calls Tryz.prog 24 #[.int .i64 k, .int .i64 n, .int .i64 seg, .int .i64 size] w fun e w' =>
      (∃ v, shapeV v ∧ e = .returned (.tuple #[v, .int .i64 92])) ∧ Below w.heap.size w w' := by
  have hk0 : ¬ k = 0 := by omega
  have hm : seg.tmod k = seg % k := Int.tmod_eq_emod_of_nonneg (by omega)
  have hq1 : seg.tdiv k = seg / k := Int.tdiv_eq_ediv_of_nonneg (by omega)
  have hq2 : 0 ≤ seg / k := Int.ediv_nonneg (by omega) (by omega)
  have hq3 : seg / k ≤ seg := Int.ediv_le_self _ (by omega)
  have hq : IntKind.i64.wrap (seg / k) = seg / k := IntWalk.i64_in _ ⟨by omega, by omega⟩
  go_enter Tryz.func24, Tryz.ntmps24
  go_wp2_with fail
  go_quiet (((go_at_call 30; exact quiet_up 65536 k (by omega) (by omega) (by omega) (by omega) _ _)))
  have R : Row ((w.alloc (.cells zSh 55)).drewN nq) w.heap.size 55 zSh := (Row.new w 55 zSh).drewN nq
  have B : Below w.heap.size w ((w.alloc (.cells zSh 55)).drewN nq) := below_drewN ((Below.refl _ _).alloc (Nat.le_refl _) _) nq
  clear hk0 hm hq1 hq2 hq3 hq
  go_wp2_with fail
  refine (shape_at k n seg size (by omega) (by omega) h5 hs h8 h9 _).mono ?_
  rintro e w2 ⟨⟨t, b, l, rfl⟩, hb⟩
  have R2 := R.below hb R.lt
  have B2 := B.trans (hb.mono (by simp))
  clear R B hb
  have R3 := R2.alloc (.cells #[.int .i64 k, .int .i64 n, .int .i64 seg, .int .i64 size, .int .i64 (upI size seg), .int .i64 t, .int .i64 b, .int .i64 l] 55)
  have S3 := Row.new w2 55 #[.int .i64 k, .int .i64 n, .int .i64 seg, .int .i64 size, .int .i64 (upI size seg), .int .i64 t, .int .i64 b, .int .i64 l]
  have B3 := B2.alloc B2.size (.cells #[.int .i64 k, .int .i64 n, .int .i64 seg, .int .i64 size, .int .i64 (upI size seg), .int .i64 t, .int .i64 b, .int .i64 l] 55)
  clear R2 B2
  go_wp2_with (refine wpList_store_row rfl 55 (.tmp 8) (.tmp 61) rfl w.heap.size zSh rfl rfl 55 zSh R3 shape_info rfl (one8 _ _ _ _ _ _ _ _) ?_)
  exact bodyPost_ret (results_row_tmp Tryz.results24 _ _ w.heap.size 55 zSh _ rfl (R3.setRow zSh) Tryz.underlying55 rfl shape_info) rfl ⟨⟨_, ⟨_, _, _, _, _, _, _, _, rfl⟩, rfl⟩, below_setRow B3 (Nat.le_refl _) zSh⟩

set_option maxRecDepth 100000 in
set_option maxHeartbeats 1000000 in
theorem again_yes (k n seg size : Int) (w : World) (h1 : 1 ≤ n) (h2 : n ≤ 255) (h3 : 1 ≤ k) (h4 : k ≤ n) (h5 : 1 ≤ seg) (h6 : seg % k = 0) (h7 : seg / k ≤ upI 65536 k) (h8 : 32 < size) (h9 : size ≤ 16777216) (hs : seg ≤ 100000) (h : upI size seg ≤ 512) :
    Calls Tryz.prog 24 #[.int .i64 k, .int .i64 n, .int .i64 seg, .int .i64 size] w fun e w' =>
      (∃ v, shapeV v ∧ e = .returned (.tuple #[v, .int .i64 0])) ∧ Below w.heap.size w w' := by
  have hk0 : ¬ k = 0 := by omega
  have hm : seg.tmod k = seg % k := Int.tmod_eq_emod_of_nonneg (by omega)
  have hq1 : seg.tdiv k = seg / k := Int.tdiv_eq_ediv_of_nonneg (by omega)
  have hq2 : 0 ≤ seg / k := Int.ediv_nonneg (by omega) (by omega)
  have hq3 : seg / k ≤ seg := Int.ediv_le_self _ (by omega)
  have hq : IntKind.i64.wrap (seg / k) = seg / k := IntWalk.i64_in _ ⟨by omega, by omega⟩
  go_enter Tryz.func24, Tryz.ntmps24
  go_wp2_with fail
  go_quiet (((go_at_call 30; exact quiet_up 65536 k (by omega) (by omega) (by omega) (by omega) _ _)))
  have R : Row ((w.alloc (.cells zSh 55)).drewN nq) w.heap.size 55 zSh := (Row.new w 55 zSh).drewN nq
  have B : Below w.heap.size w ((w.alloc (.cells zSh 55)).drewN nq) := below_drewN ((Below.refl _ _).alloc (Nat.le_refl _) _) nq
  clear hk0 hm hq1 hq2 hq3 hq
  go_wp2_with fail
  refine (shape_at k n seg size (by omega) (by omega) h5 hs h8 h9 _).mono ?_
  rintro e w2 ⟨⟨t, b, l, rfl⟩, hb⟩
  have R2 := R.below hb R.lt
  have B2 := B.trans (hb.mono (by simp))
  clear R B hb
  have R3 := R2.alloc (.cells #[.int .i64 k, .int .i64 n, .int .i64 seg, .int .i64 size, .int .i64 (upI size seg), .int .i64 t, .int .i64 b, .int .i64 l] 55)
  have S3 := Row.new w2 55 #[.int .i64 k, .int .i64 n, .int .i64 seg, .int .i64 size, .int .i64 (upI size seg), .int .i64 t, .int .i64 b, .int .i64 l]
  have B3 := B2.alloc B2.size (.cells #[.int .i64 k, .int .i64 n, .int .i64 seg, .int .i64 size, .int .i64 (upI size seg), .int .i64 t, .int .i64 b, .int .i64 l] 55)
  clear R2 B2
  go_wp2_with (first | (refine wpList_load_row rfl 55 (.tmp 10) rfl w2.heap.size rfl 55 _ (0, 0) _ S3 Tryz.underlying55 rfl shape_info ?_) | (refine wpList_store_row rfl 55 (.tmp 8) (.tmp 62) rfl w.heap.size _ rfl rfl 55 zSh R3 shape_info rfl (one8 _ _ _ _ _ _ _ _) ?_))
  exact bodyPost_ret (results_row_tmp Tryz.results24 _ _ w.heap.size 55 _ _ rfl (R3.setRow _) Tryz.underlying55 rfl shape_info) rfl ⟨⟨_, ⟨_, _, _, _, _, _, _, _, rfl⟩, rfl⟩, below_setRow B3 (Nat.le_refl _) _⟩
end Go.Proofs.YtfahbdakhbpfcaaGreat
