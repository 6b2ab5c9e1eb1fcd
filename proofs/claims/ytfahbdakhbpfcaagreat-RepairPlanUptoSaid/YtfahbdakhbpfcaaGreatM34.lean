/-
  Cut: WALKS: cut.up, cut.shape, cut.Again: which four numbers make a shape; conditions: none.
-/
import Derived.Test.YtfahbdakhbpfcaaGreatM26
import Derived.StillTailTactics
namespace Go.Proofs.YtfahbdakhbpfcaaGreat
open Go.RowKit

def upI (a b : Int) : Int := (a + b - 1) / b
theorem upI_le (a b m : Int) (h1 : 1 ≤ b) : upI a b ≤ m ↔ a ≤ m * b := by
  unfold upI
  constructor
  · intro h
    have h2 : (a + b - 1) / b < m + 1 := by omega
    have := (Int.ediv_lt_iff_lt_mul (by omega)).1 h2
    rw [Int.add_mul] at this
    omega
  · intro h
    have h2 : (a + b - 1) / b < m + 1 := (Int.ediv_lt_iff_lt_mul (by omega)).2 (by rw [Int.add_mul]; omega)
    omega
theorem upI_ge (a b m : Int) (h1 : 1 ≤ b) : m ≤ upI a b ↔ m * b ≤ a + b - 1 := by
  unfold upI
  exact Int.le_ediv_iff_mul_le (by omega)
theorem upI_bd (a b : Int) (h0 : 0 ≤ a) (h1 : 1 ≤ b) : 0 ≤ upI a b ∧ upI a b ≤ a := by
  constructor
  · rw [upI_ge a b 0 h1]; omega
  · rw [upI_le a b a h1]
    calc a = a * 1 := by omega
      _ ≤ a * b := Int.mul_le_mul_of_nonneg_left h1 h0

/-- the four numbers make a shape -/
def okC (k n seg size : Int) : Prop := 1 ≤ n ∧ n ≤ 255 ∧ 1 ≤ k ∧ k ≤ n ∧ 1 ≤ seg ∧ seg % k = 0 ∧ seg / k ≤ upI 65536 k ∧ 32 < size ∧ size ≤ 16777216 ∧ upI size seg ≤ 512

theorem up_at (a b : Int) (h0 : 0 ≤ a) (h1 : a ≤ 100000000) (h2 : 1 ≤ b) (h3 : b ≤ 100000000) (w : World) : Calls Tryz.prog 30 #[.int .i64 a, .int .i64 b] w fun e w' => e = .returned (.int .i64 (upI a b)) ∧ w = w' := by
  go_enter Tryz.func30, Tryz.ntmps30
  go_wp2_with fail
  go_ret
  exact ⟨rfl, rfl⟩
theorem up_still (a b : Int) (h0 : 0 ≤ a) (h1 : a ≤ 100000000) (h2 : 1 ≤ b) (h3 : b ≤ 100000000) (w : World) : Calls Tryz.prog 30 #[.int .i64 a, .int .i64 b] w fun e w' => e = .returned (.int .i64 (upI a b)) ∧ w' = w :=
  (up_at a b h0 h1 h2 h3 w).mono fun _ _ ⟨h, h'⟩ => ⟨h, h'.symm⟩

/-- a pointer to a new block that holds these cells -/
def Wd.rowAt (B : Nat) (t : TypeId) (cs : Array Value) : Wd := ⟨fun w v => ∃ b, v = .pointer (some ⟨b, 0, none⟩) ∧ B ≤ b ∧ Row w b t cs, fun _ _ _ h ⟨b, e, hb, hr⟩ => ⟨b, e, hb, hr.below h hr.lt⟩⟩
theorem shape_info : (Tryz.prog.info? 55).map (·.size) = some 8 := by kernel_rfl
theorem seg_bound (size seg : Int) (hs : 1 ≤ seg) (hz : 1 ≤ size) : 0 ≤ (upI size seg - 1) * seg ∧ (upI size seg - 1) * seg ≤ size - 1 ∧ size - (upI size seg - 1) * seg ≤ seg := by
  have h1 := (upI_ge size seg (upI size seg) hs).1 (Int.le_refl _)
  have h2 := (upI_le size seg (upI size seg) hs).1 (Int.le_refl _)
  have h3 : 1 ≤ upI size seg := (upI_ge size seg 1 hs).2 (by omega)
  have h4 : (upI size seg - 1) * seg = upI size seg * seg - seg := by rw [Int.sub_mul]; omega
  refine ⟨Int.mul_nonneg (by omega) (by omega), by omega, by omega⟩
theorem one8 (a b c d e f g h : Int) : (#[Value.int .i64 a, .int .i64 b, .int .i64 c, .int .i64 d, .int .i64 e, .int .i64 f, .int .i64 g, .int .i64 h].all fun x => x.oneCell') = true := by
  simp [Value.oneCell']
def zSh : Array Value := #[.int .i64 0, .int .i64 0, .int .i64 0, .int .i64 0, .int .i64 0, .int .i64 0, .int .i64 0, .int .i64 0]

attribute [local go_sem] stepV stepVUpon
set_option maxRecDepth 100000 in
set_option maxHeartbeats 1000000 in
theorem shape_at (k n seg size : Int) (hk : 1 ≤ k) (hk2 : k ≤ 255) (hs : 1 ≤ seg) (hs2 : seg ≤ 100000) (hz : 32 < size) (hz2 : size ≤ 16777216) (w : World) :
    Calls Tryz.prog 31 #[.int .i64 k, .int .i64 n, .int .i64 seg, .int .i64 size] w fun e w' =>
      (∃ t b l : Int, e = .returned (.agg #[.int .i64 k, .int .i64 n, .int .i64 seg, .int .i64 size, .int .i64 (upI size seg), .int .i64 t, .int .i64 b, .int .i64 l])) ∧ Below w.heap.size w w' := by
  go_enter Tryz.func31, Tryz.ntmps31
  go_wp2_with fail
  have hk0 : ¬ k = 0 := by omega
  have hq1 : seg.tdiv k = seg / k := Int.tdiv_eq_ediv_of_nonneg (by omega)
  have hq2 : 0 ≤ seg / k := Int.ediv_nonneg (by omega) (by omega)
  have hq3 : seg / k ≤ seg := Int.ediv_le_self _ (by omega)
  have hq : IntKind.i64.wrap (seg.tdiv k) = seg / k := by rw [hq1]; exact IntWalk.i64_in _ ⟨by omega, by omega⟩
  clear hq1
  refine wp_region_any (by kernel_rfl) ?_
  refine wpAny_takeL (i := 0) (v := ?_) rfl (by kernel_rfl) (by kernel_rfl) (by kernel_rfl) (fun _ _ _ h => h) (Or.inl ⟨by rfl, ?_⟩) ?_
  rotate_left
  · intro w
    go_simp
    try with_reducible rfl
  simp only [Act.put, List.setIfInBounds_toArray, List.set_cons_zero, List.set_cons_succ]
  refine wpAny_takeL (i := 1) (v := ?_) rfl (by kernel_rfl) (by kernel_rfl) (by kernel_rfl) (fun _ _ _ h => h) (Or.inl ⟨by rfl, ?_⟩) ?_
  rotate_left
  · intro w
    go_simp
    try with_reducible rfl
  simp only [Act.put, List.setIfInBounds_toArray, List.set_cons_zero, List.set_cons_succ]
  refine wpAny_takeL (i := 2) (v := ?_) rfl (by kernel_rfl) (by kernel_rfl) (by kernel_rfl) (fun _ _ _ h => h) (Or.inl ⟨by rfl, ?_⟩) ?_
  rotate_left
  · intro w
    go_simp
    try with_reducible rfl
  simp only [Act.put, List.setIfInBounds_toArray, List.set_cons_zero, List.set_cons_succ]
  refine wpAny_takeL (i := 3) (v := ?_) rfl (by kernel_rfl) (by kernel_rfl) (by kernel_rfl) (fun _ _ _ h => h) (Or.inl ⟨by rfl, ?_⟩) ?_
  rotate_left
  · intro w
    go_simp
    try with_reducible rfl
  simp only [Act.put, List.setIfInBounds_toArray, List.set_cons_zero, List.set_cons_succ]
  refine wpAny_takeL (i := 4) (v := ?_) rfl (by kernel_rfl) (by kernel_rfl) (by kernel_rfl) (fun _ _ _ h => h) (Or.inl ⟨by rfl, ?_⟩) ?_
  rotate_left
  · intro w
    go_simp
    try with_reducible rfl
  simp only [Act.put, List.setIfInBounds_toArray, List.set_cons_zero, List.set_cons_succ]
  refine wpAny_takeL (i := 5) (v := ?_) rfl (by kernel_rfl) (by kernel_rfl) (by kernel_rfl) (fun _ _ _ h => h) (Or.inl ⟨by rfl, ?_⟩) ?_
  rotate_left
  · intro w
    go_simp
    try with_reducible rfl
  simp only [Act.put, List.setIfInBounds_toArray, List.set_cons_zero, List.set_cons_succ]
  refine wpAny_takeL (i := 7) (v := ?_) rfl (by kernel_rfl) (by kernel_rfl) (by kernel_rfl) (fun _ _ _ h => h) (Or.inl ⟨by rfl, ?_⟩) ?_
  rotate_left
  · intro w
    go_simp
    try with_reducible rfl
  simp only [Act.put, List.setIfInBounds_toArray, List.set_cons_zero, List.set_cons_succ]
  refine wpAny_takeL (i := 8) (v := ?_) rfl (by kernel_rfl) (by kernel_rfl) (by kernel_rfl) (fun _ _ _ h => h) (Or.inl ⟨by rfl, ?_⟩) ?_
  rotate_left
  · intro w
    go_simp
    try with_reducible rfl
  simp only [Act.put, List.setIfInBounds_toArray, List.set_cons_zero, List.set_cons_succ]
  refine wpAny_takeL (i := 9) (v := ?_) rfl (by kernel_rfl) (by kernel_rfl) (by kernel_rfl) (fun _ _ _ h => h) (Or.inl ⟨by rfl, ?_⟩) ?_
  rotate_left
  · intro w
    go_simp
    try with_reducible rfl
  simp only [Act.put, List.setIfInBounds_toArray, List.set_cons_zero, List.set_cons_succ]
  refine wpAny_growL 12 [6, 10, 11] [_, _, _] (fun i => if i = 6 then Wd.is (.int .i64 (upI size seg)) else if i = 10 then Wd.is (.agg #[.int .i64 k, .int .i64 n, .int .i64 seg, .int .i64 size, .int .i64 (upI size seg), .int .i64 0, .int .i64 (seg / k), .int .i64 0]) else Wd.rowAt (w.heap.size + 1) 55 zSh) (by kernel_rfl) (by kernel_rfl) rfl ⟨?o1, ?o2, ?o3, trivial⟩ ?_
  case o1 =>
    intro f w' hw hV K hK
    simp only [putO, Act.put, List.setIfInBounds_toArray, List.set_cons_zero, List.set_cons_succ]
    go_simp
    exact (up_at size seg (by omega) (by omega) hs (by omega) w').mono fun e w2 ⟨he, hw2⟩ => ⟨_, he, hw2 ▸ hK _ _ (Below.refl _ _) rfl⟩
  case o2 =>
    intro f w' hw hV K hK
    have d : f 6 = .int .i64 (upI size seg) := hV 6 (by kernel_rfl)
    simp only [putO, Act.put, List.setIfInBounds_toArray, List.set_cons_zero, List.set_cons_succ, d]
    go_simp
    exact hK _ _ (Below.refl _ _) rfl
  case o3 =>
    intro f w' hw hV K hK
    simp only [putO, Act.put, List.setIfInBounds_toArray, List.set_cons_zero, List.set_cons_succ]
    go_simp
    exact hK _ _ ((Below.refl _ _).alloc (Nat.le_refl _) _) ⟨_, rfl, by have := hw.size; simp at this; omega, Row.new _ _ _⟩
  intro f w2 hw hV
  have d6 : f 6 = .int .i64 (upI size seg) := hV 6 (by simp)
  have d10 : f 10 = .agg #[.int .i64 k, .int .i64 n, .int .i64 seg, .int .i64 size, .int .i64 (upI size seg), .int .i64 0, .int .i64 (seg / k), .int .i64 0] := hV 10 (by simp)
  have d11' : (Wd.rowAt (w.heap.size + 1) 55 zSh).1 w2 (f 11) := hV 11 (by simp)
  obtain ⟨b, d11, hbb, hrow⟩ := d11'
  simp only [putO, Act.put, List.setIfInBounds_toArray, List.set_cons_zero, List.set_cons_succ, d6, d10, d11]
  simp only [List.drop_succ_cons, List.drop_zero]
  have hb2 : Below w.heap.size w w2 := ((Below.refl w.heap.size w).alloc (Nat.le_refl _) (.cells zSh 55)).drew.trans (hw.mono (by simp))
  have hres : Row w2 w.heap.size 55 zSh := (Row.new w 55 zSh).drew.below hw (by simp)
  clear hV hw d6 d10 d11
  have sb := seg_bound size seg hs (by omega)
  obtain ⟨sb1, sb2, sb3⟩ := sb
  have su := upI_bd size seg (by omega) hs
  obtain ⟨su1, su2⟩ := su
  refine wpList_store_row rfl 55 (.tmp 9) (.tmp 20) rfl b #[.int .i64 k, .int .i64 n, .int .i64 seg, .int .i64 size, .int .i64 (upI size seg), .int .i64 0, .int .i64 (seg / k), .int .i64 0] rfl rfl 55 zSh hrow shape_info rfl (one8 _ _ _ _ _ _ _ _) ?_
  have hres := hres.setRow_other (g := b) #[.int .i64 k, .int .i64 n, .int .i64 seg, .int .i64 size, .int .i64 (upI size seg), .int .i64 0, .int .i64 (seg / k), .int .i64 0] (by omega)
  have hb2 := below_setRow hb2 (b := b) (by omega) #[.int .i64 k, .int .i64 n, .int .i64 seg, .int .i64 size, .int .i64 (upI size seg), .int .i64 0, .int .i64 (seg / k), .int .i64 0]
  have hrow := hrow.setRow #[.int .i64 k, .int .i64 n, .int .i64 seg, .int .i64 size, .int .i64 (upI size seg), .int .i64 0, .int .i64 (seg / k), .int .i64 0]
  generalize w2.setRow b _ = w3 at *
  have c4 : w3.cell? ⟨b, 4, none⟩ = some (.int .i64 (upI size seg)) := hrow.cell 4
  have c5 : w3.cell? ⟨b, 5, none⟩ = some (.int .i64 0) := hrow.cell 5
  have c7 : w3.cell? ⟨b, 7, none⟩ = some (.int .i64 0) := hrow.cell 7
  have f5 := hrow.frozen 5
  have f7 := hrow.frozen 7
  clear hq hk0 hq2 hq3
  go_wp2_with fail
  refine (up_at (size - (upI size seg - 1) * seg) k (by omega) (by omega) hk (by omega) _).mono ?_
  rintro e w4 ⟨rfl, rfl⟩
  have hres := hres.other ⟨b, 5, none⟩ (.int .i64 (size - (upI size seg - 1) * seg)) (by simp; omega)
  have hb2 := hb2.setCell (p := ⟨b, 5, none⟩) (by simp; omega) (.int .i64 (size - (upI size seg - 1) * seg))
  have hrow := hrow.store 5 (.int .i64 (size - (upI size seg - 1) * seg))
  clear c4 c5 c7 f5 f7
  generalize w3.setCell _ _ = w5 at *
  have c7 : w5.cell? ⟨b, 7, none⟩ = some (.int .i64 0) := hrow.cell 7
  have f7 := hrow.frozen 7
  have hres := hres.other ⟨b, 7, none⟩ (.int .i64 (upI (size - (upI size seg - 1) * seg) k)) (by simp; omega)
  have hb2 := hb2.setCell (p := ⟨b, 7, none⟩) (by simp; omega) (.int .i64 (upI (size - (upI size seg - 1) * seg) k))
  have hrow := hrow.store 7 (.int .i64 (upI (size - (upI size seg - 1) * seg) k))
  simp only [List.setIfInBounds_toArray, List.set_cons_zero, List.set_cons_succ] at hrow
  go_wp2_with (first | (refine wpList_load_row rfl 55 (.tmp 9) rfl b rfl 55 _ (0, 0) _ hrow Tryz.underlying55 rfl shape_info ?_) | (refine wpList_store_row rfl 55 (.tmp 8) (.tmp 34) rfl w.heap.size _ rfl rfl 55 zSh hres shape_info rfl (one8 _ _ _ _ _ _ _ _) ?_))
  exact bodyPost_ret (results_cell_row Tryz.results31 _ _ _ _ _ _ _ rfl (hres.setRow _) Tryz.underlying55 rfl shape_info) rfl ⟨⟨_, _, _, rfl⟩, below_setRow hb2 (Nat.le_refl _) _⟩
end Go.Proofs.YtfahbdakhbpfcaaGreat
