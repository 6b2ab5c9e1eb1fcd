/-
  Ref09C: WALK: strongroomref09.Shape: a shape, or why none; conditions: none.
-/
import Derived.Test.YtfahbdakhbpfcaaGreatM36
import Derived.Test.YtfahbdakhbpfcaaGreatM41
namespace Go.Proofs.YtfahbdakhbpfcaaGreat
open Go.RowKit

def Wd.shp (k n seg size : Int) : Wd := ⟨fun _ v => ∃ t b l : Int, v = .agg #[.int .i64 k, .int .i64 n, .int .i64 seg, .int .i64 size, .int .i64 (upI size seg), .int .i64 t, .int .i64 b, .int .i64 l], fun _ _ _ _ h => h⟩
theorem params_info : (Tryz.prog.info? 72).map (·.size) = some 5 := by kernel_rfl
theorem shape09_up (k a : Int) (h1 : 1 ≤ k) (h2 : k ≤ 255) (h3 : 1 ≤ a) (h4 : a ≤ 65536) : 1 ≤ k * upI a k ∧ k * upI a k ≤ 100000 := by
  have e1 := (upI_le a k (upI a k) h1).1 (Int.le_refl _)
  have e2 := (upI_ge a k (upI a k) h1).1 (Int.le_refl _)
  rw [Int.mul_comm] at e1 e2
  omega

attribute [local go_sem] stepV stepVUpon
set_option maxRecDepth 100000 in
set_option maxHeartbeats 2000000 in
/-- where the numbers are a capability's -/
theorem shape09_at (k n a size : Int) (h : okP k n a) (hz : 32 < size) (hz2 : size ≤ 16777216) (w : World) :
    Calls Tryz.prog 28 #[.agg #[.int .i64 k, .int .i64 n, .int .i64 a, .int .i64 0, .slice none 0 0], .int .i64 size] w fun e w' =>
      ((∃ t b l : Int, upI size (k * upI a k) ≤ 512 ∧ e = .returned (.tuple #[.agg #[.int .i64 k, .int .i64 n, .int .i64 (k * upI a k), .int .i64 size, .int .i64 (upI size (k * upI a k)), .int .i64 t, .int .i64 b, .int .i64 l], .int .i64 0])) ∨
        (512 < upI size (k * upI a k) ∧ e = .returned (.tuple #[.agg zSh, .int .i64 3]))) ∧ Below w.heap.size w w' := by
  have hchk := check09_ok k n a h
  obtain ⟨h1, h2, h3, h4, h5, h6⟩ := h
  obtain ⟨hm1, hm2⟩ := shape09_up k a h3 (by omega) h5 h6
  have hwr : IntKind.i64.wrap (k * upI a k) = k * upI a k := IntWalk.i64_in _ ⟨by omega, by omega⟩
  have HC := Lib.hid hchk
  clear hchk
  have RP := (Row.new w 72 #[.int .i64 k, .int .i64 n, .int .i64 a, .int .i64 0, .slice none 0 0]).alloc (.cells zSh 55)
  have RS := Row.new (w.alloc (.cells #[.int .i64 k, .int .i64 n, .int .i64 a, .int .i64 0, .slice none 0 0] 72)) 55 zSh
  have B := ((Below.refl w.heap.size w).alloc (Nat.le_refl _) (.cells #[.int .i64 k, .int .i64 n, .int .i64 a, .int .i64 0, .slice none 0 0] 72)).alloc (by simp) (.cells zSh 55)
  simp only [World.size_alloc] at RS
  go_enter Tryz.func28, Tryz.ntmps28
  go_wp2_with (refine wpList_load_row rfl 72 (.tmp 2) rfl w.heap.size rfl 72 #[.int .i64 k, .int .i64 n, .int .i64 a, .int .i64 0, .slice none 0 0] (0, 0) _ RP Tryz.underlying72 rfl params_info ?_)
  generalize hW : (w.alloc _).alloc _ = W0
  have hW' : (w.alloc (.cells #[.int .i64 k, .int .i64 n, .int .i64 a, .int .i64 0, .slice none 0 0] 72)).alloc (.cells zSh 55) = W0 := hW
  have hs0 : W0.heap.size = w.heap.size + 2 := by rw [← hW]; simp
  rw [hW'] at RP RS B
  clear hW hW'
  refine (HC.out W0).mono ?_
  rintro e w1 ⟨rfl, hb1⟩
  have hs1 := hb1.size
  replace RP := RP.below hb1 RP.lt
  replace RS := RS.below hb1 RS.lt
  replace B := B.trans (hb1.mono B.size)
  clear hb1
  have HWR := Lib.hid hwr
  clear hwr
  go_wp2_with fail
  have hwr := HWR.out
  replace RP := RP.drew
  replace RS := RS.drew
  replace B := B.drew
  refine wp_region_any (by kernel_rfl) ?_
  change wpAny _ _ _ _ _ _ _ w1.drew
  have hs2 : w.heap.size + 2 ≤ w1.drew.heap.size := by show _ ≤ w1.heap.size; omega
  generalize w1.drew = w1 at *
  refine wpAny_takeL (i := 0) (v := ?_) rfl (by kernel_rfl) (by kernel_rfl) (by kernel_rfl) (fun _ _ _ h => h) (Or.inl ⟨by rfl, ?_⟩) ?_
  rotate_left
  · intro w
    go_simp
    try with_reducible rfl
  simp only [Act.put, List.setIfInBounds_toArray, List.set_cons_zero, List.set_cons_succ]
  refine wpAny_takeL (i := 2) (v := ?_) rfl (by kernel_rfl) (by kernel_rfl) (by kernel_rfl) (fun _ _ _ h => h) (Or.inl ⟨by rfl, ?_⟩) ?_
  rotate_left
  · intro w
    go_simp
    try with_reducible rfl
  simp only [Act.put, List.setIfInBounds_toArray, List.set_cons_zero, List.set_cons_succ]
  refine wpAny_takeL (i := 4) (v := ?_) rfl (by kernel_rfl) (by kernel_rfl) (by kernel_rfl) (fun _ _ _ h => h) (Or.inl ⟨by rfl, ?_⟩) ?_
  rotate_left
  · intro w
    go_simp
    try with_reducible rfl
  simp only [Act.put, List.setIfInBounds_toArray, List.set_cons_zero, List.set_cons_succ]
  refine wpAny_takeL (i := 6) (v := ?_) rfl (by kernel_rfl) (by kernel_rfl) (by kernel_rfl) (fun _ _ _ h => h) (Or.inl ⟨by rfl, ?_⟩) ?_
  rotate_left
  · intro w
    go_simp
    try with_reducible rfl
  simp only [Act.put, List.setIfInBounds_toArray, List.set_cons_zero, List.set_cons_succ]
  refine wpAny_takeL (i := 8) (v := ?_) rfl (by kernel_rfl) (by kernel_rfl) (by kernel_rfl) (fun _ _ _ h => h) (Or.inl ⟨by rfl, ?_⟩) ?_
  rotate_left
  · intro w
    go_simp
    try with_reducible rfl
  simp only [Act.put, List.setIfInBounds_toArray, List.set_cons_zero, List.set_cons_succ]
  refine wpAny_takeL (i := 12) (v := ?_) rfl (by kernel_rfl) (by kernel_rfl) (by kernel_rfl) (fun _ _ _ h => h) (Or.inl ⟨by rfl, ?_⟩) ?_
  rotate_left
  · intro w
    go_simp
    try with_reducible rfl
  simp only [Act.put, List.setIfInBounds_toArray, List.set_cons_zero, List.set_cons_succ]
  refine wpAny_growL 15 [1, 3, 5, 7, 9, 10, 11, 13, 14] [_, _, _, _, _, _, _, _, _] (fun i => if i = 1 then Wd.is (.int .i64 k) else if i = 3 then Wd.is (.int .i64 n) else if i = 5 then Wd.is (.int .i64 k) else if i = 7 then Wd.is (.int .i64 a) else if i = 9 then Wd.is (.int .i64 k) else if i = 10 then Wd.is (.int .i64 (upI a k)) else if i = 11 then Wd.is (.int .i64 (k * upI a k)) else if i = 13 then Wd.shp k n (k * upI a k) size else Wd.rowAt (w.heap.size + 2) 55 zSh) (by kernel_rfl) (by kernel_rfl) rfl ⟨?o1, ?o2, ?o3, ?o4, ?o5, ?o6, ?o7, ?o8, ?o9, trivial⟩ ?_
  case o1 =>
    intro f w' hw hV K hK
    have hc : w'.cell? ⟨w.heap.size, 0, none⟩ = some (.int .i64 k) := (RP.below hw RP.lt).cell 0
    simp only [putO, Act.put, List.setIfInBounds_toArray, List.set_cons_zero, List.set_cons_succ]
    go_simp
    exact hK _ _ (Below.refl _ _) rfl
  case o2 =>
    intro f w' hw hV K hK
    have hc : w'.cell? ⟨w.heap.size, 1, none⟩ = some (.int .i64 n) := (RP.below hw RP.lt).cell 1
    simp only [putO, Act.put, List.setIfInBounds_toArray, List.set_cons_zero, List.set_cons_succ]
    go_simp
    exact hK _ _ (Below.refl _ _) rfl
  case o3 =>
    intro f w' hw hV K hK
    have hc : w'.cell? ⟨w.heap.size, 0, none⟩ = some (.int .i64 k) := (RP.below hw RP.lt).cell 0
    simp only [putO, Act.put, List.setIfInBounds_toArray, List.set_cons_zero, List.set_cons_succ]
    go_simp
    exact hK _ _ (Below.refl _ _) rfl
  case o4 =>
    intro f w' hw hV K hK
    have hc : w'.cell? ⟨w.heap.size, 2, none⟩ = some (.int .i64 a) := (RP.below hw RP.lt).cell 2
    simp only [putO, Act.put, List.setIfInBounds_toArray, List.set_cons_zero, List.set_cons_succ]
    go_simp
    exact hK _ _ (Below.refl _ _) rfl
  case o5 =>
    intro f w' hw hV K hK
    have hc : w'.cell? ⟨w.heap.size, 0, none⟩ = some (.int .i64 k) := (RP.below hw RP.lt).cell 0
    simp only [putO, Act.put, List.setIfInBounds_toArray, List.set_cons_zero, List.set_cons_succ]
    go_simp
    exact hK _ _ (Below.refl _ _) rfl
  case o6 =>
    intro f w' hw hV K hK
    have d7 : f 7 = .int .i64 a := hV 7 (by kernel_rfl)
    have d9 : f 9 = .int .i64 k := hV 9 (by kernel_rfl)
    simp only [putO, Act.put, List.setIfInBounds_toArray, List.set_cons_zero, List.set_cons_succ, d7, d9]
    go_simp
    exact (up09_at a k (by omega) (by omega) (by omega) (by omega) w').mono fun e w2 ⟨he, q, hw2⟩ => ⟨_, he, hw2 ▸ hK _ _ ⟨rfl, rfl, rfl, Nat.le_refl _, fun _ _ => rfl⟩ rfl⟩
  case o7 =>
    intro f w' hw hV K hK
    have d5 : f 5 = .int .i64 k := hV 5 (by kernel_rfl)
    have d10 : f 10 = .int .i64 (upI a k) := hV 10 (by kernel_rfl)
    simp only [putO, Act.put, List.setIfInBounds_toArray, List.set_cons_zero, List.set_cons_succ, d5, d10]
    go_simp
    exact hK _ _ (Below.refl _ _) rfl
  case o8 =>
    intro f w' hw hV K hK
    have d1 : f 1 = .int .i64 k := hV 1 (by kernel_rfl)
    have d3 : f 3 = .int .i64 n := hV 3 (by kernel_rfl)
    have d11 : f 11 = .int .i64 (k * upI a k) := hV 11 (by kernel_rfl)
    simp only [putO, Act.put, List.setIfInBounds_toArray, List.set_cons_zero, List.set_cons_succ, d1, d3, d11]
    go_simp
    exact (laid09_at k n (k * upI a k) size (by omega) (by omega) hm1 hm2 hz hz2 w').mono fun e w2 ⟨⟨t, b, l, he⟩, hb⟩ => ⟨_, he, hK _ _ hb ⟨t, b, l, rfl⟩⟩
  case o9 =>
    intro f w' hw hV K hK
    simp only [putO, Act.put, List.setIfInBounds_toArray, List.set_cons_zero, List.set_cons_succ]
    go_simp
    exact hK _ _ ((Below.refl _ _).alloc (Nat.le_refl _) _) ⟨_, rfl, by have := hw.size; omega, Row.new _ _ _⟩
  intro f w2 hw hV
  have d1 : f 1 = .int .i64 k := hV 1 (by simp)
  have d3 : f 3 = .int .i64 n := hV 3 (by simp)
  have d5 : f 5 = .int .i64 k := hV 5 (by simp)
  have d7 : f 7 = .int .i64 a := hV 7 (by simp)
  have d9 : f 9 = .int .i64 k := hV 9 (by simp)
  have d10 : f 10 = .int .i64 (upI a k) := hV 10 (by simp)
  have d11 : f 11 = .int .i64 (k * upI a k) := hV 11 (by simp)
  have d13' : (Wd.shp k n (k * upI a k) size).1 w2 (f 13) := hV 13 (by simp)
  have d14' : (Wd.rowAt (w.heap.size + 2) 55 zSh).1 w2 (f 14) := hV 14 (by simp)
  obtain ⟨t, b, l, d13⟩ := d13'
  obtain ⟨g, d14, hg, hrow⟩ := d14'
  simp only [putO, Act.put, List.setIfInBounds_toArray, List.set_cons_zero, List.set_cons_succ, d1, d3, d5, d7, d9, d10, d11, d13, d14]
  simp only [List.drop_succ_cons, List.drop_zero]
  have RS := RS.below hw RS.lt
  have B := B.trans (hw.mono B.size)
  clear hV hw d1 d3 d5 d7 d9 d10 d11 d13 d14 RP hwr HWR hm1 hm2
  generalize hsg : k * upI a k = sg at *
  have HSG := Lib.hid hsg
  clear hsg
  refine wpList_store_row rfl 55 (.tmp 6) (.tmp 31) rfl g #[.int .i64 k, .int .i64 n, .int .i64 sg, .int .i64 size, .int .i64 (upI size sg), .int .i64 t, .int .i64 b, .int .i64 l] rfl rfl 55 zSh hrow shape_info rfl (one8 _ _ _ _ _ _ _ _) ?_
  have RS := RS.setRow_other (g := g) #[.int .i64 k, .int .i64 n, .int .i64 sg, .int .i64 size, .int .i64 (upI size sg), .int .i64 t, .int .i64 b, .int .i64 l] (by omega)
  have B := below_setRow B (b := g) (by omega) #[.int .i64 k, .int .i64 n, .int .i64 sg, .int .i64 size, .int .i64 (upI size sg), .int .i64 t, .int .i64 b, .int .i64 l]
  have hrow := hrow.setRow #[.int .i64 k, .int .i64 n, .int .i64 sg, .int .i64 size, .int .i64 (upI size sg), .int .i64 t, .int .i64 b, .int .i64 l]
  generalize w2.setRow g _ = w3 at *
  have c4 : w3.cell? ⟨g, 4, none⟩ = some (.int .i64 (upI size sg)) := hrow.cell 4
  generalize hus : upI size sg = u at *
  have HUS := Lib.hid hus
  clear hus
  by_cases hu : u ≤ 512
  · go_wp2_with (first
      | (refine wpList_load_row rfl 55 (.tmp 6) rfl g rfl 55 _ (0, 0) _ hrow Tryz.underlying55 rfl shape_info ?_)
      | (refine wpList_store_row rfl 55 (.tmp 4) (.tmp 36) rfl (w.heap.size + 1) _ rfl rfl 55 zSh RS shape_info rfl (one8 _ _ _ _ _ _ _ _) ?_))
    exact bodyPost_ret (results_row_tmp Tryz.results28 _ _ (w.heap.size + 1) 55 _ _ rfl (RS.setRow _) Tryz.underlying55 rfl shape_info) rfl ⟨Or.inl ⟨t, b, l, by rw [HSG.out, HUS.out]; exact hu, by rw [HSG.out, HUS.out]; rfl⟩, below_setRow B (by omega) _⟩
  · have hu2 : 512 < u := by omega
    clear hu
    go_wp2_with (refine wpList_store_row rfl 55 (.tmp 4) (.tmp 35) rfl (w.heap.size + 1) zSh rfl rfl 55 zSh RS shape_info rfl (one8 _ _ _ _ _ _ _ _) ?_)
    exact bodyPost_ret (results_row_tmp Tryz.results28 _ _ (w.heap.size + 1) 55 zSh _ rfl (RS.setRow zSh) Tryz.underlying55 rfl shape_info) rfl ⟨Or.inr ⟨by rw [HSG.out, HUS.out]; exact hu2, rfl⟩, below_setRow B (by omega) _⟩

set_option maxRecDepth 100000 in
set_option maxHeartbeats 2000000 in
/-- where they are none, or the size is none -/
theorem shape09_no (k n a size : Int) (h : ¬ okP k n a ∨ size ≤ 32 ∨ 16777216 < size) (w : World) :
    Calls Tryz.prog 28 #[.agg #[.int .i64 k, .int .i64 n, .int .i64 a, .int .i64 0, .slice none 0 0], .int .i64 size] w fun e w' =>
      (∃ er : Int, er ≠ 0 ∧ e = .returned (.tuple #[.agg zSh, .int .i64 er])) ∧ Below w.heap.size w w' := by
  have RP := (Row.new w 72 #[.int .i64 k, .int .i64 n, .int .i64 a, .int .i64 0, .slice none 0 0]).alloc (.cells zSh 55)
  have RS := Row.new (w.alloc (.cells #[.int .i64 k, .int .i64 n, .int .i64 a, .int .i64 0, .slice none 0 0] 72)) 55 zSh
  have B := ((Below.refl w.heap.size w).alloc (Nat.le_refl _) (.cells #[.int .i64 k, .int .i64 n, .int .i64 a, .int .i64 0, .slice none 0 0] 72)).alloc (by simp) (.cells zSh 55)
  simp only [World.size_alloc] at RS
  go_enter Tryz.func28, Tryz.ntmps28
  go_wp2_with (refine wpList_load_row rfl 72 (.tmp 2) rfl w.heap.size rfl 72 #[.int .i64 k, .int .i64 n, .int .i64 a, .int .i64 0, .slice none 0 0] (0, 0) _ RP Tryz.underlying72 rfl params_info ?_)
  generalize hW : (w.alloc _).alloc _ = W0
  have hW' : (w.alloc (.cells #[.int .i64 k, .int .i64 n, .int .i64 a, .int .i64 0, .slice none 0 0] 72)).alloc (.cells zSh 55) = W0 := hW
  rw [hW'] at RP RS B
  clear hW hW'
  by_cases hok : okP k n a
  · refine (check09_ok k n a hok W0).mono ?_
    rintro e w1 ⟨rfl, hb1⟩
    replace RS := RS.below hb1 RS.lt
    replace B := B.trans (hb1.mono B.size)
    clear hb1 RP
    have hsz : size ≤ 32 ∨ (32 < size ∧ 16777216 < size) := by
      rcases h with h | h | h
      · exact absurd hok h
      · exact .inl h
      · omega
    clear h hok
    rcases hsz with h1 | ⟨h0, h1⟩
    all_goals
      go_wp2_with (refine wpList_store_row rfl 55 (.tmp 4) (.tmp 17) rfl (w.heap.size + 1) zSh rfl rfl 55 zSh RS shape_info rfl (one8 _ _ _ _ _ _ _ _) ?_)
      exact bodyPost_ret (results_row_tmp Tryz.results28 _ _ (w.heap.size + 1) 55 zSh _ rfl (RS.setRow zSh) Tryz.underlying55 rfl shape_info) rfl ⟨⟨4, by decide, rfl⟩, below_setRow B (by omega) _⟩
  · refine (check09_no k n a hok W0).mono ?_
    rintro e w1 ⟨rfl, hb1⟩
    replace RS := RS.below hb1 RS.lt
    replace B := B.trans (hb1.mono B.size)
    clear hb1 RP h hok
    go_wp2_with (refine wpList_store_row rfl 55 (.tmp 4) (.tmp 10) rfl (w.heap.size + 1) zSh rfl rfl 55 zSh RS shape_info rfl (one8 _ _ _ _ _ _ _ _) ?_)
    exact bodyPost_ret (results_row_tmp Tryz.results28 _ _ (w.heap.size + 1) 55 zSh _ rfl (RS.setRow zSh) Tryz.underlying55 rfl shape_info) rfl ⟨⟨3, by decide, rfl⟩, below_setRow B (by omega) _⟩
end Go.Proofs.YtfahbdakhbpfcaaGreat
