/- WALKS: clash.Proves, strongroomref29.Proves: whether two byte strings are unlike and have one digest; conditions: at most 2^47 - 4096 bytes each. -/
import Derived.Test.YtafichokaofngaaGreatDoorOf1
namespace Go.Proofs.YtafichokaofngaaGreatDoor
open Go.RowKit Go.Shelf
attribute [local go_sem] stepV stepVUpon

set_option maxRecDepth 100000 in
set_option maxHeartbeats 8000000 in
theorem proves_unlike (p q : Option Addr) (n m c d : Nat) (x y : List UInt8) (w : World) (hx : Has w (.slice p n c) (x.map Sha.bv)) (hy : Has w (.slice q m d) (y.map Sha.bv)) (hn : n ≤ 140737488355328) (hm : m ≤ 140737488355328) (hne : (x == y) = false) :
    Calls Tryz.prog 15 #[.agg #[.slice p n c, .slice q m d]] w fun e w' => e = .returned (.bool (Sha.digest x == Sha.digest y)) ∧ Below w.heap.size w w' := by
  have hb0 : Below w.heap.size w (w.alloc (.cells #[.slice p n c, .slice q m d] 54)) := (Below.refl _ _).alloc (Nat.le_refl _) _
  have hx0 := hx.later hb0
  have hy0 := hy.later hb0
  have r0 := Row.new w 54 #[.slice p n c, .slice q m d]
  have HE := Lib.hid hne
  clear hx hy hne
  go_enter Tryz.func15, Tryz.ntmps15
  go_wp2_with fail
  generalize w.alloc _ = W0 at *
  have HX := Lib.hid hx0
  have HY := Lib.hid hy0
  have HB := Lib.hid hb0
  have hlw : w.heap.size < W0.heap.size := r0.lt
  have c0 : W0.cell? ⟨w.heap.size, 0, none⟩ = some (.slice p n c) := r0.cell 0
  have c1 : W0.cell? ⟨w.heap.size, 1, none⟩ = some (.slice q m d) := r0.cell 1
  clear hx0 hy0 hb0 r0
  refine wp_region_any (by kernel_rfl) ?_
  change wpAny _ _ _ _ _ _ _ W0.drew
  refine wpAny_takeL (i := 0) (v := ?_) rfl (by kernel_rfl) (by kernel_rfl) (by kernel_rfl) (fun _ _ _ h => h) (Or.inl ⟨by rfl, ?_⟩) ?_
  rotate_left
  · intro w
    go_simp
    try with_reducible rfl
  simp only [Act.put, List.setIfInBounds_toArray, List.set_cons_zero, List.set_cons_succ]
  refine wpAny_takeL (i := 2) (v := ?_) rfl (by kernel_rfl) (by kernel_rfl) (by kernel_rfl) (fun _ _ _ h => h) (Or.inl ⟨by rfl, ?_⟩) ?_
  rotate_left
  · intro w
    go_simp
    try with_reducible rfl
  simp only [Act.put, List.setIfInBounds_toArray, List.set_cons_zero, List.set_cons_succ]
  refine wpAny_growL 17 [1, 3, 4, 5, 6, 7, 8, 9, 10, 11, 12, 13, 14, 15, 16] [_, _, _, _, _, _, _, _, _, _, _, _, _, _, _] (fun i => if i = 1 then Wd.is (.slice p n c) else if i = 3 then Wd.is (.slice q m d) else if i = 4 then Wd.is (.bool false) else if i = 5 then Wd.is (.bool true) else if i = 6 then Wd.is (.bool true) else if i = 7 then Wd.is (.pointer (some ⟨w.heap.size, 0, none⟩)) else if i = 8 then Wd.is (.slice p n c) else if i = 9 then Wd.one (.slice p n c) 1 1 else if i = 10 then Wd.is (dval x) else if i = 11 then Wd.is (.pointer (some ⟨w.heap.size, 1, none⟩)) else if i = 12 then Wd.is (.slice q m d) else if i = 13 then Wd.one (.slice q m d) 1 1 else if i = 14 then Wd.is (dval y) else if i = 15 then Wd.is (.bool (Sha.digest x == Sha.digest y)) else Wd.is (.bool (Sha.digest x == Sha.digest y)))
    (by kernel_rfl) rfl rfl ⟨?o1, ?o2, ?o3, ?o4, ?o5, ?o6, ?o7, ?o8, ?o9, ?o10, ?o11, ?o12, ?o13, ?o14, ?o15, trivial⟩ ?_
  case o1 =>
    intro f W hw hV K hK
    have hc := below_cell hw c0
    simp only [putO, Act.put, List.setIfInBounds_toArray, List.set_cons_zero, List.set_cons_succ]
    go_simp
    exact hK _ _ (Below.refl _ _) rfl
  case o2 =>
    intro f W hw hV K hK
    have hc := below_cell hw c1
    simp only [putO, Act.put, List.setIfInBounds_toArray, List.set_cons_zero, List.set_cons_succ]
    go_simp
    exact hK _ _ (Below.refl _ _) rfl
  case o3 =>
    intro f W hw hV K hK
    have d1 : f 1 = .slice p n c := hV 1 (by kernel_rfl)
    have d3 : f 3 = .slice q m d := hV 3 (by kernel_rfl)
    simp only [putO, Act.put, List.setIfInBounds_toArray, List.set_cons_zero, List.set_cons_succ, d1, d3]
    go_simp
    refine (bytesEqual p q n m c d x y W (Has.later (w := W0.drew) HX.out hw) (Has.later (w := W0.drew) HY.out hw)).mono ?_
    rintro e w1 ⟨rfl, rfl⟩
    rw [HE.out]
    exact ⟨_, rfl, hK _ _ (Below.refl _ _) rfl⟩
  case o4 =>
    intro f W hw hV K hK
    have d4 : f 4 = .bool false := hV 4 (by kernel_rfl)
    simp only [putO, Act.put, List.setIfInBounds_toArray, List.set_cons_zero, List.set_cons_succ, d4]
    go_simp
    exact hK _ _ (Below.refl _ _) rfl
  case o5 =>
    intro f W hw hV K hK
    have d5 : f 5 = .bool true := hV 5 (by kernel_rfl)
    simp only [putO, Act.put, List.setIfInBounds_toArray, List.set_cons_zero, List.set_cons_succ, d5]
    go_simp
    exact hK _ _ (Below.refl _ _) rfl
  case o6 =>
    intro f W hw hV K hK
    have d6 : f 6 = .bool true := hV 6 (by kernel_rfl)
    simp only [putO, Act.put, List.setIfInBounds_toArray, List.set_cons_zero, List.set_cons_succ, d6]
    go_simp
    exact hK _ _ (Below.refl _ _) rfl
  case o7 =>
    intro f W hw hV K hK
    have d6 : f 6 = .bool true := hV 6 (by kernel_rfl)
    have d7 : f 7 = .pointer (some ⟨w.heap.size, 0, none⟩) := hV 7 (by kernel_rfl)
    have hc := below_cell hw c0
    simp only [putO, Act.put, List.setIfInBounds_toArray, List.set_cons_zero, List.set_cons_succ, d6, d7]
    go_simp
    exact hK _ _ (Below.refl _ _) rfl
  case o8 =>
    intro f W hw hV K hK
    have d6 : f 6 = .bool true := hV 6 (by kernel_rfl)
    have d8 : f 8 = .slice p n c := hV 8 (by kernel_rfl)
    simp only [putO, Act.put, List.setIfInBounds_toArray, List.set_cons_zero, List.set_cons_succ, d6, d8]
    go_simp
    refine hK _ _ ((Below.refl _ _).alloc (Nat.le_refl _) _) ?_
    change (Wd.one _ 1 1).1 _ _
    exact ⟨_, rfl, (Row.new W 22 #[.slice p n c]).cell 0⟩
  case o9 =>
    intro f W hw hV K hK
    have d6 : f 6 = .bool true := hV 6 (by kernel_rfl)
    have h9 : (Wd.one (.slice p n c) 1 1).1 W (f 9) := hV 9 (by kernel_rfl)
    simp only [putO, Act.put, List.setIfInBounds_toArray, List.set_cons_zero, List.set_cons_succ, d6]
    go_simp
    obtain ⟨b, e9, hc⟩ := h9
    rw [e9]
    refine (sum1_at b 1 _ _ _ x W hc (Has.later (w := W0.drew) HX.out hw) hn).mono ?_
    rintro e w1 ⟨rfl, hb⟩
    exact ⟨_, rfl, hK _ _ hb rfl⟩
  case o10 =>
    intro f W hw hV K hK
    have d6 : f 6 = .bool true := hV 6 (by kernel_rfl)
    simp only [putO, Act.put, List.setIfInBounds_toArray, List.set_cons_zero, List.set_cons_succ, d6]
    go_simp
    exact hK _ _ (Below.refl _ _) rfl
  case o11 =>
    intro f W hw hV K hK
    have d6 : f 6 = .bool true := hV 6 (by kernel_rfl)
    have d11 : f 11 = .pointer (some ⟨w.heap.size, 1, none⟩) := hV 11 (by kernel_rfl)
    have hc := below_cell hw c1
    simp only [putO, Act.put, List.setIfInBounds_toArray, List.set_cons_zero, List.set_cons_succ, d6, d11]
    go_simp
    exact hK _ _ (Below.refl _ _) rfl
  case o12 =>
    intro f W hw hV K hK
    have d6 : f 6 = .bool true := hV 6 (by kernel_rfl)
    have d12 : f 12 = .slice q m d := hV 12 (by kernel_rfl)
    simp only [putO, Act.put, List.setIfInBounds_toArray, List.set_cons_zero, List.set_cons_succ, d6, d12]
    go_simp
    refine hK _ _ ((Below.refl _ _).alloc (Nat.le_refl _) _) ?_
    change (Wd.one _ 1 1).1 _ _
    exact ⟨_, rfl, (Row.new W 22 #[.slice q m d]).cell 0⟩
  case o13 =>
    intro f W hw hV K hK
    have d6 : f 6 = .bool true := hV 6 (by kernel_rfl)
    have h9 : (Wd.one (.slice q m d) 1 1).1 W (f 13) := hV 13 (by kernel_rfl)
    simp only [putO, Act.put, List.setIfInBounds_toArray, List.set_cons_zero, List.set_cons_succ, d6]
    go_simp
    obtain ⟨b, e9, hc⟩ := h9
    rw [e9]
    refine (sum1_at b 1 _ _ _ y W hc (Has.later (w := W0.drew) HY.out hw) hm).mono ?_
    rintro e w1 ⟨rfl, hb⟩
    exact ⟨_, rfl, hK _ _ hb rfl⟩
  case o14 =>
    intro f W hw hV K hK
    have d6 : f 6 = .bool true := hV 6 (by kernel_rfl)
    have d10 : f 10 = dval x := hV 10 (by kernel_rfl)
    have d14 : f 14 = dval y := hV 14 (by kernel_rfl)
    have heq := digest_eql x y
    simp only [putO, Act.put, List.setIfInBounds_toArray, List.set_cons_zero, List.set_cons_succ, d6, d10, d14]
    go_simp
    exact hK _ _ (Below.refl _ _) rfl
  case o15 =>
    intro f W hw hV K hK
    have d6 : f 6 = .bool true := hV 6 (by kernel_rfl)
    have d15 : f 15 = .bool (Sha.digest x == Sha.digest y) := hV 15 (by kernel_rfl)
    simp only [putO, Act.put, List.setIfInBounds_toArray, List.set_cons_zero, List.set_cons_succ, d6, d15]
    go_simp
    exact hK _ _ (Below.refl _ _) rfl
  intro f w2 hw hV
  have z1 : f 1 = .slice p n c := hV 1 (by simp)
  have z3 : f 3 = .slice q m d := hV 3 (by simp)
  have z4 : f 4 = .bool false := hV 4 (by simp)
  have z5 : f 5 = .bool true := hV 5 (by simp)
  have z6 : f 6 = .bool true := hV 6 (by simp)
  have z7 : f 7 = .pointer (some ⟨w.heap.size, 0, none⟩) := hV 7 (by simp)
  have z8 : f 8 = .slice p n c := hV 8 (by simp)
  obtain ⟨b9, z9, _⟩ : (Wd.one (.slice p n c) 1 1).1 w2 (f 9) := hV 9 (by simp)
  have z10 : f 10 = dval x := hV 10 (by simp)
  have z11 : f 11 = .pointer (some ⟨w.heap.size, 1, none⟩) := hV 11 (by simp)
  have z12 : f 12 = .slice q m d := hV 12 (by simp)
  obtain ⟨b13, z13, _⟩ : (Wd.one (.slice q m d) 1 1).1 w2 (f 13) := hV 13 (by simp)
  have z14 : f 14 = dval y := hV 14 (by simp)
  have z15 : f 15 = .bool (Sha.digest x == Sha.digest y) := hV 15 (by simp)
  have z16 : f 16 = .bool (Sha.digest x == Sha.digest y) := hV 16 (by simp)
  simp only [putO, Act.put, List.setIfInBounds_toArray, List.set_cons_zero, List.set_cons_succ, z1, z3, z4, z5, z6, z7, z8, z9, z10, z11, z12, z13, z14, z15, z16, List.drop_succ_cons, List.drop_zero]
  clear hV
  go_wp2_with fail
  go_ret
  exact ⟨rfl, ((HB.out.drew).trans (hw.mono HB.out.size))⟩

set_option maxRecDepth 100000 in
set_option maxHeartbeats 8000000 in
theorem refproves_true (p q : Option Addr) (n m c d : Nat) (x y : List UInt8) (w : World) (hx : Has w (.slice p n c) (x.map Sha.bv)) (hy : Has w (.slice q m d) (y.map Sha.bv)) (hn : n ≤ 140737488355000) (hm : m ≤ 140737488355000) (hne : (x == y) = false) (hdd : (Sha.digest x == Sha.digest y) = true) :
    Calls Tryz.prog 13 #[.agg #[.slice p n c, .slice q m d]] w fun e w' => e = .returned (.bool true) ∧ Below w.heap.size w w' := by
  have hb0 : Below w.heap.size w (w.alloc (.cells #[.slice p n c, .slice q m d] 54)) := (Below.refl _ _).alloc (Nat.le_refl _) _
  have hx0 := hx.later hb0
  have hy0 := hy.later hb0
  have r0 := Row.new w 54 #[.slice p n c, .slice q m d]
  have HSN := Lib.hid hne
  have hdq : ∀ w, (binOp .eql 29 (dval x) (dval y)).run Tryz.prog w = .ok (.bool true) w := fun w => by
    have h := digest_eql x y w
    rwa [hdd] at h
  have HDQ := Lib.hid hdq
  clear hdq
  clear hx hy hne hdd
  go_enter Tryz.func13, Tryz.ntmps13
  go_wp2_with fail
  generalize w.alloc _ = W0 at *
  have HX := Lib.hid hx0
  have HY := Lib.hid hy0
  have HB := Lib.hid hb0
  have hlw : w.heap.size < W0.heap.size := r0.lt
  have c0 : W0.cell? ⟨w.heap.size, 0, none⟩ = some (.slice p n c) := r0.cell 0
  have c1 : W0.cell? ⟨w.heap.size, 1, none⟩ = some (.slice q m d) := r0.cell 1
  clear hx0 hy0 hb0 r0
  refine wp_region_any (by kernel_rfl) ?_
  change wpAny _ _ _ _ _ _ _ W0.drew
  refine wpAny_takeL (i := 0) (v := ?_) rfl (by kernel_rfl) (by kernel_rfl) (by kernel_rfl) (fun _ _ _ h => h) (Or.inl ⟨by rfl, ?_⟩) ?_
  rotate_left
  · intro w
    go_simp
    try with_reducible rfl
  simp only [Act.put, List.setIfInBounds_toArray, List.set_cons_zero, List.set_cons_succ]
  refine wpAny_takeL (i := 3) (v := ?_) rfl (by kernel_rfl) (by kernel_rfl) (by kernel_rfl) (fun _ _ _ h => h) (Or.inl ⟨by rfl, ?_⟩) ?_
  rotate_left
  · intro w
    go_simp
    try with_reducible rfl
  simp only [Act.put, List.setIfInBounds_toArray, List.set_cons_zero, List.set_cons_succ]
  refine wpAny_growL 16 [1, 2, 4, 5, 6, 7, 8, 9, 10, 11, 12, 13, 14, 15] [_, _, _, _, _, _, _, _, _, _, _, _, _, _] (fun i => if i = 1 then Wd.is (.slice p n c) else if i = 2 then Wd.is (.string ⟨x.toArray⟩) else if i = 4 then Wd.is (.slice q m d) else if i = 5 then Wd.is (.string ⟨y.toArray⟩) else if i = 6 then Wd.is (.bool true) else if i = 7 then Wd.is (.bool true) else if i = 8 then Wd.is (.pointer (some ⟨w.heap.size, 0, none⟩)) else if i = 9 then Wd.is (.slice p n c) else if i = 10 then Wd.is (dval x) else if i = 11 then Wd.is (.pointer (some ⟨w.heap.size, 1, none⟩)) else if i = 12 then Wd.is (.slice q m d) else if i = 13 then Wd.is (dval y) else if i = 14 then Wd.is (.bool true) else Wd.is (.bool true))
    (by kernel_rfl) rfl rfl ⟨?o1, ?o2, ?o3, ?o4, ?o5, ?o6, ?o7, ?o8, ?o9, ?o10, ?o11, ?o12, ?o13, ?o14, trivial⟩ ?_
  case o1 =>
    intro f W hw hV K hK
    have hc := below_cell hw c0
    simp only [putO, Act.put, List.setIfInBounds_toArray, List.set_cons_zero, List.set_cons_succ]
    go_simp
    exact hK _ _ (Below.refl _ _) rfl
  case o2 =>
    intro f W hw hV K hK
    have d1 : f 1 = .slice p n c := hV 1 (by kernel_rfl)
    have hcv := has_to_string (P := Tryz.prog) Tryz.underlying22 Tryz.underlying5 Tryz.underlying9 (Has.later (w := W0.drew) HX.out hw)
    simp only [putO, Act.put, List.setIfInBounds_toArray, List.set_cons_zero, List.set_cons_succ, d1]
    go_simp
    exact hK _ _ (Below.refl _ _) rfl
  case o3 =>
    intro f W hw hV K hK
    have hc := below_cell hw c1
    simp only [putO, Act.put, List.setIfInBounds_toArray, List.set_cons_zero, List.set_cons_succ]
    go_simp
    exact hK _ _ (Below.refl _ _) rfl
  case o4 =>
    intro f W hw hV K hK
    have d4 : f 4 = .slice q m d := hV 4 (by kernel_rfl)
    have hcv := has_to_string (P := Tryz.prog) Tryz.underlying22 Tryz.underlying5 Tryz.underlying9 (Has.later (w := W0.drew) HY.out hw)
    simp only [putO, Act.put, List.setIfInBounds_toArray, List.set_cons_zero, List.set_cons_succ, d4]
    go_simp
    exact hK _ _ (Below.refl _ _) rfl
  case o5 =>
    intro f W hw hV K hK
    have d2 : f 2 = .string ⟨x.toArray⟩ := hV 2 (by kernel_rfl)
    have d5 : f 5 = .string ⟨y.toArray⟩ := hV 5 (by kernel_rfl)
    have hsn := HSN.out
    simp only [putO, Act.put, List.setIfInBounds_toArray, List.set_cons_zero, List.set_cons_succ, d2, d5]
    go_simp
    exact hK _ _ (Below.refl _ _) rfl
  case o6 =>
    intro f W hw hV K hK
    have d6 : f 6 = .bool true := hV 6 (by kernel_rfl)
    simp only [putO, Act.put, List.setIfInBounds_toArray, List.set_cons_zero, List.set_cons_succ, d6]
    go_simp
    exact hK _ _ (Below.refl _ _) rfl
  case o7 =>
    intro f W hw hV K hK
    have d7 : f 7 = .bool true := hV 7 (by kernel_rfl)
    simp only [putO, Act.put, List.setIfInBounds_toArray, List.set_cons_zero, List.set_cons_succ, d7]
    go_simp
    exact hK _ _ (Below.refl _ _) rfl
  case o8 =>
    intro f W hw hV K hK
    have d7 : f 7 = .bool true := hV 7 (by kernel_rfl)
    have d8 : f 8 = .pointer (some ⟨w.heap.size, 0, none⟩) := hV 8 (by kernel_rfl)
    have hc := below_cell hw c0
    simp only [putO, Act.put, List.setIfInBounds_toArray, List.set_cons_zero, List.set_cons_succ, d7, d8]
    go_simp
    exact hK _ _ (Below.refl _ _) rfl
  case o9 =>
    intro f W hw hV K hK
    have d7 : f 7 = .bool true := hV 7 (by kernel_rfl)
    have d9 : f 9 = .slice p n c := hV 9 (by kernel_rfl)
    simp only [putO, Act.put, List.setIfInBounds_toArray, List.set_cons_zero, List.set_cons_succ, d7, d9]
    go_simp
    refine (sum02_at _ _ _ x W (Has.later (w := W0.drew) HX.out hw) hn).mono ?_
    rintro e w1 ⟨rfl, hb⟩
    exact ⟨_, rfl, hK _ _ hb rfl⟩
  case o10 =>
    intro f W hw hV K hK
    have d7 : f 7 = .bool true := hV 7 (by kernel_rfl)
    simp only [putO, Act.put, List.setIfInBounds_toArray, List.set_cons_zero, List.set_cons_succ, d7]
    go_simp
    exact hK _ _ (Below.refl _ _) rfl
  case o11 =>
    intro f W hw hV K hK
    have d7 : f 7 = .bool true := hV 7 (by kernel_rfl)
    have d11 : f 11 = .pointer (some ⟨w.heap.size, 1, none⟩) := hV 11 (by kernel_rfl)
    have hc := below_cell hw c1
    simp only [putO, Act.put, List.setIfInBounds_toArray, List.set_cons_zero, List.set_cons_succ, d7, d11]
    go_simp
    exact hK _ _ (Below.refl _ _) rfl
  case o12 =>
    intro f W hw hV K hK
    have d7 : f 7 = .bool true := hV 7 (by kernel_rfl)
    have d12 : f 12 = .slice q m d := hV 12 (by kernel_rfl)
    simp only [putO, Act.put, List.setIfInBounds_toArray, List.set_cons_zero, List.set_cons_succ, d7, d12]
    go_simp
    refine (sum02_at _ _ _ y W (Has.later (w := W0.drew) HY.out hw) hm).mono ?_
    rintro e w1 ⟨rfl, hb⟩
    exact ⟨_, rfl, hK _ _ hb rfl⟩
  case o13 =>
    intro f W hw hV K hK
    have d7 : f 7 = .bool true := hV 7 (by kernel_rfl)
    have d10 : f 10 = dval x := hV 10 (by kernel_rfl)
    have d13 : f 13 = dval y := hV 13 (by kernel_rfl)
    have heq := HDQ.out
    simp only [putO, Act.put, List.setIfInBounds_toArray, List.set_cons_zero, List.set_cons_succ, d7, d10, d13]
    go_simp
    exact hK _ _ (Below.refl _ _) rfl
  case o14 =>
    intro f W hw hV K hK
    have d7 : f 7 = .bool true := hV 7 (by kernel_rfl)
    have d14 : f 14 = .bool true := hV 14 (by kernel_rfl)
    simp only [putO, Act.put, List.setIfInBounds_toArray, List.set_cons_zero, List.set_cons_succ, d7, d14]
    go_simp
    exact hK _ _ (Below.refl _ _) rfl
  intro f w2 hw hV
  have z1 : f 1 = .slice p n c := hV 1 (by simp)
  have z2 : f 2 = .string ⟨x.toArray⟩ := hV 2 (by simp)
  have z4 : f 4 = .slice q m d := hV 4 (by simp)
  have z5 : f 5 = .string ⟨y.toArray⟩ := hV 5 (by simp)
  have z6 : f 6 = .bool true := hV 6 (by simp)
  have z7 : f 7 = .bool true := hV 7 (by simp)
  have z8 : f 8 = .pointer (some ⟨w.heap.size, 0, none⟩) := hV 8 (by simp)
  have z9 : f 9 = .slice p n c := hV 9 (by simp)
  have z10 : f 10 = dval x := hV 10 (by simp)
  have z11 : f 11 = .pointer (some ⟨w.heap.size, 1, none⟩) := hV 11 (by simp)
  have z12 : f 12 = .slice q m d := hV 12 (by simp)
  have z13 : f 13 = dval y := hV 13 (by simp)
  have z14 : f 14 = .bool true := hV 14 (by simp)
  have z15 : f 15 = .bool true := hV 15 (by simp)
  simp only [putO, Act.put, List.setIfInBounds_toArray, List.set_cons_zero, List.set_cons_succ, z1, z2, z4, z5, z6, z7, z8, z9, z10, z11, z12, z13, z14, z15, List.drop_succ_cons, List.drop_zero]
  clear hV
  go_wp2_with fail
  go_ret
  exact ⟨rfl, ((HB.out.drew).trans (hw.mono HB.out.size))⟩
end Go.Proofs.YtafichokaofngaaGreatDoor
