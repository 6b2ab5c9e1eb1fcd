/- WALK: ClashProves returns true; conditions: each part is at most 2^47 - 4096 bytes. -/
import Derived.Test.YtafichokaofngaaGreatDoorOf
import Derived.Test.YtafichokaofngaaGreatDoorLives
namespace Go.Proofs.YtafichokaofngaaGreatDoor
open Go.RowKit Go.Shelf
attribute [local go_sem] stepV stepVUpon

/-- what clash.Proves answers -/
def provesB (x y : List UInt8) : Bool := !(x == y) && Sha.digest x == Sha.digest y
theorem provesB_comm (x y : List UInt8) : provesB y x = provesB x y := by
  unfold provesB
  rw [Bool.eq_iff_iff]
  simp only [Bool.and_eq_true, Bool.not_eq_true', beq_eq_false_iff_ne, beq_iff_eq]
  constructor
  · rintro ⟨h1, h2⟩
    exact ⟨fun e => h1 e.symm, h2.symm⟩
  · rintro ⟨h1, h2⟩
    exact ⟨fun e => h1 e.symm, h2.symm⟩
theorem proves_b (p q : Option Addr) (n m c d : Nat) (x y : List UInt8) (w : World) (hx : Has w (.slice p n c) (x.map Sha.bv)) (hy : Has w (.slice q m d) (y.map Sha.bv)) (hn : n ≤ 140737488355328) (hm : m ≤ 140737488355328) :
    Calls Tryz.prog 15 #[.agg #[.slice p n c, .slice q m d]] w fun e w' => e = .returned (.bool (provesB x y)) ∧ Below w.heap.size w w' := proves_any p q n m c d x y w hx hy hn hm

set_option maxRecDepth 100000 in
set_option maxHeartbeats 8000000 in
theorem clashProves_true (p q : Option Addr) (n m c d : Nat) (X Y : List UInt8) (pa pb pf pg : Option Addr) (nA nB cA cB nf cf ng cg : Nat) (fa fb ra rb : Int) (lsA lsB : List (List UInt8)) (s1 s2 : Option Addr) (n1 n2 c1 c2 : Nat) (x y : List UInt8) (w : World)
    (hx : Has w (.slice p n c) (X.map Sha.bv)) (hX : X.length ≤ 140737488351232) (sA : Segs w pa nA lsA) (lA : ∀ l ∈ lsA, l.length ≤ 140737488351232) (hnA : nA ≤ 140737488355328)
    (hy : Has w (.slice q m d) (Y.map Sha.bv)) (hYl : Y.length ≤ 140737488351232) (sB : Segs w pb nB lsB) (lB : ∀ l ∈ lsB, l.length ≤ 140737488351232) (hnB : nB ≤ 140737488355328)
    (h1 : Has w (.slice s1 n1 c1) (x.map Sha.bv)) (hn1 : n1 ≤ 140737488355328) (h2 : Has w (.slice s2 n2 c2) (y.map Sha.bv)) (hn2 : n2 ≤ 140737488355328) :
    Calls Tryz.prog 4 #[.agg (gotV p n c fa pa nA cA pf nf cf ra), .agg (gotV q m d fb pb nB cB pg ng cg rb), .agg #[.slice s1 n1 c1, .slice s2 n2 c2]] w fun e w' => e = .returned (.bool true) ∧ Below w.heap.size w w' := by
  have LA := Lib.hid lA
  have LB := Lib.hid lB
  have SA := Lib.hid sA
  have SB := Lib.hid sB
  clear lA lB sA sB
  go_enter Tryz.func4, Tryz.ntmps4
  go_wp2_with fail
  have rA := ((Row.new w 61 (gotV p n c fa pa nA cA pf nf cf ra)).alloc (.cells (gotV q m d fb pb nB cB pg ng cg rb) 61)).alloc (.cells #[.slice s1 n1 c1, .slice s2 n2 c2] 54)
  have rB := (Row.new (w.alloc (.cells (gotV p n c fa pa nA cA pf nf cf ra) 61)) 61 (gotV q m d fb pb nB cB pg ng cg rb)).alloc (.cells #[.slice s1 n1 c1, .slice s2 n2 c2] 54)
  have rC := Row.new ((w.alloc (.cells (gotV p n c fa pa nA cA pf nf cf ra) 61)).alloc (.cells (gotV q m d fb pb nB cB pg ng cg rb) 61)) 54 #[.slice s1 n1 c1, .slice s2 n2 c2]
  have hb0 := (((Below.refl w.heap.size w).alloc (Nat.le_refl _) (.cells (gotV p n c fa pa nA cA pf nf cf ra) 61)).alloc (by simp) (.cells (gotV q m d fb pb nB cB pg ng cg rb) 61)).alloc (by simp; omega) (.cells #[.slice s1 n1 c1, .slice s2 n2 c2] 54)
  have hsz : (((w.alloc (.cells (gotV p n c fa pa nA cA pf nf cf ra) 61)).alloc (.cells (gotV q m d fb pb nB cB pg ng cg rb) 61)).alloc (.cells #[.slice s1 n1 c1, .slice s2 n2 c2] 54)).heap.size = w.heap.size + 3 := by simp
  simp only [World.size_alloc] at rB rC
  generalize hgW : ((w.alloc _).alloc _).alloc _ = W3 at *
  clear hgW
  refine (lives_true W3).mono ?_
  rintro e w1 ⟨rfl, hb1⟩
  have hb01 : Below w.heap.size w w1 := hb0.trans (hb1.mono hb0.size)
  have rA1 := rA.below hb1 (by omega)
  have rB1 := rB.below hb1 (by omega)
  have rC1 := rC.below hb1 (by omega)
  have hs1 := hb1.size
  have k1 := KC.of_below hb01
  have hx1 := hx.later hb01
  have hy1 := hy.later hb01
  have h11 := h1.later hb01
  have h21 := h2.later hb01
  clear rA rB rC hb0 hb1 hx hy h1 h2
  have a0 : w1.cell? ⟨w.heap.size, 0, none⟩ = some (.slice p n c) := rA1.cell 0
  have a1 : w1.cell? ⟨w.heap.size, 1, none⟩ = some (.int .i64 fa) := rA1.cell 1
  have a2 : w1.cell? ⟨w.heap.size, 2, none⟩ = some (.slice pa nA cA) := rA1.cell 2
  have a3 : w1.cell? ⟨w.heap.size, 3, none⟩ = some (.slice pf nf cf) := rA1.cell 3
  have a4 : w1.cell? ⟨w.heap.size, 4, none⟩ = some (.int .i64 ra) := rA1.cell 4
  have b0 : w1.cell? ⟨w.heap.size + 1, 0, none⟩ = some (.slice q m d) := rB1.cell 0
  have b1 : w1.cell? ⟨w.heap.size + 1, 1, none⟩ = some (.int .i64 fb) := rB1.cell 1
  have b2 : w1.cell? ⟨w.heap.size + 1, 2, none⟩ = some (.slice pb nB cB) := rB1.cell 2
  have b3 : w1.cell? ⟨w.heap.size + 1, 3, none⟩ = some (.slice pg ng cg) := rB1.cell 3
  have b4 : w1.cell? ⟨w.heap.size + 1, 4, none⟩ = some (.int .i64 rb) := rB1.cell 4
  have HX1 := Lib.hid hx1
  have HY1 := Lib.hid hy1
  have H11 := Lib.hid h11
  have H21 := Lib.hid h21
  clear hx1 hy1 h11 h21
  go_wp2_with fail
  refine (of_any p q n m c d X Y pa pb pf pg nA nB cA cB nf cf ng cg fa fb ra rb lsA lsB w1 HX1.out hX (SA.out.kc k1) LA.out hnA HY1.out hYl (SB.out.kc k1) LB.out hnB).mono ?_
  rintro e w2 ⟨hb2, hcase⟩
  have hb02 : Below w.heap.size w w2 := hb01.trans (hb2.mono hb01.size)
  have rC2 := rC1.below hb2 (by omega)
  have H12 := Lib.hid (H11.out.later hb2)
  have H22 := Lib.hid (H21.out.later hb2)
  have hs2 := hb2.size
  clear a0 a1 a2 a3 a4 b0 b1 b2 b3 b4 rA1 rB1 rC1 hb01 k1 HX1 HY1 H11 H21
  -- behind it: the two calls of Proves
  rcases hcase with ⟨v1, v2, rfl, hcl⟩ | rfl
  · obtain ⟨_, _, X1, Y1, hX1, hY1, g1, g2, hne, hdd⟩ := hcl
    obtain ⟨t1, l1, e1, rfl⟩ := g1.slice
    obtain ⟨t2, l2, e2, rfl⟩ := g2.slice
    have hbn := (Below.refl w2.heap.size w2).alloc (Nat.le_refl _) (.cells #[.slice t1 l1 e1, .slice t2 l2 e2] 54)
    have hl1 : l1 ≤ 140737488355000 := by
      have := g1.len
      simp at this
      omega
    have hl2 : l2 ≤ 140737488355000 := by
      have := g2.len
      simp at this
      omega
    have rp := refproves_true t1 t2 l1 l2 e1 e2 X1 Y1 _ (g1.later hbn) (g2.later hbn) hl1 hl2 hne hdd
    have RP := Lib.hid rp
    have rCn := rC2.alloc (.cells #[.slice t1 l1 e1, .slice t2 l2 e2] 54)
    have rF := Row.new w2 54 #[.slice t1 l1 e1, .slice t2 l2 e2]
    have H1n := Lib.hid (H12.out.later hbn)
    have H2n := Lib.hid (H22.out.later hbn)
    clear rp hne hdd g1 g2 hX1 hY1
    go_wp2_with fail
    refine RP.out.mono ?_
    rintro e w6 ⟨rfl, hb6⟩
    have rCW := rCn.below hb6 rCn.lt
    have hbW := (hb02.trans (hbn.mono hb02.size)).trans (hb6.mono (Nat.le_trans hb02.size hbn.size))
    have H1W := Lib.hid (H1n.out.later hb6)
    have H2W := Lib.hid (H2n.out.later hb6)
    clear RP rCn H1n H2n H12 H22 rC2 hbn hb6 rF
    have k0 : (w6).cell? ⟨w.heap.size + 1 + 1, 0, none⟩ = some (.slice s1 n1 c1) := rCW.cell 0
    have k1 : (w6).cell? ⟨w.heap.size + 1 + 1, 1, none⟩ = some (.slice s2 n2 c2) := rCW.cell 1
    go_wp2_with fail
    refine (proves_same s1 s1 n1 n1 c1 c1 x _ H1W.out H1W.out).mono ?_
    rintro e w3 ⟨rfl, hb3⟩
    have rC3 := rCW.below hb3 rCW.lt
    have hb03 := hbW.trans (hb3.mono hbW.size)
    have H13 := Lib.hid (H1W.out.later hb3)
    have H23 := Lib.hid (H2W.out.later hb3)
    clear k0 k1 rCW hbW H1W H2W hb3
    have k0 : w3.cell? ⟨w.heap.size + 1 + 1, 0, none⟩ = some (.slice s1 n1 c1) := rC3.cell 0
    have k1 : w3.cell? ⟨w.heap.size + 1 + 1, 1, none⟩ = some (.slice s2 n2 c2) := rC3.cell 1
    go_wp2_with fail
    refine wp_region_any (by kernel_rfl) ?_
    change wpAny _ _ _ _ _ _ _ w3.drew
    refine wpAny_takeL (i := 2) (v := ?_) rfl (by kernel_rfl) (by kernel_rfl) (by kernel_rfl) (fun _ _ _ h => h) (Or.inl ⟨by rfl, ?_⟩) ?_
    rotate_left
    · intro w
      go_simp
      try with_reducible rfl
    simp only [Act.put, List.setIfInBounds_toArray, List.set_cons_zero, List.set_cons_succ]
    refine wpAny_takeL (i := 4) (v := ?_) rfl (by kernel_rfl) (by kernel_rfl) (by kernel_rfl) (fun _ _ _ h => h) (Or.inl ⟨by rfl, ?_⟩) ?_
    rotate_left
    · intro w
      go_simp
      try with_reducible rfl
    simp only [Act.put, List.setIfInBounds_toArray, List.set_cons_zero, List.set_cons_succ]
    refine wpAny_growL 9 [0, 1, 3, 5, 6, 7, 8] [_, _, _, _, _, _, _] (fun i => if i = 0 then Wd.is (.agg #[.slice s1 n1 c1, .slice s2 n2 c2]) else if i = 1 then Wd.is (.bool (provesB x y)) else if i = 3 then Wd.is (.slice s2 n2 c2) else if i = 5 then Wd.is (.slice s1 n1 c1) else if i = 6 then Wd.is (.agg #[.slice s2 n2 c2, .slice s1 n1 c1]) else if i = 7 then Wd.is (.bool (provesB x y)) else Wd.is (.bool true))
      (by kernel_rfl) rfl rfl ⟨?o1, ?o2, ?o3, ?o4, ?o5, ?o6, ?o7, trivial⟩ ?_
    case o1 =>
      intro f W hw hV K hK
      have hc0 := below_cell hw k0
      have hc1 := below_cell hw k1
      simp only [putO, Act.put, List.setIfInBounds_toArray, List.set_cons_zero, List.set_cons_succ]
      go_simp
      exact hK _ _ (Below.refl _ _) rfl
    case o2 =>
      intro f W hw hV K hK
      have d0 : f 0 = .agg #[.slice s1 n1 c1, .slice s2 n2 c2] := hV 0 (by kernel_rfl)
      simp only [putO, Act.put, List.setIfInBounds_toArray, List.set_cons_zero, List.set_cons_succ, d0]
      go_simp
      refine (proves_b s1 s2 n1 n2 c1 c2 x y W (Has.later (w := w3.drew) H13.out hw) (Has.later (w := w3.drew) H23.out hw) hn1 hn2).mono ?_
      rintro e w4 ⟨rfl, hb⟩
      exact ⟨_, rfl, hK _ _ hb rfl⟩
    case o3 =>
      intro f W hw hV K hK
      have hc1 := below_cell hw k1
      simp only [putO, Act.put, List.setIfInBounds_toArray, List.set_cons_zero, List.set_cons_succ]
      go_simp
      exact hK _ _ (Below.refl _ _) rfl
    case o4 =>
      intro f W hw hV K hK
      have hc0 := below_cell hw k0
      simp only [putO, Act.put, List.setIfInBounds_toArray, List.set_cons_zero, List.set_cons_succ]
      go_simp
      exact hK _ _ (Below.refl _ _) rfl
    case o5 =>
      intro f W hw hV K hK
      have d3 : f 3 = .slice s2 n2 c2 := hV 3 (by kernel_rfl)
      have d5 : f 5 = .slice s1 n1 c1 := hV 5 (by kernel_rfl)
      simp only [putO, Act.put, List.setIfInBounds_toArray, List.set_cons_zero, List.set_cons_succ, d3, d5]
      go_simp
      exact hK _ _ (Below.refl _ _) rfl
    case o6 =>
      intro f W hw hV K hK
      have d6 : f 6 = .agg #[.slice s2 n2 c2, .slice s1 n1 c1] := hV 6 (by kernel_rfl)
      simp only [putO, Act.put, List.setIfInBounds_toArray, List.set_cons_zero, List.set_cons_succ, d6]
      go_simp
      refine (proves_b s2 s1 n2 n1 c2 c1 y x W (Has.later (w := w3.drew) H23.out hw) (Has.later (w := w3.drew) H13.out hw) hn2 hn1).mono ?_
      rintro e w4 ⟨rfl, hb⟩
      rw [provesB_comm]
      exact ⟨_, rfl, hK _ _ hb rfl⟩
    case o7 =>
      intro f W hw hV K hK
      have d1 : f 1 = .bool (provesB x y) := hV 1 (by kernel_rfl)
      have d7 : f 7 = .bool (provesB x y) := hV 7 (by kernel_rfl)
      simp only [putO, Act.put, List.setIfInBounds_toArray, List.set_cons_zero, List.set_cons_succ, d1, d7]
      go_simp
      exact hK _ _ (Below.refl _ _) rfl
    intro f w5 hw hV
    have z0 : f 0 = .agg #[.slice s1 n1 c1, .slice s2 n2 c2] := hV 0 (by simp)
    have z1 : f 1 = .bool (provesB x y) := hV 1 (by simp)
    have z3 : f 3 = .slice s2 n2 c2 := hV 3 (by simp)
    have z5 : f 5 = .slice s1 n1 c1 := hV 5 (by simp)
    have z6 : f 6 = .agg #[.slice s2 n2 c2, .slice s1 n1 c1] := hV 6 (by simp)
    have z7 : f 7 = .bool (provesB x y) := hV 7 (by simp)
    have z8 : f 8 = .bool true := hV 8 (by simp)
    simp only [putO, Act.put, List.setIfInBounds_toArray, List.set_cons_zero, List.set_cons_succ, z0, z1, z3, z5, z6, z7, z8, List.drop_succ_cons, List.drop_zero]
    clear hV
    go_wp2_with fail
    go_ret
    exact ⟨rfl, ((hb03.drew).trans (hw.mono hb03.size))⟩
  · have rCW := rC2.alloc (.cells #[.slice none 0 0, .slice none 0 0] 54)
    have hbn := (Below.refl w2.heap.size w2).alloc (Nat.le_refl _) (.cells #[.slice none 0 0, .slice none 0 0] 54)
    have hbW := hb02.trans (hbn.mono hb02.size)
    have H1W := Lib.hid (H12.out.later hbn)
    have H2W := Lib.hid (H22.out.later hbn)
    clear H12 H22 rC2 hbn
    have k0 : (w2.alloc (.cells #[.slice none 0 0, .slice none 0 0] 54)).cell? ⟨w.heap.size + 1 + 1, 0, none⟩ = some (.slice s1 n1 c1) := rCW.cell 0
    have k1 : (w2.alloc (.cells #[.slice none 0 0, .slice none 0 0] 54)).cell? ⟨w.heap.size + 1 + 1, 1, none⟩ = some (.slice s2 n2 c2) := rCW.cell 1
    go_wp2_with fail
    refine (proves_same s1 s1 n1 n1 c1 c1 x _ H1W.out H1W.out).mono ?_
    rintro e w3 ⟨rfl, hb3⟩
    have rC3 := rCW.below hb3 rCW.lt
    have hb03 := hbW.trans (hb3.mono hbW.size)
    have H13 := Lib.hid (H1W.out.later hb3)
    have H23 := Lib.hid (H2W.out.later hb3)
    clear k0 k1 rCW hbW H1W H2W hb3
    have k0 : w3.cell? ⟨w.heap.size + 1 + 1, 0, none⟩ = some (.slice s1 n1 c1) := rC3.cell 0
    have k1 : w3.cell? ⟨w.heap.size + 1 + 1, 1, none⟩ = some (.slice s2 n2 c2) := rC3.cell 1
    go_wp2_with fail
    refine wp_region_any (by kernel_rfl) ?_
    change wpAny _ _ _ _ _ _ _ w3.drew
    refine wpAny_takeL (i := 2) (v := ?_) rfl (by kernel_rfl) (by kernel_rfl) (by kernel_rfl) (fun _ _ _ h => h) (Or.inl ⟨by rfl, ?_⟩) ?_
    rotate_left
    · intro w
      go_simp
      try with_reducible rfl
    simp only [Act.put, List.setIfInBounds_toArray, List.set_cons_zero, List.set_cons_succ]
    refine wpAny_takeL (i := 4) (v := ?_) rfl (by kernel_rfl) (by kernel_rfl) (by kernel_rfl) (fun _ _ _ h => h) (Or.inl ⟨by rfl, ?_⟩) ?_
    rotate_left
    · intro w
      go_simp
      try with_reducible rfl
    simp only [Act.put, List.setIfInBounds_toArray, List.set_cons_zero, List.set_cons_succ]
    refine wpAny_growL 9 [0, 1, 3, 5, 6, 7, 8] [_, _, _, _, _, _, _] (fun i => if i = 0 then Wd.is (.agg #[.slice s1 n1 c1, .slice s2 n2 c2]) else if i = 1 then Wd.is (.bool (provesB x y)) else if i = 3 then Wd.is (.slice s2 n2 c2) else if i = 5 then Wd.is (.slice s1 n1 c1) else if i = 6 then Wd.is (.agg #[.slice s2 n2 c2, .slice s1 n1 c1]) else if i = 7 then Wd.is (.bool (provesB x y)) else Wd.is (.bool true))
      (by kernel_rfl) rfl rfl ⟨?o1, ?o2, ?o3, ?o4, ?o5, ?o6, ?o7, trivial⟩ ?_
    case o1 =>
      intro f W hw hV K hK
      have hc0 := below_cell hw k0
      have hc1 := below_cell hw k1
      simp only [putO, Act.put, List.setIfInBounds_toArray, List.set_cons_zero, List.set_cons_succ]
      go_simp
      exact hK _ _ (Below.refl _ _) rfl
    case o2 =>
      intro f W hw hV K hK
      have d0 : f 0 = .agg #[.slice s1 n1 c1, .slice s2 n2 c2] := hV 0 (by kernel_rfl)
      simp only [putO, Act.put, List.setIfInBounds_toArray, List.set_cons_zero, List.set_cons_succ, d0]
      go_simp
      refine (proves_b s1 s2 n1 n2 c1 c2 x y W (Has.later (w := w3.drew) H13.out hw) (Has.later (w := w3.drew) H23.out hw) hn1 hn2).mono ?_
      rintro e w4 ⟨rfl, hb⟩
      exact ⟨_, rfl, hK _ _ hb rfl⟩
    case o3 =>
      intro f W hw hV K hK
      have hc1 := below_cell hw k1
      simp only [putO, Act.put, List.setIfInBounds_toArray, List.set_cons_zero, List.set_cons_succ]
      go_simp
      exact hK _ _ (Below.refl _ _) rfl
    case o4 =>
      intro f W hw hV K hK
      have hc0 := below_cell hw k0
      simp only [putO, Act.put, List.setIfInBounds_toArray, List.set_cons_zero, List.set_cons_succ]
      go_simp
      exact hK _ _ (Below.refl _ _) rfl
    case o5 =>
      intro f W hw hV K hK
      have d3 : f 3 = .slice s2 n2 c2 := hV 3 (by kernel_rfl)
      have d5 : f 5 = .slice s1 n1 c1 := hV 5 (by kernel_rfl)
      simp only [putO, Act.put, List.setIfInBounds_toArray, List.set_cons_zero, List.set_cons_succ, d3, d5]
      go_simp
      exact hK _ _ (Below.refl _ _) rfl
    case o6 =>
      intro f W hw hV K hK
      have d6 : f 6 = .agg #[.slice s2 n2 c2, .slice s1 n1 c1] := hV 6 (by kernel_rfl)
      simp only [putO, Act.put, List.setIfInBounds_toArray, List.set_cons_zero, List.set_cons_succ, d6]
      go_simp
      refine (proves_b s2 s1 n2 n1 c2 c1 y x W (Has.later (w := w3.drew) H23.out hw) (Has.later (w := w3.drew) H13.out hw) hn2 hn1).mono ?_
      rintro e w4 ⟨rfl, hb⟩
      rw [provesB_comm]
      exact ⟨_, rfl, hK _ _ hb rfl⟩
    case o7 =>
      intro f W hw hV K hK
      have d1 : f 1 = .bool (provesB x y) := hV 1 (by kernel_rfl)
      have d7 : f 7 = .bool (provesB x y) := hV 7 (by kernel_rfl)
      simp only [putO, Act.put, List.setIfInBounds_toArray, List.set_cons_zero, List.set_cons_succ, d1, d7]
      go_simp
      exact hK _ _ (Below.refl _ _) rfl
    intro f w5 hw hV
    have z0 : f 0 = .agg #[.slice s1 n1 c1, .slice s2 n2 c2] := hV 0 (by simp)
    have z1 : f 1 = .bool (provesB x y) := hV 1 (by simp)
    have z3 : f 3 = .slice s2 n2 c2 := hV 3 (by simp)
    have z5 : f 5 = .slice s1 n1 c1 := hV 5 (by simp)
    have z6 : f 6 = .agg #[.slice s2 n2 c2, .slice s1 n1 c1] := hV 6 (by simp)
    have z7 : f 7 = .bool (provesB x y) := hV 7 (by simp)
    have z8 : f 8 = .bool true := hV 8 (by simp)
    simp only [putO, Act.put, List.setIfInBounds_toArray, List.set_cons_zero, List.set_cons_succ, z0, z1, z3, z5, z6, z7, z8, List.drop_succ_cons, List.drop_zero]
    clear hV
    go_wp2_with fail
    go_ret
    exact ⟨rfl, ((hb03.drew).trans (hw.mono hb03.size))⟩
end Go.Proofs.YtafichokaofngaaGreatDoor
