/- WALK: clash.Of of one Ueb twice, no segments: no clash; lives; ClashNames: true; conditions: none. -/
import Derived.Test.YtafichokaofngaaGreatDoorFirst0
namespace Go.Proofs.YtafichokaofngaaGreatDoor
open Go.RowKit Go.Shelf

set_option maxRecDepth 100000 in
set_option maxHeartbeats 1000000 in
theorem of_same (p q : Option Addr) (n m c d : Nat) (X : List UInt8) (w : World) (hx : Has w (.slice p n c) (X.map Sha.bv)) (hy : Has w (.slice q m d) (X.map Sha.bv)) (hX : X.length ≤ 140737488351232) :
    Calls Tryz.prog 14 #[.agg #[.slice p n c, .int .i64 0, .slice none 0 0, .slice none 0 0, .int .i64 0], .agg #[.slice q m d, .int .i64 0, .slice none 0 0, .slice none 0 0, .int .i64 0]] w fun e w' =>
      e = .returned (.tuple #[.agg #[.slice none 0 0, .slice none 0 0], .int .i64 290]) ∧ Below w.heap.size w w' := by
  go_enter Tryz.func14, Tryz.ntmps14
  go_wp2_with fail
  refine (pairs_at _ _ _).mono ?_
  rintro e w1 ⟨rfl, rfl⟩
  go_wp2_with fail
  have hb4 := ((((Below.refl w.heap.size w).alloc (Nat.le_refl _) (.cells #[.slice p n c, .int .i64 0, .slice none 0 0, .slice none 0 0, .int .i64 0] 61)).alloc (by simp) (.cells #[.slice q m d, .int .i64 0, .slice none 0 0, .slice none 0 0, .int .i64 0] 61)).alloc (by simp; omega) (.cells #[.slice none 0 0, .slice none 0 0] 54)).alloc (by simp; omega) (.cells #[.func (.func 43) #[] #[.pointer (some ⟨w.heap.size, 0, none⟩), .pointer (some ⟨w.heap.size + 1, 0, none⟩)]] 95)
  have rA := (((Row.new w 61 #[.slice p n c, .int .i64 0, .slice none 0 0, .slice none 0 0, .int .i64 0]).alloc (.cells #[.slice q m d, .int .i64 0, .slice none 0 0, .slice none 0 0, .int .i64 0] 61)).alloc (.cells #[.slice none 0 0, .slice none 0 0] 54)).alloc (.cells #[.func (.func 43) #[] #[.pointer (some ⟨w.heap.size, 0, none⟩), .pointer (some ⟨w.heap.size + 1, 0, none⟩)]] 95)
  have rB := ((Row.new (w.alloc (.cells #[.slice p n c, .int .i64 0, .slice none 0 0, .slice none 0 0, .int .i64 0] 61)) 61 #[.slice q m d, .int .i64 0, .slice none 0 0, .slice none 0 0, .int .i64 0]).alloc (.cells #[.slice none 0 0, .slice none 0 0] 54)).alloc (.cells #[.func (.func 43) #[] #[.pointer (some ⟨w.heap.size, 0, none⟩), .pointer (some ⟨w.heap.size + 1, 0, none⟩)]] 95)
  have rC := (Row.new ((w.alloc (.cells #[.slice p n c, .int .i64 0, .slice none 0 0, .slice none 0 0, .int .i64 0] 61)).alloc (.cells #[.slice q m d, .int .i64 0, .slice none 0 0, .slice none 0 0, .int .i64 0] 61)) 54 #[.slice none 0 0, .slice none 0 0]).alloc (.cells #[.func (.func 43) #[] #[.pointer (some ⟨w.heap.size, 0, none⟩), .pointer (some ⟨w.heap.size + 1, 0, none⟩)]] 95)
  have rD := Row.new (((w.alloc (.cells #[.slice p n c, .int .i64 0, .slice none 0 0, .slice none 0 0, .int .i64 0] 61)).alloc (.cells #[.slice q m d, .int .i64 0, .slice none 0 0, .slice none 0 0, .int .i64 0] 61)).alloc (.cells #[.slice none 0 0, .slice none 0 0] 54)) 95 #[.func (.func 43) #[] #[.pointer (some ⟨w.heap.size, 0, none⟩), .pointer (some ⟨w.heap.size + 1, 0, none⟩)]]
  have hsz : ((((w.alloc (.cells #[.slice p n c, .int .i64 0, .slice none 0 0, .slice none 0 0, .int .i64 0] 61)).alloc (.cells #[.slice q m d, .int .i64 0, .slice none 0 0, .slice none 0 0, .int .i64 0] 61)).alloc (.cells #[.slice none 0 0, .slice none 0 0] 54)).alloc (.cells #[.func (.func 43) #[] #[.pointer (some ⟨w.heap.size, 0, none⟩), .pointer (some ⟨w.heap.size + 1, 0, none⟩)]] 95)).heap.size = w.heap.size + 4 := by simp
  simp only [World.size_alloc] at rB rC rD
  generalize hgW : (((w.alloc _).alloc _).alloc _).alloc _ = W4 at *
  clear hgW
  have hx4 := hx.later hb4
  have hy4 := hy.later hb4
  refine (first_same _ W4 (framed [word 8, X]) (fun W hk => pairs1_none 8 _ _ _ W p q n m c d X X (hk.cell (p := ⟨w.heap.size + 1 + 1 + 1, 0, none⟩) (by simp; omega) (rD.cell 0))
    (hk.cell (p := ⟨w.heap.size, 0, none⟩) (by simp; omega) (rA.cell 0)) (hk.cell (p := ⟨w.heap.size, 2, none⟩) (by simp; omega) (rA.cell 2)) (hk.has hx4) hX
    (hk.cell (p := ⟨w.heap.size + 1, 0, none⟩) (by simp; omega) (rB.cell 0)) (hk.cell (p := ⟨w.heap.size + 1, 2, none⟩) (by simp; omega) (rB.cell 2)) (hk.has hy4) hX)).mono ?_
  rintro e w5 ⟨rfl, hk5⟩
  have qC := rC.below hk5 (by omega)
  have k0 : w5.cell? ⟨w.heap.size + 1 + 1, 0, none⟩ = some (.slice none 0 0) := qC.cell 0
  have k1 : w5.cell? ⟨w.heap.size + 1 + 1, 1, none⟩ = some (.slice none 0 0) := qC.cell 1
  have f0 := qC.frozen 0
  have f1 := qC.frozen 1
  clear rA rB rC rD hx4 hy4 hx hy
  go_wp2_with fail
  refine bodyPost_ret (v := .tuple #[.agg #[.slice none 0 0, .slice none 0 0], .int .i64 290]) (results_row_tmp Tryz.results14 _ _ _ _ _ _ rfl ((qC.store 0 _).store 1 _) clash_desc rfl clash_size) rfl ⟨rfl, ?_⟩
  refine (hb4.trans (hk5.mono (by omega))).trans ?_
  exact ((Below.refl w.heap.size w5).setCell (p := ⟨w.heap.size + 1 + 1, 0, none⟩) (by simp; omega) _).setCell (p := ⟨w.heap.size + 1 + 1, 1, none⟩) (by simp; omega) _

theorem has_one (w : World) (t : TypeId) : Has (w.alloc (.cells #[.int .u8 1] t)) (.slice (some ⟨w.heap.size, 0, none⟩) 1 1) (([1] : List UInt8).map Sha.bv) :=
  has_new w t [.int .u8 1] 1 (Nat.le_refl _)

set_option maxRecDepth 100000 in
set_option maxHeartbeats 1000000 in
theorem lives_true (w : World) : Calls Tryz.prog 6 #[] w fun e w' => e = .returned (.bool true) ∧ Below w.heap.size w w' := by
  go_enter Tryz.func6, Tryz.ntmps6
  go_wp2_with fail
  have h1 := (has_one w 5).later ((Below.refl _ (w.alloc (.cells #[.int .u8 1] 5))).alloc (Nat.le_refl _) (.cells #[.int .u8 1] 5))
  have h2 := has_one (w.alloc (.cells #[.int .u8 1] 5)) 5
  simp only [World.size_alloc] at h2
  refine (of_same _ _ 1 1 1 1 [1] _ h1 h2 (by simp)).mono ?_
  rintro e w1 ⟨rfl, hk1⟩
  have hkk : Below w.heap.size w w1 := (((Below.refl w.heap.size w).alloc (Nat.le_refl _) _).alloc (by simp) _).trans (hk1.mono (by simp; omega))
  clear h1 h2 hk1
  go_wp2_with fail
  have r1 := Row.new w1 54 #[.slice none 0 0, .slice none 0 0]
  have hb1 := (Below.refl w1.heap.size w1).alloc (Nat.le_refl _) (.cells #[.slice none 0 0, .slice none 0 0] 54)
  refine (findShare_lit _).mono ?_
  rintro e w2 ⟨rfl, hb2⟩
  have r2 := r1.below hb2 (by simp)
  have hk2 : Below w.heap.size w w2 := hkk.trans ((hb1.trans (hb2.mono (by simp))).mono hkk.size)
  have hlt : w1.heap.size < w2.heap.size := by have := hb2.size; simp at this; omega
  clear r1 hb1 hb2 hkk
  go_wp2_with fail
  have h1 := (has_one (w2.alloc (.cells #[.slice none 0 0, .slice none 0 0] 54)) 5).later ((Below.refl _ ((w2.alloc (.cells #[.slice none 0 0, .slice none 0 0] 54)).alloc (.cells #[.int .u8 1] 5))).alloc (Nat.le_refl _) (.cells #[.int .u8 1] 5))
  have h2 := has_one ((w2.alloc (.cells #[.slice none 0 0, .slice none 0 0] 54)).alloc (.cells #[.int .u8 1] 5)) 5
  have r3 := ((r2.alloc (.cells #[.slice none 0 0, .slice none 0 0] 54)).alloc (.cells #[.int .u8 1] 5)).alloc (.cells #[.int .u8 1] 5)
  have r4 := ((Row.new w2 54 #[.slice none 0 0, .slice none 0 0]).alloc (.cells #[.int .u8 1] 5)).alloc (.cells #[.int .u8 1] 5)
  have hb3 := (((Below.refl w2.heap.size w2).alloc (Nat.le_refl _) (.cells #[.slice none 0 0, .slice none 0 0] 54)).alloc (by simp) (.cells #[.int .u8 1] 5)).alloc (by simp; omega) (.cells #[.int .u8 1] 5)
  simp only [World.size_alloc] at h1 h2
  have hsz : (((w2.alloc (.cells #[.slice none 0 0, .slice none 0 0] 54)).alloc (.cells #[.int .u8 1] 5)).alloc (.cells #[.int .u8 1] 5)).heap.size = w2.heap.size + 3 := by simp
  generalize hgW : ((w2.alloc _).alloc _).alloc _ = W4 at *
  clear hgW
  refine (proves_same _ _ 1 1 1 1 [1] W4 h1 h2).mono ?_
  rintro e w5 ⟨rfl, hb5⟩
  have r5 := r3.below hb5 (by omega)
  have r6 := r4.below hb5 (by omega)
  have hk5 : Below w.heap.size w w5 := (hk2.trans (hb3.mono hk2.size)).trans (hb5.mono (by have := hk2.size; omega))
  have k0 : w5.cell? ⟨w1.heap.size, 0, none⟩ = some (.slice none 0 0) := r5.cell 0
  have k1 : w5.cell? ⟨w2.heap.size, 0, none⟩ = some (.slice none 0 0) := r6.cell 0
  clear r2 r3 r4 r5 r6 h1 h2 hb3 hb5 hk2
  go_wp2_with fail
  go_ret
  exact ⟨rfl, hk5⟩

set_option maxRecDepth 100000 in
theorem clashNames_true (w : World) : Calls Tryz.prog 5 #[] w fun e w' => e = .returned (.bool true) ∧ Below w.heap.size w w' := by
  go_enter Tryz.func5, Tryz.ntmps5
  go_wp2_with fail
  refine (lives_true w).mono ?_
  rintro e w1 ⟨rfl, hk⟩
  go_wp2_with fail
  go_ret
  exact ⟨rfl, hk⟩
end Go.Proofs.YtafichokaofngaaGreatDoor
