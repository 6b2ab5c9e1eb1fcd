/- WALK: clash.Of in general: a clash, or none; conditions: each part is at most 2^47 - 4096 bytes. -/
import Derived.Test.YtafichokaofngaaGreatDoorFirst
namespace Go.Proofs.YtafichokaofngaaGreatDoor
open Go.RowKit Go.Shelf

set_option maxRecDepth 100000 in
set_option maxHeartbeats 1000000 in
/-- the iterator of two reads -/
theorem pairs1_any (n bp ba bb : Nat) (w : World) (p q : Option Addr) (n1 m1 c d : Nat) (X Y : List UInt8) (pa pb : Option Addr) (nA nB cA cB : Nat) (lsA lsB : List (List UInt8)) (sA : Segs w pa nA lsA) (lA : ∀ l ∈ lsA, l.length ≤ 140737488351232) (hnA : nA ≤ 140737488355328) (sB : Segs w pb nB lsB) (lB : ∀ l ∈ lsB, l.length ≤ 140737488351232) (hnB : nB ≤ 140737488355328)
    (hbp : w.cell? ⟨bp, 0, none⟩ = some (.func (.func 43) #[] #[.pointer (some ⟨ba, 0, none⟩), .pointer (some ⟨bb, 0, none⟩)]))
    (ha0 : w.cell? ⟨ba, 0, none⟩ = some (.slice p n1 c)) (ha2 : w.cell? ⟨ba, 2, none⟩ = some (.slice pa nA cA)) (hx : Has w (.slice p n1 c) (X.map Sha.bv)) (hX : X.length ≤ 140737488351232)
    (hb0 : w.cell? ⟨bb, 0, none⟩ = some (.slice q m1 d)) (hb2 : w.cell? ⟨bb, 2, none⟩ = some (.slice pb nB cB)) (hy : Has w (.slice q m1 d) (Y.map Sha.bv)) (hYl : Y.length ≤ 140737488351232) :
    SeqOk Fence.wide n Tryz.prog 88 #[.pointer (some ⟨bp, 0, none⟩)] (fun x : Value × Value => #[.agg #[x.1, x.2]])
      OkV w := by
  intro l J Jx W hW hJ _ hY h0
  have l1 := block_lt_of_cell hbp
  have l2 := block_lt_of_cell ha0
  have l3 := block_lt_of_cell hb0
  have cb2 := hW.cell (p := ⟨bb, 2, none⟩) l3 hb2
  have cp := hW.cell l1 hbp
  have ca0 := hW.cell l2 ha0
  have ca2 := hW.cell (p := ⟨ba, 2, none⟩) l2 ha2
  have cb0 := hW.cell l3 hb0
  have hxW := hW.has hx
  have sAW := sA.kc hW
  have sBW := sB.kc hW
  have hyW := hW.has hy
  have lbp := block_lt_of_cell cp
  have HY := Lib.hid hY
  clear hY hx hy ha0 ha2 hb0 hb2 hbp l1 l2 l3 hW
  refine callsIn_wide.2 ?_
  go_enter Tryz.func88, Tryz.ntmps88
  go_wp2_with fail
  have hb := (Below.refl W.heap.size W).alloc (Nat.le_refl _) (.cells #[.func (.yield l) #[] #[]] 58)
  have hk := KC.of_below hb
  have cbx := (Row.new W 58 #[.func (.yield l) #[] #[]]).cell 0
  refine (of1_any l J Jx W.heap.size hJ W.heap.size ba bb _ p q n1 m1 c d X Y pa pb nA nB cA cB lsA lsB cbx (cell_al _ ca0) (cell_al _ ca2) (hxW.later hb) hX (sAW.kc hk) lA hnA (cell_al _ cb0) (cell_al _ cb2) (hyW.later hb) hYl (sBW.kc hk) lB hnB
    (fun k u v W1 h1 hj hv => YieldAt.anyDepth rfl k (HY.out (u, v) W1 (hk.trans h1.all) hj hv)) (abides_below hJ h0 hb)).mono ?_
  rintro e w3 ⟨⟨v, rfl⟩, hd⟩
  go_wp2_with fail
  go_end0
  refine ⟨⟨_, rfl⟩, hd.elim (fun hd => .inl ⟨hd.1, hk.trans hd.2.all⟩) .inr⟩

abbrev gotV (p : Option Addr) (n c : Nat) (f : Int) (pa : Option Addr) (nA cA : Nat) (pf : Option Addr) (nf cf : Nat) (r : Int) : Array Value := #[.slice p n c, .int .i64 f, .slice pa nA cA, .slice pf nf cf, .int .i64 r]

set_option maxRecDepth 100000 in
set_option maxHeartbeats 1000000 in
theorem of_any (p q : Option Addr) (n m c d : Nat) (X Y : List UInt8) (pa pb pf pg : Option Addr) (nA nB cA cB nf cf ng cg : Nat) (fa fb ra rb : Int) (lsA lsB : List (List UInt8)) (w : World)
    (hx : Has w (.slice p n c) (X.map Sha.bv)) (hX : X.length ≤ 140737488351232) (sA : Segs w pa nA lsA) (lA : ∀ l ∈ lsA, l.length ≤ 140737488351232) (hnA : nA ≤ 140737488355328)
    (hy : Has w (.slice q m d) (Y.map Sha.bv)) (hYl : Y.length ≤ 140737488351232) (sB : Segs w pb nB lsB) (lB : ∀ l ∈ lsB, l.length ≤ 140737488351232) (hnB : nB ≤ 140737488355328) :
    Calls Tryz.prog 14 #[.agg (gotV p n c fa pa nA cA pf nf cf ra), .agg (gotV q m d fb pb nB cB pg ng cg rb)] w (FirstPost w) := by
  go_enter Tryz.func14, Tryz.ntmps14
  go_wp2_with fail
  refine (pairs_at _ _ _).mono ?_
  rintro e w1 ⟨rfl, rfl⟩
  go_wp2_with fail
  have hb4 := ((((Below.refl w.heap.size w).alloc (Nat.le_refl _) (.cells (gotV p n c fa pa nA cA pf nf cf ra) 61)).alloc (by simp) (.cells (gotV q m d fb pb nB cB pg ng cg rb) 61)).alloc (by simp; omega) (.cells #[.slice none 0 0, .slice none 0 0] 54)).alloc (by simp; omega) (.cells #[.func (.func 43) #[] #[.pointer (some ⟨w.heap.size, 0, none⟩), .pointer (some ⟨w.heap.size + 1, 0, none⟩)]] 95)
  have rA := (((Row.new w 61 (gotV p n c fa pa nA cA pf nf cf ra)).alloc (.cells (gotV q m d fb pb nB cB pg ng cg rb) 61)).alloc (.cells #[.slice none 0 0, .slice none 0 0] 54)).alloc (.cells #[.func (.func 43) #[] #[.pointer (some ⟨w.heap.size, 0, none⟩), .pointer (some ⟨w.heap.size + 1, 0, none⟩)]] 95)
  have rB := ((Row.new (w.alloc (.cells (gotV p n c fa pa nA cA pf nf cf ra) 61)) 61 (gotV q m d fb pb nB cB pg ng cg rb)).alloc (.cells #[.slice none 0 0, .slice none 0 0] 54)).alloc (.cells #[.func (.func 43) #[] #[.pointer (some ⟨w.heap.size, 0, none⟩), .pointer (some ⟨w.heap.size + 1, 0, none⟩)]] 95)
  have rC := (Row.new ((w.alloc (.cells (gotV p n c fa pa nA cA pf nf cf ra) 61)).alloc (.cells (gotV q m d fb pb nB cB pg ng cg rb) 61)) 54 #[.slice none 0 0, .slice none 0 0]).alloc (.cells #[.func (.func 43) #[] #[.pointer (some ⟨w.heap.size, 0, none⟩), .pointer (some ⟨w.heap.size + 1, 0, none⟩)]] 95)
  have rD := Row.new (((w.alloc (.cells (gotV p n c fa pa nA cA pf nf cf ra) 61)).alloc (.cells (gotV q m d fb pb nB cB pg ng cg rb) 61)).alloc (.cells #[.slice none 0 0, .slice none 0 0] 54)) 95 #[.func (.func 43) #[] #[.pointer (some ⟨w.heap.size, 0, none⟩), .pointer (some ⟨w.heap.size + 1, 0, none⟩)]]
  have hsz : ((((w.alloc (.cells (gotV p n c fa pa nA cA pf nf cf ra) 61)).alloc (.cells (gotV q m d fb pb nB cB pg ng cg rb) 61)).alloc (.cells #[.slice none 0 0, .slice none 0 0] 54)).alloc (.cells #[.func (.func 43) #[] #[.pointer (some ⟨w.heap.size, 0, none⟩), .pointer (some ⟨w.heap.size + 1, 0, none⟩)]] 95)).heap.size = w.heap.size + 4 := by simp
  simp only [World.size_alloc] at rB rC rD
  generalize hgW : (((w.alloc _).alloc _).alloc _).alloc _ = W4 at *
  clear hgW
  have hk4 := KC.of_below hb4
  have hx4 := hx.later hb4
  have hy4 := hy.later hb4
  have sA4 := sA.kc hk4
  have sB4 := sB.kc hk4
  refine (first_any _ W4 (fun W hk => pairs1_any 8 _ _ _ W p q n m c d X Y pa pb nA nB cA cB lsA lsB (sA4.kc hk) lA hnA (sB4.kc hk) lB hnB (hk.cell (p := ⟨w.heap.size + 1 + 1 + 1, 0, none⟩) (by simp; omega) (rD.cell 0))
    (hk.cell (p := ⟨w.heap.size, 0, none⟩) (by simp; omega) (rA.cell 0)) (hk.cell (p := ⟨w.heap.size, 2, none⟩) (by simp; omega) (rA.cell 2)) (hk.has hx4) hX
    (hk.cell (p := ⟨w.heap.size + 1, 0, none⟩) (by simp; omega) (rB.cell 0)) (hk.cell (p := ⟨w.heap.size + 1, 2, none⟩) (by simp; omega) (rB.cell 2)) (hk.has hy4) hYl)).mono ?_
  rintro e w5 ⟨hk5, hcase⟩
  have qC := rC.below hk5 (by omega)
  have k0 : w5.cell? ⟨w.heap.size + 1 + 1, 0, none⟩ = some (.slice none 0 0) := qC.cell 0
  have k1 : w5.cell? ⟨w.heap.size + 1 + 1, 1, none⟩ = some (.slice none 0 0) := qC.cell 1
  have f0 := qC.frozen 0
  have f1 := qC.frozen 1
  clear rA rB rC rD hx4 hy4 hx hy sA sB sA4 sB4 hk4
  rcases hcase with ⟨v1, v2, rfl, hcl⟩ | rfl
  · obtain ⟨o1, o2, X1, Y1, hX1, hY1, g1, g2, hne, hdd⟩ := hcl
    obtain ⟨a1, n1, c1, rfl⟩ := g1.slice
    obtain ⟨a2, n2, c2, rfl⟩ := g2.slice
    have y1 := Has.setCell_other (Has.setCell_other g1 ⟨w.heap.size + 1 + 1, 0, none⟩ (.slice a1 n1 c1) (fun k hk => by have := o1 k hk; simp; omega)) ⟨w.heap.size + 1 + 1, 1, none⟩ (.slice a2 n2 c2) (fun k hk => by have := o1 k hk; simp; omega)
    have y2 := Has.setCell_other (Has.setCell_other g2 ⟨w.heap.size + 1 + 1, 0, none⟩ (.slice a1 n1 c1) (fun k hk => by have := o2 k hk; simp; omega)) ⟨w.heap.size + 1 + 1, 1, none⟩ (.slice a2 n2 c2) (fun k hk => by have := o2 k hk; simp; omega)
    have HC := Lib.hid (show Clashing w.heap.size ((w5.setCell ⟨w.heap.size + 1 + 1, 0, none⟩ (.slice a1 n1 c1)).setCell ⟨w.heap.size + 1 + 1, 1, none⟩ (.slice a2 n2 c2)) (.slice a1 n1 c1) (.slice a2 n2 c2) from
      ⟨fun k hk => by have := o1 k hk; omega, fun k hk => by have := o2 k hk; omega, X1, Y1, hX1, hY1, y1, y2, hne, hdd⟩)
    clear hne hdd g1 g2 y1 y2 o1 o2
    go_wp2_with fail
    refine bodyPost_ret (v := .tuple #[.agg #[.slice a1 n1 c1, .slice a2 n2 c2], .int .i64 0]) (results_row_tmp Tryz.results14 _ _ _ _ _ _ rfl ((qC.store 0 _).store 1 _) clash_desc rfl clash_size) rfl ⟨?_, .inl ⟨_, _, rfl, HC.out⟩⟩
    refine (hb4.trans (hk5.mono (by omega))).trans ?_
    exact ((Below.refl w.heap.size w5).setCell (p := ⟨w.heap.size + 1 + 1, 0, none⟩) (by simp; omega) _).setCell (p := ⟨w.heap.size + 1 + 1, 1, none⟩) (by simp; omega) _
  · go_wp2_with fail
    refine bodyPost_ret (v := .tuple #[.agg #[.slice none 0 0, .slice none 0 0], .int .i64 290]) (results_row_tmp Tryz.results14 _ _ _ _ _ _ rfl ((qC.store 0 _).store 1 _) clash_desc rfl clash_size) rfl ⟨?_, .inr rfl⟩
    refine (hb4.trans (hk5.mono (by omega))).trans ?_
    exact ((Below.refl w.heap.size w5).setCell (p := ⟨w.heap.size + 1 + 1, 0, none⟩) (by simp; omega) _).setCell (p := ⟨w.heap.size + 1 + 1, 1, none⟩) (by simp; omega) _
end Go.Proofs.YtafichokaofngaaGreatDoor
