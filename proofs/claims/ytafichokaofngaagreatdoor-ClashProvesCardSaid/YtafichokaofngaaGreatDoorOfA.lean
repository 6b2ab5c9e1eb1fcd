/- WALK: clash.Of of two reads without segments: its iterator; conditions: the Ueb bytes are at most 2^47 - 4096. -/
import Derived.Test.YtafichokaofngaaGreatDoorTags
import Derived.Test.YtafichokaofngaaGreatDoorProves0
namespace Go.Proofs.YtafichokaofngaaGreatDoor
open Go.RowKit Go.Shelf

theorem pairs_at (k : Nat) (lb : Array Value) (w : World) : Calls Tryz.prog 37 #[.func (.func k) #[] lb] w fun e w' =>
    e = .returned (.func (.func 88) #[] #[.pointer (some ⟨w.heap.size, 0, none⟩)]) ∧ w' = w.alloc (.cells #[.func (.func k) #[] lb] 95) := by
  go_enter Tryz.func37, Tryz.ntmps37
  go_wp2
  go_ret
  exact ⟨rfl, rfl⟩

set_option maxRecDepth 100000 in
set_option maxHeartbeats 1000000 in
/-- the function that hands pairs of two reads on, where both have no segments -/
theorem of1_none (l : Nat) (J Jx : Unit → World → Prop) (B0 : Nat) (hJ : AbidesFrom B0 J) (bx ba bb : Nat) (W : World) (p q : Option Addr) (n m c d : Nat) (X Y : List UInt8)
    (hbx : W.cell? ⟨bx, 0, none⟩ = some (.func (.yield l) #[] #[]))
    (ha0 : W.cell? ⟨ba, 0, none⟩ = some (.slice p n c)) (ha2 : W.cell? ⟨ba, 2, none⟩ = some (.slice none 0 0)) (hx : Has W (.slice p n c) (X.map Sha.bv)) (hX : X.length ≤ 140737488351232)
    (hb0 : W.cell? ⟨bb, 0, none⟩ = some (.slice q m d)) (hb2 : W.cell? ⟨bb, 2, none⟩ = some (.slice none 0 0)) (hy : Has W (.slice q m d) (Y.map Sha.bv)) (hYl : Y.length ≤ 140737488351232)
    (hY : ∀ k u v W1, KC W.heap.size W W1 → J () W1 → Has W1 u ((framed [word 8, X]).map Sha.bv) → Has W1 v ((framed [word 8, Y]).map Sha.bv) → YieldAt Fence.wide k Tryz.prog l #[.agg #[u, v]] W1 fun e W' =>
      (e = .returned (.bool true) ∧ J () W' ∧ KC W1.heap.size W1 W') ∨ (e = .returned (.bool false) ∧ Jx () W')) (h0 : J () W) :
    Calls Tryz.prog 43 #[.func (.func 89) #[] #[.pointer (some ⟨bx, 0, none⟩)], .pointer (some ⟨ba, 0, none⟩), .pointer (some ⟨bb, 0, none⟩)] W fun e W' =>
      (∃ v, e = .returned v) ∧ ((J () W' ∧ KC W.heap.size W W') ∨ Jx () W') := by
  have HY := Lib.hid hY
  clear hY
  have l1 := block_lt_of_cell hbx
  have l2 := block_lt_of_cell ha0
  have l3 := block_lt_of_cell hb0
  go_enter Tryz.func43, Tryz.ntmps43
  go_wp2_with fail
  have rA := (Row.new W 22 #[.slice p n c]).alloc (.cells #[.slice q m d] 22)
  have rB := Row.new (W.alloc (.cells #[.slice p n c] 22)) 22 #[.slice q m d]
  have hW2 : Below W.heap.size W ((W.alloc (.cells #[.slice p n c] 22)).alloc (.cells #[.slice q m d] 22)) := ((Below.refl _ W).alloc (Nat.le_refl _) _).alloc (by simp) _
  have hsz : ((W.alloc (.cells #[.slice p n c] 22)).alloc (.cells #[.slice q m d] 22)).heap.size = W.heap.size + 2 := by simp
  simp only [World.size_alloc] at rB
  generalize hgW : (W.alloc (.cells #[.slice p n c] 22)).alloc (.cells #[.slice q m d] 22) = W2 at *
  clear hgW
  have kW2 : KC W.heap.size W W2 := KC.of_below hW2
  have cA : W2.cell? ⟨W.heap.size, 0, none⟩ = some (.slice p n c) := rA.cell 0
  have cB : W2.cell? ⟨W.heap.size + 1, 0, none⟩ = some (.slice q m d) := rB.cell 0
  have hx2 : Has W2 (.slice p n c) (X.map Sha.bv) := hx.later hW2
  have hy2 : Has W2 (.slice q m d) (Y.map Sha.bv) := hy.later hW2
  refine (giver l J Jx B0 hJ bx W2 (kW2.cell l1 hbx) (X := framed [word 8, X]) (Y := framed [word 8, Y])
    (fun W' hk => tag8_one W.heap.size 1 p n c X W' (Nat.le_refl _) hX (hk.cell (by simp; omega) cA) (hk.has hx2))
    (fun W' hk => tag8_one (W.heap.size + 1) 1 q m d Y W' (Nat.le_refl _) hYl (hk.cell (by simp; omega) cB) (hk.has hy2))
    (fun k u v W1 hk hj hu hv => HY.out k u v W1 (kW2.trans hk.all) hj hu hv) (abides_below hJ h0 hW2)).mono ?_
  rintro e w3 (⟨rfl, hj3, hk3⟩ | ⟨rfl, hx3⟩)
  · have hk : KC W.heap.size W w3 := kW2.trans hk3.all
    have ca0 := hk.cell l2 ha0
    have ca2 := hk.cell l2 ha2
    have cb0 := hk.cell l3 hb0
    have cb2 := hk.cell l3 hb2
    clear rA rB hx2 hy2 cA cB
    go_wp2_with fail
    go_rounds 1
    go_wp2_with fail
    go_end0
    exact ⟨⟨_, rfl⟩, .inl ⟨hj3, hk⟩⟩
  · go_wp2_with fail
    refine bodyPost_ret (results_none rfl _ _ _) rfl ?_
    exact ⟨⟨_, rfl⟩, .inr hx3⟩

set_option maxRecDepth 100000 in
set_option maxHeartbeats 1000000 in
/-- the iterator of two reads without segments: one pair -/
theorem pairs1_none (n bp ba bb : Nat) (w : World) (p q : Option Addr) (n1 m1 c d : Nat) (X Y : List UInt8)
    (hbp : w.cell? ⟨bp, 0, none⟩ = some (.func (.func 43) #[] #[.pointer (some ⟨ba, 0, none⟩), .pointer (some ⟨bb, 0, none⟩)]))
    (ha0 : w.cell? ⟨ba, 0, none⟩ = some (.slice p n1 c)) (ha2 : w.cell? ⟨ba, 2, none⟩ = some (.slice none 0 0)) (hx : Has w (.slice p n1 c) (X.map Sha.bv)) (hX : X.length ≤ 140737488351232)
    (hb0 : w.cell? ⟨bb, 0, none⟩ = some (.slice q m1 d)) (hb2 : w.cell? ⟨bb, 2, none⟩ = some (.slice none 0 0)) (hy : Has w (.slice q m1 d) (Y.map Sha.bv)) (hYl : Y.length ≤ 140737488351232) :
    SeqOk Fence.wide n Tryz.prog 88 #[.pointer (some ⟨bp, 0, none⟩)] (fun x : Value × Value => #[.agg #[x.1, x.2]])
      (fun W x => Has W x.1 ((framed [word 8, X]).map Sha.bv) ∧ Has W x.2 ((framed [word 8, Y]).map Sha.bv)) w := by
  intro l J Jx W hW hJ _ hY h0
  have l1 := block_lt_of_cell hbp
  have l2 := block_lt_of_cell ha0
  have l3 := block_lt_of_cell hb0
  have cb2 := hW.cell (p := ⟨bb, 2, none⟩) l3 hb2
  have cp := hW.cell l1 hbp
  have ca0 := hW.cell l2 ha0
  have ca2 := hW.cell (p := ⟨ba, 2, none⟩) l2 ha2
  have cb0 := hW.cell l3 hb0
  have hxW := hW.has hx
  have hyW := hW.has hy
  have lbp := block_lt_of_cell cp
  have HY := Lib.hid hY
  clear hY hx hy ha0 ha2 hb0 hb2 hbp l1 l2 l3 hW
  refine callsIn_wide.2 ?_
  go_enter Tryz.func88, Tryz.ntmps88
  go_wp2_with fail
  have hb := (Below.refl W.heap.size W).alloc (Nat.le_refl _) (.cells #[.func (.yield l) #[] #[]] 58)
  have hk := KC.of_below hb
  have cbx := (Row.new W 58 #[.func (.yield l) #[] #[]]).cell 0
  refine (of1_none l J Jx W.heap.size hJ W.heap.size ba bb _ p q n1 m1 c d X Y cbx (cell_al _ ca0) (cell_al _ ca2) (hxW.later hb) hX (cell_al _ cb0) (cell_al _ cb2) (hyW.later hb) hYl
    (fun k u v W1 h1 hj hu hv => YieldAt.anyDepth rfl k (HY.out (u, v) W1 (hk.trans h1.all) hj ⟨hu, hv⟩)) (abides_below hJ h0 hb)).mono ?_
  rintro e w3 ⟨⟨v, rfl⟩, hd⟩
  go_wp2_with fail
  go_end0
  refine ⟨⟨_, rfl⟩, hd.elim (fun hd => .inl ⟨hd.1, hk.trans hd.2.all⟩) .inr⟩
end Go.Proofs.YtafichokaofngaaGreatDoor
