/- WALK: the function that hands a pair on: it makes the tagged bytes of both and calls yield; conditions: the contracts of tag.Bytes at both. -/
import Derived.Test.YtafichokaofngaaGreatDoorSeq
import Derived.Test.YtafichokaofngaaGreatDoorBytes
namespace Go.Proofs.YtafichokaofngaaGreatDoor
open Go.RowKit Go.Shelf
attribute [local go_sem] Oper.semAt_some

theorem Has.slice {w : World} {v : Value} {xs : List Value} (h : Has w v xs) : ∃ a n c, v = .slice a n c := by
  rcases h with ⟨rfl, _⟩ | ⟨a, c, rfl, _, _⟩
  · exact ⟨_, _, _, rfl⟩
  · exact ⟨_, _, _, rfl⟩

set_option maxRecDepth 100000 in
set_option maxHeartbeats 1000000 in
theorem giver {t : Nat} {v1 v2 : Value} {X Y : List UInt8} (l : Nat) (J Jx : Unit → World → Prop) (B0 : Nat) (hJ : AbidesFrom B0 J) (bx : Nat) (W : World) (hbx : W.cell? ⟨bx, 0, none⟩ = some (.func (.yield l) #[] #[]))
    (h1 : ∀ W', KC W.heap.size W W' → Calls Tryz.prog 90 #[.int .u8 t, v1] W' fun e w' => ∃ v, e = .returned (.tuple #[v, .int .i64 0]) ∧ w'.ownsRow W'.heap.size 5 1 v X.length (X.map Sha.bv) ∧ Below W'.heap.size W' w')
    (h2 : ∀ W', KC W.heap.size W W' → Calls Tryz.prog 90 #[.int .u8 t, v2] W' fun e w' => ∃ v, e = .returned (.tuple #[v, .int .i64 0]) ∧ w'.ownsRow W'.heap.size 5 1 v Y.length (Y.map Sha.bv) ∧ Below W'.heap.size W' w')
    (hY : ∀ m p q W1, KC W.heap.size W W1 → J () W1 → Has W1 p (X.map Sha.bv) → Has W1 q (Y.map Sha.bv) → YieldAt Fence.wide m Tryz.prog l #[.agg #[p, q]] W1 fun e W' =>
      (e = .returned (.bool true) ∧ J () W' ∧ KC W1.heap.size W1 W') ∨ (e = .returned (.bool false) ∧ Jx () W')) (h0 : J () W) :
    Calls Tryz.prog 89 #[.int .u8 t, v1, v2, .pointer (some ⟨bx, 0, none⟩)] W fun e W' =>
      (e = .returned (.bool true) ∧ J () W' ∧ KC W.heap.size W W') ∨ (e = .returned (.bool false) ∧ Jx () W') := by
  have H1 := Lib.hid h1
  have H2 := Lib.hid h2
  have HY := Lib.hid hY
  have hlt : bx < W.heap.size := block_lt_of_cell hbx
  clear h1 h2 hY
  refine (callsIn_wide (n := 9)).1 ?_
  refine callsIn_of_wp Tryz.func89 rfl trivial ?_ rfl
  simp only [Tryz.ntmps89, List.size_toArray, List.length_cons, List.length_nil, Nat.reduceAdd, Nat.reduceSub, Array.replicate_succ, Array.replicate_zero, List.push_toArray, List.append_toArray, List.nil_append, List.cons_append]
  gi_wp2_with fail
  refine ⟨trivial, (callsIn_wide.2 (H1.out W (KC.refl _ _))).mono ?_⟩
  rintro e w1 ⟨p, rfl, hown1, hb1⟩
  have hx1 : Has w1 p (X.map Sha.bv) := Has.of_owns hown1
  obtain ⟨a1, n1, c1, rfl⟩ := hx1.slice
  gi_wp2_with fail
  refine ⟨trivial, (callsIn_wide.2 (H2.out w1 (KC.of_below hb1))).mono ?_⟩
  rintro e w2 ⟨q, rfl, hown2, hb2⟩
  have hx2 : Has w2 q (Y.map Sha.bv) := Has.of_owns hown2
  obtain ⟨a2, n2, c2, rfl⟩ := hx2.slice
  have hkc2 : KC W.heap.size W w2 := (KC.of_below hb1).trans (KC.of_below (hb2.mono hb1.size))
  have hj2 : J () w2 := abides_below hJ (abides_below hJ h0 hb1) hb2
  have hbx2 : w2.cell? ⟨bx, 0, none⟩ = some (.func (.yield l) #[] #[]) := hkc2.cell hlt hbx
  have hx12 : Has w2 _ (X.map Sha.bv) := hx1.later hb2
  obtain ⟨fn, tmps, assign, body, hy, hR⟩ := HY.out 8 _ _ w2 hkc2 hj2 hx12 hx2
  clear hown1 hown2
  gi_wp2_with fail
  refine hR.mono ?_
  rintro e w3 (⟨rfl, hj3, hk3⟩ | ⟨rfl, hx3⟩)
  · gi_wp2
    go_ret
    exact .inl ⟨rfl, hj3, hkc2.trans hk3.all⟩
  · gi_wp2
    go_ret
    exact .inr ⟨rfl, hx3⟩
end Go.Proofs.YtafichokaofngaaGreatDoor
