/- WALK: clash.inner: it hands pairs on till no more are wanted; conditions: both trees have as many nodes. -/
import Derived.Test.YtafichokaofngaaGreatDoorGrown
import Derived.Test.YtafichokaofngaaGreatDoorGrow
namespace Go.Proofs.YtafichokaofngaaGreatDoor
open Go.RowKit Go.Shelf
attribute [local go_sem] Oper.semAt_some stepV stepVUpon

/-- what is handed to a round: two slices of bytes, not too long -/
def OkV (W : World) (x : Value × Value) : Prop := ∃ X Y : List UInt8, X.length ≤ 140737488355000 ∧ Y.length ≤ 140737488355000 ∧ Has W x.1 (X.map Sha.bv) ∧ Has W x.2 (Y.map Sha.bv)

theorem has_part {w : World} {g : Nat} {t : TypeId} {Z : List UInt8} (h : Row w g t (blk Z)) (o n c : Nat) (hn : o + n ≤ Z.length) (hc : n ≤ c) : Has w (.slice (some ⟨g, o, none⟩) n c) (((Z.drop o).take n).map Sha.bv) := by
  have hl : ((Z.drop o).take n).length = n := by simp; omega
  refine .inr ⟨⟨g, o, none⟩, c, by rw [List.length_map, hl], by rw [List.length_map, hl]; exact hc, fun j u hu => ?_⟩
  exact h.part o n j u (by simpa [blk] using hu)

set_option maxRecDepth 100000 in
set_option maxHeartbeats 8000000 in
theorem inner_at (l : Nat) (J Jx : Unit → World → Prop) (B0 : Nat) (hJ : AbidesFrom B0 J) (bx ga gb m : Nat) (ZA ZB : List UInt8) (W : World) (hbx : W.cell? ⟨bx, 0, none⟩ = some (.func (.yield l) #[] #[]))
    (rA : Row W ga 29 (blk ZA)) (hA : ZA.length = 32 * m) (rB : Row W gb 29 (blk ZB)) (hB : ZB.length = 32 * m) (hm : m ≤ 1100)
    (hY : ∀ k u v W1, KC W.heap.size W W1 → J () W1 → OkV W1 (u, v) → YieldAt Fence.wide k Tryz.prog l #[.agg #[u, v]] W1 fun e W' =>
      (e = .returned (.bool true) ∧ J () W' ∧ KC W1.heap.size W1 W') ∨ (e = .returned (.bool false) ∧ Jx () W')) (h0 : J () W) :
    Calls Tryz.prog 44 #[.slice (some ⟨ga, 0, none⟩) m m, .slice (some ⟨gb, 0, none⟩) m m, .func (.func 89) #[] #[.pointer (some ⟨bx, 0, none⟩)]] W fun e W' =>
      (e = .returned (.bool true) ∧ J () W' ∧ KC W.heap.size W W') ∨ (e = .returned (.bool false) ∧ Jx () W') := by
  have HA := Lib.hid hA
  have HB := Lib.hid hB
  have HY := Lib.hid hY
  have HJ := Lib.hid hJ
  have HBX := Lib.hid hbx
  clear hA hB hY hJ hbx
  go_enter Tryz.func44, Tryz.ntmps44
  go_wp2_with fail
  go_loopw [7] (fun v wr => ∃ x : Nat, 1 ≤ x ∧ x ≤ m + 1 ∧ v = .int .i64 x ∧ J () wr ∧ KC W.heap.size W wr) (fun v _ => m + 1 - (intOf v).toNat)
  case atStart => exact ⟨1, Nat.le_refl _, by omega, rfl, h0, KC.refl _ _⟩
  case round =>
    obtain ⟨x, hx1, hx2, rfl, hj, hk⟩ := hrel
    by_cases hlt : 2 * x < m
    · have qA := hk.row rA.lt rA
      have qB := hk.row rB.lt rB
      have lx := hk.cell (block_lt_of_cell HBX.out) HBX.out
      have LX := Lib.hid lx
      clear lx
      have q1 : IntKind.i64.wrap (2 * (x : Int)) = 2 * (x : Int) := IntWalk.i64_in _ (by omega)
      have q3 : IntKind.i64.wrap (2 * (x : Int) - 1) = 2 * (x : Int) - 1 := IntWalk.i64_in _ (by omega)
      have t3 : (2 * (x : Int) - 1).toNat = 2 * x - 1 := by omega
      have t4 : (2 * (x : Int)).toNat = 2 * x := by omega
      have u1 : (0 : Int) ≤ 2 * (x : Int) - 1 := by omega
      have u2 : 2 * (x : Int) - 1 < (m : Int) := by omega
      have u3 : (0 : Int) ≤ 2 * (x : Int) := by omega
      have u4 : 2 * (x : Int) < (m : Int) := by omega
      have u7 : (1 : Int) ≤ 2 * (x : Int) := by omega
      go_wp2_with fail
      refine wp_region_any (by kernel_rfl) ?_
      change wpAny _ _ _ _ _ _ _ wr.drew
      refine wpAny_takeL (i := 0) (v := ?_) rfl (by kernel_rfl) (by kernel_rfl) (by kernel_rfl) (fun _ _ _ h => h) (Or.inl ⟨by rfl, ?_⟩) ?_
      rotate_left
      · intro w
        go_simp
        try with_reducible rfl
      simp only [Act.put, List.setIfInBounds_toArray, List.set_cons_zero, List.set_cons_succ]
      refine wpAny_takeL (i := 1) (v := ?_) rfl (by kernel_rfl) (by kernel_rfl) (by kernel_rfl) (fun _ _ _ h => h) (Or.inl ⟨by rfl, ?_⟩) ?_
      rotate_left
      · intro w
        go_simp
        try with_reducible rfl
      simp only [Act.put, List.setIfInBounds_toArray, List.set_cons_zero, List.set_cons_succ]
      refine wpAny_takeL (i := 2) (v := ?_) rfl (by kernel_rfl) (by kernel_rfl) (by kernel_rfl) (fun _ _ _ h => h) (Or.inl ⟨by rfl, ?_⟩) ?_
      rotate_left
      · intro w
        go_simp
        try with_reducible rfl
      simp only [Act.put, List.setIfInBounds_toArray, List.set_cons_zero, List.set_cons_succ]
      refine wpAny_takeL (i := 3) (v := ?_) rfl (by kernel_rfl) (by kernel_rfl) (by kernel_rfl) (fun _ _ _ h => h) (Or.inl ⟨by rfl, ?_⟩) ?_
      rotate_left
      · intro w
        go_simp
        try with_reducible rfl
      simp only [Act.put, List.setIfInBounds_toArray, List.set_cons_zero, List.set_cons_succ]
      refine wpAny_takeL (i := 4) (v := ?_) rfl (by kernel_rfl) (by kernel_rfl) (by kernel_rfl) (fun _ _ _ h => h) (Or.inl ⟨by rfl, ?_⟩) ?_
      rotate_left
      · intro w
        go_simp
        try with_reducible rfl
      simp only [Act.put, List.setIfInBounds_toArray, List.set_cons_zero, List.set_cons_succ]
      refine wpAny_takeL (i := 5) (v := ?_) rfl (by kernel_rfl) (by kernel_rfl) (by kernel_rfl) (fun _ _ _ h => h) (Or.inl ⟨by rfl, ?_⟩) ?_
      rotate_left
      · intro w
        go_simp
        try with_reducible rfl
      simp only [Act.put, List.setIfInBounds_toArray, List.set_cons_zero, List.set_cons_succ]
      refine wpAny_takeL (i := 6) (v := ?_) rfl (by kernel_rfl) (by kernel_rfl) (by kernel_rfl) (fun _ _ _ h => h) (Or.inl ⟨by rfl, ?_⟩) ?_
      rotate_left
      · intro w
        go_simp
        try with_reducible rfl
      simp only [Act.put, List.setIfInBounds_toArray, List.set_cons_zero, List.set_cons_succ]
      refine wpAny_takeL (i := 7) (v := ?_) rfl (by kernel_rfl) (by kernel_rfl) (by kernel_rfl) (fun _ _ _ h => h) (Or.inl ⟨by rfl, ?_⟩) ?_
      rotate_left
      · intro w
        go_simp
        try with_reducible rfl
      simp only [Act.put, List.setIfInBounds_toArray, List.set_cons_zero, List.set_cons_succ]
      refine wpAny_takeL (i := 8) (v := ?_) rfl (by kernel_rfl) (by kernel_rfl) (by kernel_rfl) (fun _ _ _ h => h) (Or.inl ⟨by rfl, ?_⟩) ?_
      rotate_left
      · intro w
        go_simp
        try with_reducible rfl
      simp only [Act.put, List.setIfInBounds_toArray, List.set_cons_zero, List.set_cons_succ]
      refine wpAny_takeL (i := 9) (v := ?_) rfl (by kernel_rfl) (by kernel_rfl) (by kernel_rfl) (fun _ _ _ h => h) (Or.inl ⟨by rfl, ?_⟩) ?_
      rotate_left
      · intro w
        go_simp
        try with_reducible rfl
      simp only [Act.put, List.setIfInBounds_toArray, List.set_cons_zero, List.set_cons_succ]
      refine wpAny_takeL (i := 10) (v := ?_) rfl (by kernel_rfl) (by kernel_rfl) (by kernel_rfl) (fun _ _ _ h => h) (Or.inl ⟨by rfl, ?_⟩) ?_
      rotate_left
      · intro w
        go_simp
        try with_reducible rfl
      simp only [Act.put, List.setIfInBounds_toArray, List.set_cons_zero, List.set_cons_succ]
      refine wpAny_takeL (i := 11) (v := ?_) rfl (by kernel_rfl) (by kernel_rfl) (by kernel_rfl) (fun _ _ _ h => h) (Or.inl ⟨by rfl, ?_⟩) ?_
      rotate_left
      · intro w
        go_simp
        try with_reducible rfl
      simp only [Act.put, List.setIfInBounds_toArray, List.set_cons_zero, List.set_cons_succ]
      refine wpAny_takeL (i := 13) (v := ?_) rfl (by kernel_rfl) (by kernel_rfl) (by kernel_rfl) (fun _ _ _ h => h) (Or.inl ⟨by rfl, ?_⟩) ?_
      rotate_left
      · intro w
        go_simp
        try with_reducible rfl
      simp only [Act.put, List.setIfInBounds_toArray, List.set_cons_zero, List.set_cons_succ]
      refine wpAny_takeL (i := 14) (v := ?_) rfl (by kernel_rfl) (by kernel_rfl) (by kernel_rfl) (fun _ _ _ h => h) (Or.inl ⟨by rfl, ?_⟩) ?_
      rotate_left
      · intro w
        go_simp
        try with_reducible rfl
      simp only [Act.put, List.setIfInBounds_toArray, List.set_cons_zero, List.set_cons_succ]
      refine wpAny_takeL (i := 15) (v := ?_) rfl (by kernel_rfl) (by kernel_rfl) (by kernel_rfl) (fun _ _ _ h => h) (Or.inl ⟨by rfl, ?_⟩) ?_
      rotate_left
      · intro w
        go_simp
        try with_reducible rfl
      simp only [Act.put, List.setIfInBounds_toArray, List.set_cons_zero, List.set_cons_succ]
      refine wpAny_takeL (i := 16) (v := ?_) rfl (by kernel_rfl) (by kernel_rfl) (by kernel_rfl) (fun _ _ _ h => h) (Or.inl ⟨by rfl, ?_⟩) ?_
      rotate_left
      · intro w
        go_simp
        try with_reducible rfl
      simp only [Act.put, List.setIfInBounds_toArray, List.set_cons_zero, List.set_cons_succ]
      refine wpAny_takeL (i := 17) (v := ?_) rfl (by kernel_rfl) (by kernel_rfl) (by kernel_rfl) (fun _ _ _ h => h) (Or.inl ⟨by rfl, ?_⟩) ?_
      rotate_left
      · intro w
        go_simp
        try with_reducible rfl
      simp only [Act.put, List.setIfInBounds_toArray, List.set_cons_zero, List.set_cons_succ]
      refine wpAny_takeL (i := 18) (v := ?_) rfl (by kernel_rfl) (by kernel_rfl) (by kernel_rfl) (fun _ _ _ h => h) (Or.inl ⟨by rfl, ?_⟩) ?_
      rotate_left
      · intro w
        go_simp
        try with_reducible rfl
      simp only [Act.put, List.setIfInBounds_toArray, List.set_cons_zero, List.set_cons_succ]
      refine wpAny_takeL (i := 19) (v := ?_) rfl (by kernel_rfl) (by kernel_rfl) (by kernel_rfl) (fun _ _ _ h => h) (Or.inl ⟨by rfl, ?_⟩) ?_
      rotate_left
      · intro w
        go_simp
        try with_reducible rfl
      simp only [Act.put, List.setIfInBounds_toArray, List.set_cons_zero, List.set_cons_succ]
      refine wpAny_takeL (i := 20) (v := ?_) rfl (by kernel_rfl) (by kernel_rfl) (by kernel_rfl) (fun _ _ _ h => h) (Or.inl ⟨by rfl, ?_⟩) ?_
      rotate_left
      · intro w
        go_simp
        try with_reducible rfl
      simp only [Act.put, List.setIfInBounds_toArray, List.set_cons_zero, List.set_cons_succ]
      refine wpAny_takeL (i := 21) (v := ?_) rfl (by kernel_rfl) (by kernel_rfl) (by kernel_rfl) (fun _ _ _ h => h) (Or.inl ⟨by rfl, ?_⟩) ?_
      rotate_left
      · intro w
        go_simp
        try with_reducible rfl
      simp only [Act.put, List.setIfInBounds_toArray, List.set_cons_zero, List.set_cons_succ]
      refine wpAny_takeL (i := 22) (v := ?_) rfl (by kernel_rfl) (by kernel_rfl) (by kernel_rfl) (fun _ _ _ h => h) (Or.inl ⟨by rfl, ?_⟩) ?_
      rotate_left
      · intro w
        go_simp
        try with_reducible rfl
      simp only [Act.put, List.setIfInBounds_toArray, List.set_cons_zero, List.set_cons_succ]
      refine wpAny_takeL (i := 23) (v := ?_) rfl (by kernel_rfl) (by kernel_rfl) (by kernel_rfl) (fun _ _ _ h => h) (Or.inl ⟨by rfl, ?_⟩) ?_
      rotate_left
      · intro w
        go_simp
        try with_reducible rfl
      simp only [Act.put, List.setIfInBounds_toArray, List.set_cons_zero, List.set_cons_succ]
      refine wpAny_growL 25 [12, 24] [_, _] (fun i => if i = 12 then Wd.two (.slice (some ⟨ga, (2 * x - 1) * 32, none⟩) 32 32) (.slice (some ⟨ga, 2 * x * 32, none⟩) 32 32) 2 2 else Wd.two (.slice (some ⟨gb, (2 * x - 1) * 32, none⟩) 32 32) (.slice (some ⟨gb, 2 * x * 32, none⟩) 32 32) 2 2)
        (by kernel_rfl) rfl rfl ⟨?o1, ?o2, trivial⟩ ?_
      case o1 =>
        intro f w hw hV K hK
        simp only [putO, Act.put, List.setIfInBounds_toArray, List.set_cons_zero, List.set_cons_succ]
        go_simp
        refine hK _ _ ((Below.refl _ _).alloc (Nat.le_refl _) _) ?_
        change (Wd.two _ _ 2 2).1 _ _
        exact ⟨_, rfl, (Row.new w 22 #[.slice (some ⟨ga, (2 * x - 1) * 32, none⟩) 32 32, .slice (some ⟨ga, 2 * x * 32, none⟩) 32 32]).cell 0, (Row.new w 22 #[.slice (some ⟨ga, (2 * x - 1) * 32, none⟩) 32 32, .slice (some ⟨ga, 2 * x * 32, none⟩) 32 32]).cell 1⟩
      case o2 =>
        intro f w hw hV K hK
        simp only [putO, Act.put, List.setIfInBounds_toArray, List.set_cons_zero, List.set_cons_succ]
        go_simp
        refine hK _ _ ((Below.refl _ _).alloc (Nat.le_refl _) _) ?_
        change (Wd.two _ _ 2 2).1 _ _
        exact ⟨_, rfl, (Row.new w 22 #[.slice (some ⟨gb, (2 * x - 1) * 32, none⟩) 32 32, .slice (some ⟨gb, 2 * x * 32, none⟩) 32 32]).cell 0, (Row.new w 22 #[.slice (some ⟨gb, (2 * x - 1) * 32, none⟩) 32 32, .slice (some ⟨gb, 2 * x * 32, none⟩) 32 32]).cell 1⟩
      intro f w2 hw hV
      have h12 := hV 12 (by simp)
      have h24 := hV 24 (by simp)
      rw [if_pos rfl] at h12
      rw [if_neg (by decide)] at h24
      obtain ⟨g1, e1, c10, c11⟩ := h12
      obtain ⟨g2, e2, c20, c21⟩ := h24
      have hw' : Below wr.heap.size wr w2 := ((Below.refl wr.heap.size wr).drew).trans hw
      have hj2 := abides_below HJ.out hj hw'
      have hk2 : KC wr.heap.size wr w2 := KC.of_below hw'
      have pA := qA.below hw' qA.lt
      have pB := qB.below hw' qB.lt
      have lx2 := hk2.cell (block_lt_of_cell LX.out) LX.out
      have lA : (2 * x - 1) * 32 + 32 ≤ ZA.length := by have := HA.out; omega
      have lA2 : 2 * x * 32 + 32 ≤ ZA.length := by have := HA.out; omega
      have lB : (2 * x - 1) * 32 + 32 ≤ ZB.length := by have := HB.out; omega
      have lB2 : 2 * x * 32 + 32 ≤ ZB.length := by have := HB.out; omega
      have nA : ((ZA.drop ((2 * x - 1) * 32)).take 32).length = 32 := by simp; omega
      have nA2 : ((ZA.drop (2 * x * 32)).take 32).length = 32 := by simp; omega
      have nB : ((ZB.drop ((2 * x - 1) * 32)).take 32).length = 32 := by simp; omega
      have nB2 : ((ZB.drop (2 * x * 32)).take 32).length = 32 := by simp; omega
      have sA := has_part pA ((2 * x - 1) * 32) 32 32 lA (Nat.le_refl _)
      have sA2 := has_part pA (2 * x * 32) 32 32 lA2 (Nat.le_refl _)
      have sB := has_part pB ((2 * x - 1) * 32) 32 32 lB (Nat.le_refl _)
      have sB2 := has_part pB (2 * x * 32) 32 32 lB2 (Nat.le_refl _)
      generalize (ZA.drop ((2 * x - 1) * 32)).take 32 = A1 at *
      generalize (ZA.drop (2 * x * 32)).take 32 = A2 at *
      generalize (ZB.drop ((2 * x - 1) * 32)).take 32 = B1 at *
      generalize (ZB.drop (2 * x * 32)).take 32 = B2 at *
      have NA := Lib.hid nA
      have NA2 := Lib.hid nA2
      have NB := Lib.hid nB
      have NB2 := Lib.hid nB2
      have LX2 := Lib.hid lx2
      simp only [putO, Act.put, List.setIfInBounds_toArray, List.set_cons_zero, List.set_cons_succ, e1, e2, List.drop_succ_cons, List.drop_zero]
      clear hV e1 e2 lx2 nA nA2 nB nB2 pA pB qA qB
      go_wp2_with fail
      refine (giver (t := 6) l J Jx B0 HJ.out bx w2 LX2.out (X := framed [word 6, A1, A2]) (Y := framed [word 6, B1, B2])
        (fun W' hk' => tag6_two g1 2 _ _ 32 32 A1 A2 W' (Nat.le_refl _) NA.out NA2.out (hk'.cell (block_lt_of_cell c10) c10) (hk'.has sA) (hk'.cell (block_lt_of_cell c11) c11) (hk'.has sA2))
        (fun W' hk' => tag6_two g2 2 _ _ 32 32 B1 B2 W' (Nat.le_refl _) NB.out NB2.out (hk'.cell (block_lt_of_cell c20) c20) (hk'.has sB) (hk'.cell (block_lt_of_cell c21) c21) (hk'.has sB2))
        (fun k u v W1 hk' hj' hu hv => HY.out k u v W1 ((hk.trans hk2.all).trans hk'.all) hj' ⟨_, _, by rw [framed3_len, wordlen6, NA.out, NA2.out]; omega, by rw [framed3_len, wordlen6, NB.out, NB2.out]; omega, hu, hv⟩) hj2).mono ?_
      rintro e w3 (⟨rfl, hj3, hk3⟩ | ⟨rfl, hx3⟩)
      · have hkk := (hk.trans hk2.all).trans hk3.all
        clear sA sA2 sB sB2 c10 c11 c20 c21
        go_wp2_with fail
        go_roundw
        case rel => exact ⟨x + 1, by omega, by omega, by go_num, hj3, hkk⟩
        case measure => simp [intOf]; omega
      · go_wp2_with fail
        go_ret
        exact .inr ⟨rfl, hx3⟩
    · have hx3 : ¬ 2 * (x : Int) < (m : Int) := by omega
      go_wp2_with fail
      go_ret
      exact .inl ⟨rfl, hj, hk⟩
end Go.Proofs.YtafichokaofngaaGreatDoor
