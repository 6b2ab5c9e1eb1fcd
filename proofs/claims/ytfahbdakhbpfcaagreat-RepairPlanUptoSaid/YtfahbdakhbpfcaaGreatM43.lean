/-
  Ref09D: WALK: strongroomref09.Again: a shape for a segment's size, or none; conditions: none.
-/
import Derived.Test.YtfahbdakhbpfcaaGreatM42
namespace Go.Proofs.YtfahbdakhbpfcaaGreat
open Go.RowKit

/-- the segment is what a asks for -/
def passC (k n seg size a : Int) : Prop := okP k n a ∧ 32 < size ∧ size ≤ 16777216 ∧ upI size (k * upI a k) ≤ 512 ∧ k * upI a k = seg
theorem upI_mono (a b k : Int) (h1 : 1 ≤ k) (h : a ≤ b) : upI a k ≤ upI b k := Int.ediv_le_ediv (by omega) (by omega)
theorem pass_ok {k n seg size a : Int} (h : passC k n seg size a) : okC k n seg size := by
  obtain ⟨⟨h1, h2, h3, h4, h5, h6⟩, h7, h8, h9, h10⟩ := h
  have hu := upI_mono a 65536 k h3 h6
  have hs := (shape09_up k a h3 (by omega) h5 h6).1
  rw [h10] at h9 hs
  have hd : seg / k = upI a k := by rw [← h10, Int.mul_ediv_cancel_left _ (by omega)]
  exact ⟨h1, h2, h3, h4, hs, by rw [← h10, Int.mul_emod_right], by omega, h7, h8, h9⟩
theorem again09_1 {k n seg size : Int} (h : passC k n seg size seg) : okC k n seg size := pass_ok h
theorem again09_2 {k n seg size : Int} (h : passC k n seg size 65536) : okC k n seg size := pass_ok h
theorem again09_no {k n seg size : Int} (h1 : ¬ passC k n seg size seg) (h2 : ¬ passC k n seg size 65536) : ¬ okC k n seg size := by
  rintro ⟨o1, o2, o3, o4, o5, o6, o7, o8, o9, o10⟩
  have hm : k * (seg / k) = seg := by have := Int.mul_ediv_add_emod seg k; omega
  have hup : upI seg k = seg / k := by
    have e1 := (upI_le seg k (seg / k) o3).2 (by rw [Int.mul_comm]; omega)
    have e2 := (upI_ge seg k (seg / k) o3).2 (by rw [Int.mul_comm]; omega)
    omega
  by_cases hs : seg ≤ 65536
  · refine h1 ⟨⟨o1, o2, o3, o4, o5, hs⟩, o8, o9, ?_, ?_⟩ <;> rw [hup, hm]
    exact o10
  · have e1 := (upI_le 65536 k (seg / k) o3).2 (by rw [Int.mul_comm, hm]; omega)
    have e2 : upI 65536 k = seg / k := by omega
    refine h2 ⟨⟨o1, o2, o3, o4, by omega, by omega⟩, o8, o9, ?_, ?_⟩ <;> rw [e2, hm]
    exact o10

theorem shape09_any (k n a size seg : Int) (w : World) :
    Calls Tryz.prog 28 #[.agg #[.int .i64 k, .int .i64 n, .int .i64 a, .int .i64 0, .slice none 0 0], .int .i64 size] w fun e w' =>
      (∃ x0 x1 x2 x3 x4 x5 x6 x7 er : Int, e = .returned (.tuple #[.agg #[.int .i64 x0, .int .i64 x1, .int .i64 x2, .int .i64 x3, .int .i64 x4, .int .i64 x5, .int .i64 x6, .int .i64 x7], .int .i64 er]) ∧ ((er = 0 ∧ x2 = seg) ↔ passC k n seg size a)) ∧ Below w.heap.size w w' := by
  by_cases h : okP k n a ∧ 32 < size ∧ size ≤ 16777216
  · refine (shape09_at k n a size h.1 h.2.1 h.2.2 w).mono ?_
    rintro e w1 ⟨⟨t, b, l, hu, rfl⟩ | ⟨hu, rfl⟩, hb⟩
    · exact ⟨⟨_, _, _, _, _, _, _, _, _, rfl, ⟨fun hh => ⟨h.1, h.2.1, h.2.2, hu, hh.2⟩, fun hp => ⟨rfl, hp.2.2.2.2⟩⟩⟩, hb⟩
    · exact ⟨⟨_, _, _, _, _, _, _, _, _, rfl, ⟨fun hh => absurd hh.1 (by decide), fun hp => by have := hp.2.2.2.1; omega⟩⟩, hb⟩
  · refine (shape09_no k n a size ?_ w).mono ?_
    · by_cases h1 : okP k n a
      · right
        by_cases h2 : 32 < size
        · exact .inr (by have : ¬ size ≤ 16777216 := fun h3 => h ⟨h1, h2, h3⟩; omega)
        · exact .inl (by omega)
      · exact .inl h1
    rintro e w1 ⟨⟨er, hne, rfl⟩, hb⟩
    exact ⟨⟨_, _, _, _, _, _, _, _, _, rfl, ⟨fun hh => absurd hh.1 hne, fun hp => absurd ⟨hp.1, hp.2.1, hp.2.2.1⟩ h⟩⟩, hb⟩

set_option maxRecDepth 100000 in
set_option maxHeartbeats 4000000 in
theorem again09_at (k n seg size : Int) (w : World) :
    Calls Tryz.prog 17 #[.int .i64 k, .int .i64 n, .int .i64 seg, .int .i64 size] w fun e w' =>
      (∃ v, shapeV v ∧ ((okC k n seg size ∧ e = .returned (.tuple #[v, .int .i64 0])) ∨ (¬ okC k n seg size ∧ e = .returned (.tuple #[v, .int .i64 92])))) ∧ Below w.heap.size w w' := by
  have R := Row.new w 55 zSh
  have B := (Below.refl w.heap.size w).alloc (Nat.le_refl _) (.cells zSh 55)
  go_enter Tryz.func17, Tryz.ntmps17
  go_wp2_with fail
  go_loopw [10] (fun i wr => ∃ j : Nat, j ≤ 2 ∧ i = .int .i64 j ∧ Hid ((1 ≤ j → ¬ passC k n seg size seg) ∧ (2 ≤ j → ¬ passC k n seg size 65536)) ∧ Row wr w.heap.size 55 zSh ∧ Below w.heap.size w wr) (fun i _ => 2 - (intOf i).toNat)
  case atStart => exact ⟨0, by omega, rfl, Lib.hid ⟨fun h => absurd h (by omega), fun h => absurd h (by omega)⟩, R, B⟩
  case round =>
    clear R B
    obtain ⟨j, hj, rfl, HP, R, B⟩ := hrel
    rcases (by omega : j = 0 ∨ j = 1 ∨ j = 2) with rfl | rfl | rfl
    · go_wp2_with fail
      refine (shape09_any k n seg size seg wr).mono ?_
      rintro e w1 ⟨⟨x0, x1, x2, x3, x4, x5, x6, x7, er, rfl, hiff⟩, hb1⟩
      have R1 := R.below hb1 R.lt
      have B1 := B.trans (hb1.mono B.size)
      clear R B hb1
      have RN := Row.new w1 55 zSh
      have RX := RN.setRow #[.int .i64 x0, .int .i64 x1, .int .i64 x2, .int .i64 x3, .int .i64 x4, .int .i64 x5, .int .i64 x6, .int .i64 x7]
      have lt1 := R1.lt
      have R2 := (R1.alloc (.cells zSh 55)).setRow_other (g := w1.heap.size) #[.int .i64 x0, .int .i64 x1, .int .i64 x2, .int .i64 x3, .int .i64 x4, .int .i64 x5, .int .i64 x6, .int .i64 x7] (by omega)
      have B2 := below_setRow (B1.alloc B1.size (.cells zSh 55)) (b := w1.heap.size) B1.size #[.int .i64 x0, .int .i64 x1, .int .i64 x2, .int .i64 x3, .int .i64 x4, .int .i64 x5, .int .i64 x6, .int .i64 x7]
      have c2 := RX.cell 2
      change _ = some (Value.int .i64 x2) at c2
      simp only [zSh] at c2
      have HIFF := Lib.hid hiff
      clear hiff
      by_cases hE : er = 0
      · by_cases hx : x2 = seg
        · have hok : okC k n seg size := again09_1 (HIFF.out.1 ⟨hE, hx⟩)
          have HOK := Lib.hid hok
          clear hok
          subst hE
          subst hx
          go_wp2_with (first
            | (refine wpList_store_row rfl 55 (.tmp 12) (.tmp 28) rfl w1.heap.size #[.int .i64 x0, .int .i64 x1, .int .i64 x2, .int .i64 x3, .int .i64 x4, .int .i64 x5, .int .i64 x6, .int .i64 x7] rfl rfl 55 zSh RN shape_info rfl (one8 _ _ _ _ _ _ _ _) ?_)
            | (refine wpList_load_row rfl 55 (.tmp 12) rfl w1.heap.size rfl 55 _ (0, 0) _ RX Tryz.underlying55 rfl shape_info ?_)
            | (refine wpList_store_row rfl 55 (.tmp 8) (.tmp 38) rfl w.heap.size _ rfl rfl 55 zSh R2 shape_info rfl (one8 _ _ _ _ _ _ _ _) ?_))
          exact bodyPost_ret (results_row_tmp Tryz.results17 _ _ w.heap.size 55 #[.int .i64 x0, .int .i64 x1, .int .i64 x2, .int .i64 x3, .int .i64 x4, .int .i64 x5, .int .i64 x6, .int .i64 x7] _ rfl (R2.setRow #[.int .i64 x0, .int .i64 x1, .int .i64 x2, .int .i64 x3, .int .i64 x4, .int .i64 x5, .int .i64 x6, .int .i64 x7]) Tryz.underlying55 rfl shape_info) rfl ⟨⟨_, ⟨_, _, _, _, _, _, _, _, rfl⟩, Or.inl ⟨HOK.out, rfl⟩⟩, below_setRow B2 (Nat.le_refl _) _⟩
        · have hno : ¬ passC k n seg size seg := fun h => hx (HIFF.out.2 h).2
          have HNO := Lib.hid hno
          have hxb : (x2 == seg) = false := by simpa using hx
          clear hno
          subst hE
          go_wp2_with (refine wpList_store_row rfl 55 (.tmp 12) (.tmp 28) rfl w1.heap.size #[.int .i64 x0, .int .i64 x1, .int .i64 x2, .int .i64 x3, .int .i64 x4, .int .i64 x5, .int .i64 x6, .int .i64 x7] rfl rfl 55 zSh RN shape_info rfl (one8 _ _ _ _ _ _ _ _) ?_)
          go_roundw
          case rel => exact ⟨1, by omega, by go_num, Lib.hid ⟨fun _ => HNO.out, fun h => absurd h (by omega)⟩, R2, B2⟩
          case measure => simp [intOf]
      · have hno : ¬ passC k n seg size seg := fun h => hE (HIFF.out.2 h).1
        have HNO := Lib.hid hno
        clear hno
        go_wp2_with (refine wpList_store_row rfl 55 (.tmp 12) (.tmp 28) rfl w1.heap.size #[.int .i64 x0, .int .i64 x1, .int .i64 x2, .int .i64 x3, .int .i64 x4, .int .i64 x5, .int .i64 x6, .int .i64 x7] rfl rfl 55 zSh RN shape_info rfl (one8 _ _ _ _ _ _ _ _) ?_)
        go_roundw
        case rel => exact ⟨1, by omega, by go_num, Lib.hid ⟨fun _ => HNO.out, fun h => absurd h (by omega)⟩, R2, B2⟩
        case measure => simp [intOf]
    · go_wp2_with fail
      refine (shape09_any k n 65536 size seg wr).mono ?_
      rintro e w1 ⟨⟨x0, x1, x2, x3, x4, x5, x6, x7, er, rfl, hiff⟩, hb1⟩
      have R1 := R.below hb1 R.lt
      have B1 := B.trans (hb1.mono B.size)
      clear R B hb1
      have RN := Row.new w1 55 zSh
      have RX := RN.setRow #[.int .i64 x0, .int .i64 x1, .int .i64 x2, .int .i64 x3, .int .i64 x4, .int .i64 x5, .int .i64 x6, .int .i64 x7]
      have lt1 := R1.lt
      have R2 := (R1.alloc (.cells zSh 55)).setRow_other (g := w1.heap.size) #[.int .i64 x0, .int .i64 x1, .int .i64 x2, .int .i64 x3, .int .i64 x4, .int .i64 x5, .int .i64 x6, .int .i64 x7] (by omega)
      have B2 := below_setRow (B1.alloc B1.size (.cells zSh 55)) (b := w1.heap.size) B1.size #[.int .i64 x0, .int .i64 x1, .int .i64 x2, .int .i64 x3, .int .i64 x4, .int .i64 x5, .int .i64 x6, .int .i64 x7]
      have c2 := RX.cell 2
      change _ = some (Value.int .i64 x2) at c2
      simp only [zSh] at c2
      have HIFF := Lib.hid hiff
      clear hiff
      by_cases hE : er = 0
      · by_cases hx : x2 = seg
        · have hok : okC k n seg size := again09_2 (HIFF.out.1 ⟨hE, hx⟩)
          have HOK := Lib.hid hok
          clear hok
          subst hE
          subst hx
          go_wp2_with (first
            | (refine wpList_store_row rfl 55 (.tmp 12) (.tmp 28) rfl w1.heap.size #[.int .i64 x0, .int .i64 x1, .int .i64 x2, .int .i64 x3, .int .i64 x4, .int .i64 x5, .int .i64 x6, .int .i64 x7] rfl rfl 55 zSh RN shape_info rfl (one8 _ _ _ _ _ _ _ _) ?_)
            | (refine wpList_load_row rfl 55 (.tmp 12) rfl w1.heap.size rfl 55 _ (0, 0) _ RX Tryz.underlying55 rfl shape_info ?_)
            | (refine wpList_store_row rfl 55 (.tmp 8) (.tmp 38) rfl w.heap.size _ rfl rfl 55 zSh R2 shape_info rfl (one8 _ _ _ _ _ _ _ _) ?_))
          exact bodyPost_ret (results_row_tmp Tryz.results17 _ _ w.heap.size 55 #[.int .i64 x0, .int .i64 x1, .int .i64 x2, .int .i64 x3, .int .i64 x4, .int .i64 x5, .int .i64 x6, .int .i64 x7] _ rfl (R2.setRow #[.int .i64 x0, .int .i64 x1, .int .i64 x2, .int .i64 x3, .int .i64 x4, .int .i64 x5, .int .i64 x6, .int .i64 x7]) Tryz.underlying55 rfl shape_info) rfl ⟨⟨_, ⟨_, _, _, _, _, _, _, _, rfl⟩, Or.inl ⟨HOK.out, rfl⟩⟩, below_setRow B2 (Nat.le_refl _) _⟩
        · have hno : ¬ passC k n seg size 65536 := fun h => hx (HIFF.out.2 h).2
          have HNO := Lib.hid hno
          have hxb : (x2 == seg) = false := by simpa using hx
          clear hno
          subst hE
          go_wp2_with (refine wpList_store_row rfl 55 (.tmp 12) (.tmp 28) rfl w1.heap.size #[.int .i64 x0, .int .i64 x1, .int .i64 x2, .int .i64 x3, .int .i64 x4, .int .i64 x5, .int .i64 x6, .int .i64 x7] rfl rfl 55 zSh RN shape_info rfl (one8 _ _ _ _ _ _ _ _) ?_)
          go_roundw
          case rel => exact ⟨2, by omega, by go_num, Lib.hid ⟨fun _ => HP.out.1 (by omega), fun _ => HNO.out⟩, R2, B2⟩
          case measure => simp [intOf]
      · have hno : ¬ passC k n seg size 65536 := fun h => hE (HIFF.out.2 h).1
        have HNO := Lib.hid hno
        clear hno
        go_wp2_with (refine wpList_store_row rfl 55 (.tmp 12) (.tmp 28) rfl w1.heap.size #[.int .i64 x0, .int .i64 x1, .int .i64 x2, .int .i64 x3, .int .i64 x4, .int .i64 x5, .int .i64 x6, .int .i64 x7] rfl rfl 55 zSh RN shape_info rfl (one8 _ _ _ _ _ _ _ _) ?_)
        go_roundw
        case rel => exact ⟨2, by omega, by go_num, Lib.hid ⟨fun _ => HP.out.1 (by omega), fun _ => HNO.out⟩, R2, B2⟩
        case measure => simp [intOf]
    · have hno := again09_no (HP.out.1 (by omega)) (HP.out.2 (by omega))
      have HNO := Lib.hid hno
      clear hno
      go_wp2_with (refine wpList_store_row rfl 55 (.tmp 8) (.tmp 39) rfl w.heap.size zSh rfl rfl 55 zSh R shape_info rfl (one8 _ _ _ _ _ _ _ _) ?_)
      exact bodyPost_ret (results_row_tmp Tryz.results17 _ _ w.heap.size 55 zSh _ rfl (R.setRow zSh) Tryz.underlying55 rfl shape_info) rfl ⟨⟨_, ⟨_, _, _, _, _, _, _, _, rfl⟩, Or.inr ⟨HNO.out, rfl⟩⟩, below_setRow B (Nat.le_refl _) zSh⟩
end Go.Proofs.YtfahbdakhbpfcaaGreat
