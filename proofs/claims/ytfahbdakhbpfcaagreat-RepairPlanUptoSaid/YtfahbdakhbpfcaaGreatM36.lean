/-
  CutC: WALK: cut.Again, all cases: whether four numbers make a shape; conditions: the segment's size is an int.
  May: WALK: repair.may: why pairs are none of a capability and so many servers; conditions: at most 100100 pairs a list, the capability's size fields are ints.
-/
import Derived.Test.YtfahbdakhbpfcaaGreatM33
import Derived.Test.YtfahbdakhbpfcaaGreatM35
namespace Go.Proofs.YtfahbdakhbpfcaaGreat
open Go.RowKit

theorem okC_seg {k seg : Int} (h3 : 1 ≤ k) (h4 : k ≤ 255) (h6 : seg % k = 0) (h7 : seg / k ≤ upI 65536 k) : seg ≤ 100000 := by
  have e : seg = k * (seg / k) := by have := Int.mul_ediv_add_emod seg k; omega
  have h := (upI_ge 65536 k (seg / k) h3).1 h7
  rw [Int.mul_comm] at h
  omega

theorem again_bad (k n seg size : Int) (w : World) (hs : seg ≤ 9223372036854775807) (h : ¬ okC k n seg size) :
    Calls Tryz.prog 24 #[.int .i64 k, .int .i64 n, .int .i64 seg, .int .i64 size] w fun e w' =>
      (∃ v, shapeV v ∧ e = .returned (.tuple #[v, .int .i64 92])) ∧ Below w.heap.size w w' := by
  by_cases g1 : n < 1
  · exact again_no1 k n seg size w (by omega)
  have h1 : 1 ≤ n := by omega
  by_cases g2 : 255 < n
  · exact again_no2 k n seg size w h1 (by omega)
  have h2 : n ≤ 255 := by omega
  by_cases g3 : k < 1
  · exact again_no3 k n seg size w h1 h2 (by omega)
  have h3 : 1 ≤ k := by omega
  by_cases g4 : n < k
  · exact again_no4 k n seg size w h1 h2 h3 (by omega)
  have h4 : k ≤ n := by omega
  by_cases g5 : seg < 1
  · exact again_no5 k n seg size w h1 h2 h3 h4 (by omega)
  have h5 : 1 ≤ seg := by omega
  by_cases g6 : ¬ seg % k = 0
  · exact again_no6 k n seg size w h1 h2 h3 h4 h5 (by simp [g6]) hs
  have h6 : seg % k = 0 := by omega
  by_cases g7 : upI 65536 k < seg / k
  · exact again_no7 k n seg size w h1 h2 h3 h4 h5 h6 (by omega) hs
  have h7 : seg / k ≤ upI 65536 k := by omega
  by_cases g8 : size ≤ 32
  · exact again_no8 k n seg size w h1 h2 h3 h4 h5 h6 h7 (by omega) hs
  have h8 : 32 < size := by omega
  by_cases g9 : 16777216 < size
  · exact again_no9 k n seg size w h1 h2 h3 h4 h5 h6 h7 h8 (by omega) hs
  have h9 : size ≤ 16777216 := by omega
  by_cases g10 : 512 < upI size seg
  · exact again_no10 k n seg size w h1 h2 h3 h4 h5 h6 h7 h8 h9 (okC_seg h3 (by omega) h6 h7) g10
  have h10 : upI size seg ≤ 512 := by omega
  exact absurd ⟨h1, h2, h3, h4, h5, h6, h7, h8, h9, h10⟩ h
theorem again_ok (k n seg size : Int) (w : World) (h : okC k n seg size) :
    Calls Tryz.prog 24 #[.int .i64 k, .int .i64 n, .int .i64 seg, .int .i64 size] w fun e w' =>
      (∃ v, shapeV v ∧ e = .returned (.tuple #[v, .int .i64 0])) ∧ Below w.heap.size w w' := by
  obtain ⟨h1, h2, h3, h4, h5, h6, h7, h8, h9, h10⟩ := h
  exact again_yes k n seg size w h1 h2 h3 h4 h5 h6 h7 h8 h9 (okC_seg h3 (by omega) h6 h7) h10
end Go.Proofs.YtfahbdakhbpfcaaGreat
namespace Go.Proofs.YtfahbdakhbpfcaaGreat
open Go.RowKit

/-- a capability's cells: its index, its four numbers -/
structure Vf (cs : Array Value) (L : List UInt8) (k n seg size : Int) : Prop where
  size52 : cs.size = 52
  len : L.length = 16
  idx : ∀ (j : Nat) (v : Value), (L.map Sha.bv)[j]? = some v → cs[j]? = some v
  c48 : cs[48]? = some (.int .i64 k)
  c49 : cs[49]? = some (.int .i64 n)
  c50 : cs[50]? = some (.int .i64 seg)
  c51 : cs[51]? = some (.int .i64 size)
  seg_le : seg ≤ 9223372036854775807

set_option maxRecDepth 100000 in
set_option maxHeartbeats 1000000 in
theorem may_cap (cs : Array Value) (L : List UInt8) (k n seg size s : Int) (v : Value) (w : World) (hv : Vf cs L k n seg size) (hok : ¬ okC k n seg size) :
    Calls Tryz.prog 12 #[.agg cs, .int .i64 s, v] w fun e w' => e = .returned (.int .i64 5) ∧ Below w.heap.size w w' := by
  have R := Row.new w 27 cs
  have B := (Below.refl w.heap.size w).alloc (Nat.le_refl _) (.cells cs 27)
  have a2 : (w.alloc (.cells cs 27)).cell? ⟨w.heap.size, 48, none⟩ = some (.int .i64 k) := (R.cell 48).trans hv.c48
  have a3 : (w.alloc (.cells cs 27)).cell? ⟨w.heap.size, 49, none⟩ = some (.int .i64 n) := (R.cell 49).trans hv.c49
  have a4 : (w.alloc (.cells cs 27)).cell? ⟨w.heap.size, 50, none⟩ = some (.int .i64 seg) := (R.cell 50).trans hv.c50
  have a5 : (w.alloc (.cells cs 27)).cell? ⟨w.heap.size, 51, none⟩ = some (.int .i64 size) := (R.cell 51).trans hv.c51
  have HV := Lib.hid hv
  clear hv
  go_enter Tryz.func12, Tryz.ntmps12
  go_wp2_with fail
  clear a2 a3 a4 a5
  refine (again_bad k n seg size _ HV.out.seg_le hok).mono ?_
  rintro e w2 ⟨⟨v', ⟨a, b, c, d, e', f, g, h, rfl⟩, rfl⟩, hb⟩
  have hB := B.trans (hb.mono (by simp))
  clear R B hb
  go_wp2_with fail
  go_ret
  exact ⟨rfl, hB.alloc hB.size _⟩

set_option maxRecDepth 100000 in
set_option maxHeartbeats 1000000 in
theorem may_arg (cs : Array Value) (L : List UInt8) (k n seg size s : Int) (v : Value) (w : World) (hv : Vf cs L k n seg size) (hok : okC k n seg size) (hs : s < 0 ∨ 32 < s) :
    Calls Tryz.prog 12 #[.agg cs, .int .i64 s, v] w fun e w' => e = .returned (.int .i64 2) ∧ Below w.heap.size w w' := by
  have R := Row.new w 27 cs
  have B := (Below.refl w.heap.size w).alloc (Nat.le_refl _) (.cells cs 27)
  have a2 : (w.alloc (.cells cs 27)).cell? ⟨w.heap.size, 48, none⟩ = some (.int .i64 k) := (R.cell 48).trans hv.c48
  have a3 : (w.alloc (.cells cs 27)).cell? ⟨w.heap.size, 49, none⟩ = some (.int .i64 n) := (R.cell 49).trans hv.c49
  have a4 : (w.alloc (.cells cs 27)).cell? ⟨w.heap.size, 50, none⟩ = some (.int .i64 seg) := (R.cell 50).trans hv.c50
  have a5 : (w.alloc (.cells cs 27)).cell? ⟨w.heap.size, 51, none⟩ = some (.int .i64 size) := (R.cell 51).trans hv.c51
  have HV := Lib.hid hv
  clear hv
  go_enter Tryz.func12, Tryz.ntmps12
  go_wp2_with fail
  clear a2 a3 a4 a5
  refine (again_ok k n seg size _ hok).mono ?_
  rintro e w2 ⟨⟨v', ⟨a, b, c, d, e', f, g, h, rfl⟩, rfl⟩, hb⟩
  have hB := B.trans (hb.mono (by simp))
  clear R B hb
  rcases hs with hs | hs
  · go_wp2_with fail
    go_ret
    exact ⟨rfl, hB.alloc hB.size _⟩
  · have hs0 : 0 ≤ s := by omega
    go_wp2_with fail
    go_ret
    exact ⟨rfl, hB.alloc hB.size _⟩

/-- all pairs of all lists are in -/
def allIn (s n : Int) (m : Nat) (ls : Nat → List (Int × Int)) : Prop := ∀ k, k < m → (ls k).all (inB s n) = true

set_option maxRecDepth 100000 in
set_option maxHeartbeats 2000000 in
theorem may_lists (cs : Array Value) (L : List UInt8) (k n seg size s : Int) (w : World) (hv : Vf cs L k n seg size) (hok : okC k n seg size) (hs0 : 0 ≤ s) (hs1 : s ≤ 32)
    (m bl cp : Nat) (p : Nat → Addr) (ln c : Nat → Nat) (ls : Nat → List (Int × Int)) (hm : m ≤ 1000) (hbl : 0 < m → bl < w.heap.size) (hl : ∀ j, j < m → w.cell? ⟨bl, j, none⟩ = some (.slice (some (p j)) (ln j) (c j)))
    (hp : ∀ j, j < m → HasP w (.slice (some (p j)) (ln j) (c j)) (ls j)) (hn : ∀ j, j < m → ln j ≤ 100100) :
    Calls Tryz.prog 12 #[.agg cs, .int .i64 s, .slice (some ⟨bl, 0, none⟩) m cp] w fun e w' =>
      ((allIn s n m ls ∧ e = .returned (.int .i64 0)) ∨ (¬ allIn s n m ls ∧ e = .returned (.int .i64 2))) ∧ Below w.heap.size w w' := by
  have R := Row.new w 27 cs
  have B := (Below.refl w.heap.size w).alloc (Nat.le_refl _) (.cells cs 27)
  have a2 : (w.alloc (.cells cs 27)).cell? ⟨w.heap.size, 48, none⟩ = some (.int .i64 k) := (R.cell 48).trans hv.c48
  have a3 : (w.alloc (.cells cs 27)).cell? ⟨w.heap.size, 49, none⟩ = some (.int .i64 n) := (R.cell 49).trans hv.c49
  have a4 : (w.alloc (.cells cs 27)).cell? ⟨w.heap.size, 50, none⟩ = some (.int .i64 seg) := (R.cell 50).trans hv.c50
  have a5 : (w.alloc (.cells cs 27)).cell? ⟨w.heap.size, 51, none⟩ = some (.int .i64 size) := (R.cell 51).trans hv.c51
  have HV := Lib.hid hv
  clear hv
  go_enter Tryz.func12, Tryz.ntmps12
  go_wp2_with fail
  clear a2 a3 a4 a5
  refine (again_ok k n seg size _ hok).mono ?_
  rintro e w2 ⟨⟨v', ⟨a, b, cc, d, e', f, g, h, rfl⟩, rfl⟩, hb⟩
  have hB := B.trans (hb.mono (by simp))
  have R2 := (R.below hb R.lt).alloc (.cells #[.int .i64 a, .int .i64 b, .int .i64 cc, .int .i64 d, .int .i64 e', .int .i64 f, .int .i64 g, .int .i64 h] 55)
  have hB2 := hB.alloc hB.size (.cells #[.int .i64 a, .int .i64 b, .int .i64 cc, .int .i64 d, .int .i64 e', .int .i64 f, .int .i64 g, .int .i64 h] 55)
  clear R B hb hB
  have HL := Lib.hid hl
  have HPP := Lib.hid hp
  have HBL := Lib.hid hbl
  clear hl hp hbl
  go_wp2_with fail
  go_loopw [35] (fun i wr => ∃ j : Nat, j ≤ m ∧ i = .int .i64 j ∧ (∀ q, q < j → (ls q).all (inB s n) = true) ∧ Row wr w.heap.size 27 cs ∧ Below w.heap.size w wr) (fun i _ => m - (intOf i).toNat)
  case atStart => exact ⟨0, Nat.zero_le _, rfl, fun q hq => absurd hq (Nat.not_lt_zero _), R2, hB2⟩
  case round =>
    clear R2 hB2
    obtain ⟨j, hj, rfl, hdone, R, hb⟩ := hrel
    by_cases hlt : j < m
    · have hji : (j : Int) < (m : Int) := by omega
      have hc := (hb.cell (p := ⟨bl, j, none⟩) (HBL.out (by omega))).trans (HL.out j hlt)
      have hnj := hn j hlt
      have HD := Lib.hid hdone
      clear hdone
      go_wp2_with fail
      go_loopw [41] (fun i wr => ∃ q : Nat, q ≤ ln j ∧ i = .int .i64 q ∧ (∀ r x, r < q → (ls j)[r]? = some x → inB s n x = true) ∧ Row wr w.heap.size 27 cs ∧ Below w.heap.size w wr) (fun i _ => ln j - (intOf i).toNat)
      case atStart => exact ⟨0, Nat.zero_le _, rfl, fun q _ hq => absurd hq (Nat.not_lt_zero _), R, hb⟩
      case round =>
        clear R hb hc
        obtain ⟨q, hq, rfl, hdn, R, hb⟩ := hrel
        have hpj := (HPP.out j hlt).later hb
        by_cases hlt2 : q < ln j
        · obtain ⟨⟨x, y⟩, hxy⟩ : ∃ z, (ls j)[q]? = some z := ⟨(ls j)[q]'(by have := hpj.len; omega), List.getElem?_eq_getElem _⟩
          obtain ⟨ad, hpa, h0, h1⟩ := hpj.cells hxy
          obtain rfl := Option.some.inj hpa
          have hqi : (q : Int) < ((ln j : Nat) : Int) := by omega
          have b3 : (wr.alloc (.cells #[.int .i64 x, .int .i64 y] 44)).cell? ⟨w.heap.size, 49, none⟩ = some (.int .i64 n) := ((R.alloc _).cell 49).trans HV.out.c49
          have HDN := Lib.hid hdn
          have HX := Lib.hid hxy
          have hR := R.alloc (.cells #[.int .i64 x, .int .i64 y] 44)
          have hB := hb.alloc hb.size (.cells #[.int .i64 x, .int .i64 y] 44)
          clear hdn hxy hpj
          rcases inB_cases s n x y with ⟨hin, g1, g2, g3, g4⟩ | ⟨hin, hout⟩
          · have HI := Lib.hid hin
            clear hin
            go_wp2_with fail
            go_roundw
            case rel =>
              refine ⟨q + 1, by omega, by go_num, fun r z hr hz => ?_, hR, hB⟩
              by_cases hrq : r = q
              · subst hrq
                rw [HX.out] at hz
                cases hz
                exact HI.out
              · exact HDN.out r z (by omega) hz
            case measure => simp [intOf]; omega
          · have hbad : ¬ allIn s n m ls := by
              intro h
              have h2 := List.all_eq_true.1 (h j hlt) _ (List.mem_of_getElem? HX.out)
              rw [hin] at h2
              cases h2
            have HBAD := Lib.hid hbad
            clear hbad hin
            rcases hout with g1 | ⟨g1, g2⟩ | ⟨g1, g2, g3⟩ | ⟨g1, g2, g3, g4⟩
            all_goals
              go_wp2_with fail
              go_ret
              exact ⟨Or.inr ⟨HBAD.out, rfl⟩, hB⟩
        · obtain rfl : q = ln j := by omega
          have hall : (ls j).all (inB s n) = true := by
            rw [List.all_eq_true]
            intro z hz
            obtain ⟨r, hr⟩ := List.mem_iff_getElem?.1 hz
            have hrl := (List.getElem?_eq_some_iff.1 hr).1
            exact hdn r z (by have := hpj.len; omega) hr
          have HALL := Lib.hid hall
          clear hall hdn hpj
          go_wp2_with fail
          go_roundw
          case rel =>
            refine ⟨j + 1, by omega, by go_num, fun r hr => ?_, R, hb⟩
            by_cases hrj : r = j
            · subst hrj
              exact HALL.out
            · exact HD.out r (by omega)
          case measure => simp [intOf]; omega
    · obtain rfl : j = m := by omega
      have HD : Hid (allIn s n j ls) := hdone
      clear hdone
      go_wp2_with fail
      go_ret
      exact ⟨Or.inl ⟨HD.out, rfl⟩, hb⟩
end Go.Proofs.YtfahbdakhbpfcaaGreat
