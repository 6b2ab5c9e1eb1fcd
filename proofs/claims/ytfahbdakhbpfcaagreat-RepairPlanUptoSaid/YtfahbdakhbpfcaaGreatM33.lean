/-
  RefA: WALKS: strongroomref28.has, numbered, there; conditions: at most 100100 pairs.
  Num: WALK: repair.numbers: the numbers that pairs have, as a map; conditions: at most 100100 pairs, their numbers from 0 to 1000.
-/
import Derived.Test.YtfahbdakhbpfcaaGreatM32
import Derived.Maps.Own
import Derived.Maps.OwnOps
import Derived.Maps.OwnSet
namespace Go.Proofs.YtfahbdakhbpfcaaGreat
open Go.RowKit

set_option maxRecDepth 100000 in
set_option maxHeartbeats 1000000 in
theorem has_at (n c : Nat) (p : Option Addr) (l : List (Int × Int)) (x y : Int) (w : World) (hn : n ≤ 100100) (hp : HasP w (.slice p n c) l) :
    Calls Tryz.prog 21 #[.slice p n c, .agg #[.int .i64 x, .int .i64 y]] w fun e w' =>
      e = .returned (.bool (decide ((x, y) ∈ l))) ∧ Below w.heap.size w w' := by
  have HN := Lib.hid hp.len
  go_enter Tryz.func21, Tryz.ntmps21
  go_wp2_with fail
  go_loopw [5] (fun i wr => ∃ k : Nat, k ≤ n ∧ i = .int .i64 k ∧ (∀ j, j < k → l[j]? ≠ some (x, y)) ∧ Row wr w.heap.size 44 #[.int .i64 x, .int .i64 y] ∧ Below w.heap.size w wr) (fun i _ => n - (intOf i).toNat)
  case atStart => exact ⟨0, Nat.zero_le _, rfl, fun j hj => absurd hj (Nat.not_lt_zero _), Row.new _ _ _, (Below.refl _ _).alloc (Nat.le_refl _) _⟩
  case round =>
    obtain ⟨k, hk, rfl, hno, hrow, hb⟩ := hrel
    by_cases hlt : k < n
    · obtain ⟨⟨x', y'⟩, hxy⟩ : ∃ q, l[k]? = some q := ⟨l[k]'(by have := HN.out; omega), List.getElem?_eq_getElem _⟩
      obtain ⟨a, rfl, h0, h1⟩ := (hp.later hb).cells hxy
      have hki : (k : Int) < (n : Int) := by omega
      have b0 : wr.cell? ⟨w.heap.size, 0, none⟩ = some (.int .i64 x) := hrow.cell 0
      have b1 : wr.cell? ⟨w.heap.size, 1, none⟩ = some (.int .i64 y) := hrow.cell 1
      have HE := Lib.hid hno
      have HX := Lib.hid hxy
      have HP := Lib.hid hp
      clear hno hxy hp
      have hne := eql_pair x' y' x y
      have hgd := pair_guard
      go_wp2_with fail
      go_quiet (fail)
      have hb2 := below_drewN hb nq
      have hrow2 := hrow.drewN nq
      generalize wr.drewN nq = W at *
      generalize hbb : (x' == x && y' == y) = bb
      have HB := Lib.hid hbb
      clear hbb hb hne hrow b0 b1
      cases bb
      · go_wp2_with fail
        go_roundw
        case rel =>
          refine ⟨k + 1, by omega, by go_num, fun j hj => ?_, hrow2, hb2⟩
          by_cases hj' : j = k
          · subst hj'
            rw [HX.out]
            intro he
            simp only [Option.some.injEq, Prod.mk.injEq] at he
            have hbb := HB.out
            simp [he.1, he.2] at hbb
          · exact HE.out j (by omega)
        case measure => simp [intOf]; omega
      · have hm : (x, y) ∈ l := by
          have hbb := HB.out
          simp only [Bool.and_eq_true, beq_iff_eq] at hbb
          obtain ⟨rfl, rfl⟩ := hbb
          exact List.mem_of_getElem? HX.out
        have HM := Lib.hid (decide_eq_true hm)
        clear hm
        go_wp2_with fail
        go_ret
        exact ⟨by rw [HM.out]; rfl, hb2⟩
    · obtain rfl : k = n := by omega
      have hm : ¬ (x, y) ∈ l := by
        intro hm
        obtain ⟨j, hj⟩ := List.mem_iff_getElem?.1 hm
        have hjl := (List.getElem?_eq_some_iff.1 hj).1
        exact hno j (by have := HN.out; omega) hj
      have HM := Lib.hid (decide_eq_false hm)
      clear hm hno
      go_wp2_with fail
      go_ret
      exact ⟨by rw [HM.out]; rfl, hb⟩

/-- one of the pairs has this number -/
def hasNum (l : List (Int × Int)) (i : Int) : Bool := l.any fun p => p.2 == i

set_option maxRecDepth 100000 in
set_option maxHeartbeats 1000000 in
theorem numbered_at (n c : Nat) (p : Option Addr) (l : List (Int × Int)) (y : Int) (w : World) (hn : n ≤ 100100) (hp : HasP w (.slice p n c) l) :
    Calls Tryz.prog 19 #[.slice p n c, .int .i64 y] w fun e w' =>
      e = .returned (.bool (hasNum l y)) ∧ Below w.heap.size w w' := by
  have HN := Lib.hid hp.len
  go_enter Tryz.func19, Tryz.ntmps19
  go_wp2_with fail
  go_loopw [5] (fun i wr => ∃ k : Nat, k ≤ n ∧ i = .int .i64 k ∧ (∀ j q, j < k → l[j]? = some q → (q.2 == y) = false) ∧ Below w.heap.size w wr) (fun i _ => n - (intOf i).toNat)
  case atStart => exact ⟨0, Nat.zero_le _, rfl, fun j _ hj => absurd hj (Nat.not_lt_zero _), Below.refl _ _⟩
  case round =>
    obtain ⟨k, hk, rfl, hno, hb⟩ := hrel
    by_cases hlt : k < n
    · obtain ⟨⟨x', y'⟩, hxy⟩ : ∃ q, l[k]? = some q := ⟨l[k]'(by have := HN.out; omega), List.getElem?_eq_getElem _⟩
      obtain ⟨a, rfl, h0, h1⟩ := (hp.later hb).cells hxy
      have hki : (k : Int) < (n : Int) := by omega
      have HE := Lib.hid hno
      have HX := Lib.hid hxy
      have HP := Lib.hid hp
      clear hno hxy hp
      cases hbb : (y' == y) with
      | false =>
        have HB := Lib.hid hbb
        go_wp2_with fail
        go_roundw
        case rel =>
          refine ⟨k + 1, by omega, by go_num, fun j q hj hq => ?_, hb⟩
          by_cases hj' : j = k
          · subst hj'
            rw [HX.out] at hq
            cases hq
            exact HB.out
          · exact HE.out j q (by omega) hq
        case measure => simp [intOf]; omega
      | true =>
        have hm : hasNum l y = true := List.any_eq_true.2 ⟨_, List.mem_of_getElem? HX.out, hbb⟩
        have HM := Lib.hid hm
        clear hm
        go_wp2_with fail
        go_ret
        exact ⟨by rw [HM.out]; rfl, hb⟩
    · obtain rfl : k = n := by omega
      have hm : hasNum l y = false := by
        unfold hasNum
        rw [List.any_eq_false]
        intro q hq
        obtain ⟨j, hj⟩ := List.mem_iff_getElem?.1 hq
        have hjl := (List.getElem?_eq_some_iff.1 hj).1
        have := hno j q (by have := HN.out; omega) hj
        simp [this]
      have HM := Lib.hid hm
      clear hm hno
      go_wp2_with fail
      go_ret
      exact ⟨by rw [HM.out]; rfl, hb⟩

/-- a pair of a server and a number that there are -/
def inB (s n : Int) (p : Int × Int) : Bool := decide (0 ≤ p.1 ∧ p.1 < s ∧ 0 ≤ p.2 ∧ p.2 < n)
theorem inB_cases (s n x y : Int) : (inB s n (x, y) = true ∧ 0 ≤ x ∧ x < s ∧ 0 ≤ y ∧ y < n) ∨ (inB s n (x, y) = false ∧ (x < 0 ∨ (0 ≤ x ∧ s ≤ x) ∨ (0 ≤ x ∧ x < s ∧ y < 0) ∨ (0 ≤ x ∧ x < s ∧ 0 ≤ y ∧ n ≤ y))) := by
  unfold inB
  by_cases h : 0 ≤ x ∧ x < s ∧ 0 ≤ y ∧ y < n
  · exact .inl ⟨decide_eq_true h, h.1, h.2.1, h.2.2.1, h.2.2.2⟩
  · refine .inr ⟨decide_eq_false h, ?_⟩
    omega

set_option maxRecDepth 100000 in
set_option maxHeartbeats 1000000 in
theorem there_at (n c : Nat) (p : Option Addr) (l : List (Int × Int)) (s m : Int) (w : World) (hn : n ≤ 100100) (hp : HasP w (.slice p n c) l) :
    Calls Tryz.prog 18 #[.slice p n c, .int .i64 s, .int .i64 m] w fun e w' =>
      e = .returned (.bool (l.all (inB s m))) ∧ Below w.heap.size w w' := by
  have HN := Lib.hid hp.len
  go_enter Tryz.func18, Tryz.ntmps18
  go_wp2_with fail
  go_loopw [7] (fun i wr => ∃ k : Nat, k ≤ n ∧ i = .int .i64 k ∧ (∀ j q, j < k → l[j]? = some q → inB s m q = true) ∧ Below w.heap.size w wr) (fun i _ => n - (intOf i).toNat)
  case atStart => exact ⟨0, Nat.zero_le _, rfl, fun j _ hj => absurd hj (Nat.not_lt_zero _), Below.refl _ _⟩
  case round =>
    obtain ⟨k, hk, rfl, hno, hb⟩ := hrel
    by_cases hlt : k < n
    · obtain ⟨⟨x', y'⟩, hxy⟩ : ∃ q, l[k]? = some q := ⟨l[k]'(by have := HN.out; omega), List.getElem?_eq_getElem _⟩
      obtain ⟨a, rfl, h0, h1⟩ := (hp.later hb).cells hxy
      have hki : (k : Int) < (n : Int) := by omega
      have HE := Lib.hid hno
      have HX := Lib.hid hxy
      have HP := Lib.hid hp
      clear hno hxy hp
      rcases inB_cases s m x' y' with ⟨hin, g1, g2, g3, g4⟩ | ⟨hin, hout⟩
      · have HB := Lib.hid hin
        clear hin
        go_wp2_with fail
        go_roundw
        case rel =>
          refine ⟨k + 1, by omega, by go_num, fun j q hj hq => ?_, hb⟩
          by_cases hj' : j = k
          · subst hj'
            rw [HX.out] at hq
            cases hq
            exact HB.out
          · exact HE.out j q (by omega) hq
        case measure => simp [intOf]; omega
      · have hm : l.all (inB s m) = false := by
          rw [List.all_eq_false]
          exact ⟨_, List.mem_of_getElem? HX.out, by simp [hin]⟩
        have HM := Lib.hid hm
        clear hm hin
        rcases hout with g1 | ⟨g1, g2⟩ | ⟨g1, g2, g3⟩ | ⟨g1, g2, g3, g4⟩
        all_goals
          go_wp2_with fail
          go_ret
          exact ⟨by rw [HM.out]; rfl, hb⟩
    · obtain rfl : k = n := by omega
      have hm : l.all (inB s m) = true := by
        rw [List.all_eq_true]
        intro q hq
        obtain ⟨j, hj⟩ := List.mem_iff_getElem?.1 hq
        have hjl := (List.getElem?_eq_some_iff.1 hj).1
        exact hno j q (by have := HN.out; omega) hj
      have HM := Lib.hid hm
      clear hm hno
      go_wp2_with fail
      go_ret
      exact ⟨by rw [HM.out]; rfl, hb⟩
end Go.Proofs.YtfahbdakhbpfcaaGreat
namespace Go.Proofs.YtfahbdakhbpfcaaGreat
open Go.RowKit Go.Maps

/-- an element that is a pair: its numbers are of no account -/
def pairElem (v : Value) : Option (DataW Unit × List MemPlace) :=
  match v with
  | .agg cs => match cs.toList with
    | [.int .i64 _, .int .i64 _] => some (.agg [], [])
    | _ => none
  | _ => none
theorem pairElem_mk (x y : Int) : pairElem (.agg #[.int .i64 x, .int .i64 y]) = some (.agg [], []) := rfl
theorem pairElem_inv {v : Value} {z : DataW Unit × List MemPlace} (h : pairElem v = some z) : ∃ x y : Int, v = .agg #[.int .i64 x, .int .i64 y] := by
  unfold pairElem at h
  split at h
  · split at h
    · rename_i x y hcs
      exact ⟨x, y, congrArg Value.agg (Array.toList_inj.1 hcs)⟩
    · cases h
  · cases h
def keys (l : List (Int × Int)) : List Lit := l.map fun p => .int .i64 p.2
theorem law : Keyed Tryz.prog 3 := int_keyed Tryz.underlying3
theorem keys_lit (l : List (Int × Int)) : ∀ x ∈ keys l, WideAt.IsKeyLit x := by
  intro x hx
  obtain ⟨p, _, rfl⟩ := List.mem_map.1 hx
  trivial
theorem has_keys (l : List (Int × Int)) (i : Int) : Maps.has (setOf (.agg [] : DataW Unit) (keys l)) (.int .i64 i) = hasNum l i := by
  rw [has_setOf _ _ _ (keys_lit l)]
  unfold keys hasNum
  rw [List.any_map]
  congr 1
  funext p
  simp [Lit.sameKey]
  rfl
theorem zeroPair (w : World) : (zeroValue 44).run Tryz.prog w = .ok (.agg #[.int .i64 0, .int .i64 0]) w := by kernel_rfl
theorem wf_small {x : Int} (h0 : 0 ≤ x) (h1 : x ≤ 1000) : (Lit.int .i64 x).wf = true := WalkArith.wf_i64 (by omega)

set_option maxRecDepth 100000 in
set_option maxHeartbeats 1000000 in
theorem numbers_at (n c : Nat) (p : Option Addr) (l : List (Int × Int)) (w : World) (hn : n ≤ 100100) (hp : HasP w (.slice p n c) l) (hwf : ∀ q ∈ l, 0 ≤ q.2 ∧ q.2 ≤ 1000) :
    Calls Tryz.prog 13 #[.slice p n c] w fun e w' =>
      e = .returned (.map (some w.heap.size)) ∧ w'.ownsMap Tryz.prog 3 pairElem w.heap.size n (setOf (.agg []) (keys l)) ∧ Below w.heap.size w w' := by
  have HN := Lib.hid hp.len
  have hmm := @run_makeMap Tryz.prog
  go_enter Tryz.func13, Tryz.ntmps13
  go_wp2_with fail
  go_loopw [9] (fun i wr => ∃ k : Nat, k ≤ n ∧ i = .int .i64 k ∧ wr.ownsMap Tryz.prog 3 pairElem w.heap.size k (setOf (.agg []) (keys (l.take k))) ∧ Below w.heap.size w wr) (fun i _ => n - (intOf i).toNat)
  case atStart => exact ⟨0, Nat.zero_le _, rfl, World.ownsMap_made _ _ _ _, (Below.refl _ _).alloc (Nat.le_refl _) _⟩
  case round =>
    obtain ⟨k, hk, rfl, hown, hb⟩ := hrel
    by_cases hlt : k < n
    · obtain ⟨⟨x, y⟩, hxy⟩ : ∃ q, l[k]? = some q := ⟨l[k]'(by have := HN.out; omega), List.getElem?_eq_getElem _⟩
      obtain ⟨a, rfl, h0, h1⟩ := (hp.later hb).cells hxy
      have hy := hwf _ (List.mem_of_getElem? hxy)
      have hki : (k : Int) < (n : Int) := by omega
      have hks : keys (l.take (k + 1)) = keys (l.take k) ++ [.int .i64 y] := by
        rw [List.take_add_one, hxy]
        simp [keys]
      have HK := Lib.hid hks
      have HP := Lib.hid hp
      have HW := Lib.hid hwf
      have hkey := keyOf_int_mk (P := Tryz.prog) (k := 3) Tryz.underlying3 (wf_small hy.1 hy.2)
      have HKEY := Lib.hid hkey
      clear hks hp hwf hxy hkey hmm
      go_wp2_with (at_mapUpdate; refine wpList_mapUpdate_own _ rfl (.tmp 13) (.tmp 15) (.tmp 16) 47 rfl 3 44 law Tryz.underlying47 pairElem w.heap.size k _ rfl (hown.alloc _) (by unfold maxLen; omega) _ _ (.int .i64 y) rfl rfl HKEY.out (.agg []) [] rfl ?_; intro w1 hown1 hgrow1)
      rw [← setOf_snoc, ← HK.out] at hown1
      have hB1 : Below w.heap.size w w1 := (hb.alloc hb.size _).grown hgrow1 (by have := hb.size; simp; omega) (fun r hr => by cases hr; exact Nat.le_refl _)
      clear hown hb hgrow1
      go_wp2_with fail
      go_roundw
      case rel => exact ⟨k + 1, by omega, by go_num, hown1, hB1⟩
      case measure => simp [intOf]; omega
    · obtain rfl : k = n := by omega
      rw [List.take_of_length_le (by have := HN.out; omega)] at hown
      go_wp2_with fail
      go_ret
      exact ⟨rfl, hown, hb⟩
end Go.Proofs.YtfahbdakhbpfcaaGreat
