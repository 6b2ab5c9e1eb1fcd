/-
  Same: WALKS: strongroomkit's lists of pairs: SamePairs, KeptPairs, OverPairs; conditions: at most 100000 pairs.
-/
import Derived.Test.YtfahbdakhbpfcaaGreatM24
import Derived.Laws.StructEq
namespace Go.Proofs.YtfahbdakhbpfcaaGreat
open Go.RowKit

theorem HasP.len {w : World} {p : Option Addr} {n c : Nat} {l : List (Int × Int)} (h : HasP w (.slice p n c) l) : n = l.length := by
  rcases h with ⟨h, rfl⟩ | ⟨a, c', h, _, _⟩
  · simp only [Value.slice.injEq] at h
    exact h.2.1
  · simp only [Value.slice.injEq] at h
    exact h.2.1
/-- element k's cells -/
theorem HasP.cells {w : World} {p : Option Addr} {n c k : Nat} {l : List (Int × Int)} {x y : Int} (h : HasP w (.slice p n c) l) (hk : l[k]? = some (x, y)) :
    ∃ a, p = some a ∧ w.cell? (a.add (k * 2)) = some (.int .i64 x) ∧ w.cell? ⟨(a.add (k * 2)).block, (a.add (k * 2)).off + 1, none⟩ = some (.int .i64 y) := by
  rcases h with ⟨_, rfl⟩ | ⟨a, c', h, _, hc⟩
  · simp at hk
  · simp only [Value.slice.injEq] at h
    obtain ⟨rfl, -, -⟩ := h
    obtain ⟨h0, h1⟩ := hc k _ hk
    refine ⟨a, rfl, h0, ?_⟩
    rw [← Deep.add_add] at h1
    exact h1
theorem HasP.later {w w' : World} {v : Value} {l : List (Int × Int)} (h : HasP w v l) (hb : Below w.heap.size w w') : HasP w' v l := by
  rcases h with h | ⟨a, c, rfl, hc, h⟩
  · exact .inl h
  · exact .inr ⟨a, c, rfl, hc, fun i p hp => ⟨(hb.cell (block_lt_of_cell (h i p hp).1)).trans (h i p hp).1, (hb.cell (block_lt_of_cell (h i p hp).2)).trans (h i p hp).2⟩⟩

theorem pair_eqS : Tryz.prog.underlying 44 = some (.struct (Tryz.prog.fieldsOf 44)) := by kernel_rfl
theorem pair_stood : Tryz.prog.stoodInHeld 44 = false := by kernel_rfl
theorem pair_guard : Tryz.prog.eqGuardType Tryz.prog.depth 44 = false := by kernel_rfl
theorem equalIn_pair (d : Nat) (x y x' y' : Int) (w : World) : (Op.equalIn (d + 2) 44 (.agg #[.int .i64 x, .int .i64 y]) (.agg #[.int .i64 x', .int .i64 y'])).run Tryz.prog w = .ok (x == x' && y == y') w := by
  rw [run_equalIn_struct w (d + 1) _ _ _ pair_eqS pair_stood]
  simp only [Program.fieldsOf, Tryz.underlying44]
  by_cases h : x = x'
  · by_cases h2 : y = y' <;> simp [Op.eqFields, part, isAgg, run_underlying Tryz.underlying3, run_equalIn_int w _ 3 .i64 .i64 _ _ Tryz.underlying3, h, h2]
  · simp [Op.eqFields, part, isAgg, run_underlying Tryz.underlying3, run_equalIn_int w _ 3 .i64 .i64 _ _ Tryz.underlying3, h]
theorem neq_pair (x y x' y' : Int) (w : World) : (binOp .neq 44 (.agg #[.int .i64 x, .int .i64 y]) (.agg #[.int .i64 x', .int .i64 y'])).run Tryz.prog w = .ok (.bool (!(x == x' && y == y'))) w := by
  rw [run_neq_struct, equalIn_pair 9998]
  rfl
theorem eql_pair (x y x' y' : Int) (w : World) : (binOp .eql 44 (.agg #[.int .i64 x, .int .i64 y]) (.agg #[.int .i64 x', .int .i64 y'])).run Tryz.prog w = .ok (.bool (x == x' && y == y')) w := by
  rw [run_eql_struct, equalIn_pair 9998]
  rfl

set_option maxRecDepth 100000 in
set_option maxHeartbeats 4000000 in
theorem samepairs_at (n m c d : Nat) (p q : Option Addr) (l r : List (Int × Int)) (w : World) (hn : n ≤ 100100) (hm : m ≤ 100100) (hp : HasP w (.slice p n c) l) (hq : HasP w (.slice q m d) r) :
    Calls Tryz.prog 16 #[.slice p n c, .slice q m d] w fun e w' => e = .returned (.bool (decide (l = r))) ∧ Below w.heap.size w w' := by
  have hnl := hp.len
  have hmk := hq.len
  have HN := Lib.hid hnl
  have HM := Lib.hid hmk
  clear hnl hmk
  go_enter Tryz.func16, Tryz.ntmps16
  by_cases hnm : n = m
  · subst hnm
    go_wp2_with fail
    go_loopw [5] (fun i wr => ∃ k : Nat, k ≤ n ∧ i = .int .i64 k ∧ (∀ j, j < k → l[j]? = r[j]?) ∧ Below w.heap.size w wr) (fun i _ => n - (intOf i).toNat)
    case atStart => exact ⟨0, Nat.zero_le _, rfl, fun j hj => absurd hj (Nat.not_lt_zero _), Below.refl _ _⟩
    case round =>
      obtain ⟨k, hk, rfl, heq, hb⟩ := hrel
      by_cases hlt : k < n
      · obtain ⟨⟨x, y⟩, hxy⟩ : ∃ q, l[k]? = some q := ⟨l[k]'(by have := HN.out; omega), List.getElem?_eq_getElem _⟩
        obtain ⟨⟨x', y'⟩, hxy'⟩ : ∃ q, r[k]? = some q := ⟨r[k]'(by have := HM.out; omega), List.getElem?_eq_getElem _⟩
        obtain ⟨a, rfl, h0, h1⟩ := (hp.later hb).cells hxy
        obtain ⟨a', rfl, h0', h1'⟩ := (hq.later hb).cells hxy'
        have hki : (k : Int) < (n : Int) := by omega
        have HE := Lib.hid heq
        have HX := Lib.hid hxy
        have HX' := Lib.hid hxy'
        clear heq hxy hxy' hp hq
        have hne := neq_pair x y x' y'
        have hgd := pair_guard
        go_wp2_with fail
        go_quiet (fail)
        have hb2 := below_drewN hb nq
        generalize wr.drewN nq = W at *
        generalize hbb : (!x == x' || !y == y') = bb
        have HB := Lib.hid hbb
        clear hbb hb hne
        cases bb
        · go_wp2_with fail
          go_roundw
          case rel =>
            refine ⟨k + 1, by omega, by go_num, fun j hj => ?_, hb2⟩
            have hbb := HB.out
            simp only [Bool.or_eq_false_iff, Bool.not_eq_false', beq_iff_eq] at hbb
            obtain ⟨rfl, rfl⟩ := hbb
            by_cases hj' : j = k
            · subst hj'
              rw [HX.out, HX'.out]
            · exact HE.out j (by omega)
          case measure => simp [intOf]; omega
        · have hd : decide (l = r) = false := by
            apply decide_eq_false
            rintro rfl
            have h2 := HX.out.symm.trans HX'.out
            simp only [Option.some.injEq, Prod.mk.injEq] at h2
            have hbb := HB.out
            simp [h2] at hbb
          go_wp2_with fail
          go_ret
          exact ⟨by rw [hd]; rfl, hb2⟩
      · obtain rfl : k = n := by omega
        have he : l = r := List.ext_getElem? fun j => by
          by_cases hj : j < k
          · exact heq j hj
          · rw [List.getElem?_eq_none (by have := HN.out; omega), List.getElem?_eq_none (by have := HM.out; omega)]
        have HE := Lib.hid he
        clear he heq
        go_wp2_with fail
        go_ret
        exact ⟨by rw [decide_eq_true HE.out]; rfl, hb⟩
  · have hne : ((n : Int) != (m : Int)) = true := by simp; omega
    have hd : decide (l = r) = false := by
      apply decide_eq_false
      rintro rfl
      have := HN.out
      have := HM.out
      omega
    go_wp2_with fail
    go_ret
    exact ⟨by rw [hd]; rfl, Below.refl _ _⟩

theorem flat_get {l : List (Int × Int)} : ∀ {i : Nat} {p : Int × Int}, l[i]? = some p → (flat l)[i * 2]? = some (.int .i64 p.1) ∧ (flat l)[i * 2 + 1]? = some (.int .i64 p.2) := by
  induction l with
  | nil => intro i p h; simp at h
  | cons q l ih =>
    intro i p h
    cases i with
    | zero =>
      obtain rfl : q = p := by simpa using h
      exact ⟨rfl, rfl⟩
    | succ i =>
      have h' := ih (i := i) (p := p) (by simpa using h)
      have e1 : (i + 1) * 2 = i * 2 + 1 + 1 := by omega
      have e2 : (i + 1) * 2 + 1 = i * 2 + 1 + 1 + 1 := by omega
      rw [e2, e1]
      simpa [flat, pcells] using h'
theorem hasP_of_owns {w : World} {base n : Nat} {e : TypeId} {v : Value} {l : List (Int × Int)} (h : w.ownsRow base e 2 v n (flat l)) : HasP w v l := by
  have hl : l.length = n := by have := h.1; rw [flat_length] at this; omega
  rcases h.2 with ⟨rfl, hn⟩ | ⟨g, cap, cur, rfl, _, _, hcap, _⟩
  · exact .inl ⟨rfl, List.eq_nil_of_length_eq_zero (by omega)⟩
  · refine .inr ⟨_, cap, by rw [hl], by omega, fun i p hp => ?_⟩
    obtain ⟨h0, h1⟩ := flat_get hp
    have hc := h.cells rfl
    exact ⟨by simpa using hc _ _ h0, by simpa using hc _ _ h1⟩
end Go.Proofs.YtfahbdakhbpfcaaGreat
