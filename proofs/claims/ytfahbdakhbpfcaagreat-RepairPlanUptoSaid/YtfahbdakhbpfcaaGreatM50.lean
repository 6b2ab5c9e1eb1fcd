/-
  Kept: WALKS: strongroomkit's lists of pairs: KeptPairs, OverPairs; conditions: at most 100000 pairs.
  Over: WALKS: strongroomkit's lists of pairs: OverPairs: only the list's own block turns; conditions: at most 100100 pairs, in a block of their own.
  Apart: WALK: strongroomkit.ApartInts of rows of a call's own: true; blocks of other types stay; conditions: at most 1000 rows of at most 1000 ints, no two in one block.
  PlanL: Both plans' contracts as the law calls them; conditions: at most 100100 pairs a list.
  LawA: PLAIN LAW: what the law on plans hands about: a lent list's head, two plans' servers side by side; a load in a drawn region; conditions: none.
  LawZ: WALK: strongroomlaw28.RepairPlan: true; nothing that was there is written; conditions: none.
  LawL: WALK: strongroomlaw28.RepairPlan of lists too long for it, and of all; conditions: none.
  Post: PLAIN LAW: a row's word behind the call, where whatever was there before lies as it lay; conditions: none.
  OpenZ: PLAIN LAW: the law's arguments opened: a capability's cells, a slice of pairs; conditions: none.
  UptoZ: RepairPlan answers true and leaves what is handed in alone, for every capability, number of servers and pairs; conditions: the row's own (what is read is of bulk at most 1048576; the proof does not need it).
-/
import Derived.Test.YtfahbdakhbpfcaaGreatM1
import Derived.Test.YtfahbdakhbpfcaaGreatM25
import Derived.Test.YtfahbdakhbpfcaaGreatM31
import Derived.Test.YtfahbdakhbpfcaaGreatM49
import Derived.ChangeSame
import Derived.Deep.SlicePairs
import Derived.Test.YtfahbdakhbpfcaaGreatRows
import Derived.JoinedCond
import Derived.LaidMore
import Derived.Carry
namespace Go.Proofs.YtfahbdakhbpfcaaGreat
open Go.RowKit

set_option maxRecDepth 100000 in
set_option maxHeartbeats 400000 in
/-- what was lent is as it was -/
theorem kept_at (n m c d : Nat) (p q : Option Addr) (l : List (Int × Int)) (w : World) (hn : n ≤ 100000) (hm : Hid (n + 70 = m)) (hp : HasP w (.slice p n c) l) (hq : HasP w (.slice q m d) (lent l)) :
    Calls Tryz.prog 6 #[.slice q m d, .slice p n c] w fun e w' => e = .returned (.bool true) ∧ Below w.heap.size w w' := by
  have HN := Lib.hid hp.len
  have HP := Lib.hid hp
  have HQ := Lib.hid hq
  clear hp hq
  go_enter Tryz.func6, Tryz.ntmps6
  go_wp2_with fail
  refine (lent_at n c p l w HN.out.symm hn HP.out).mono ?_
  rintro e w1 ⟨v, rfl, hown, hb⟩
  have e1 : (l ++ (List.range 70).map fun i : Nat => (1000003, (n : Int) + (i : Int))) = lent l := by unfold lent; rw [← HN.out]
  rw [e1, hm.out] at hown
  have hq := Lib.hid (hasP_of_owns hown)
  obtain ⟨g, cap, rfl⟩ : ∃ a c, v = .slice a m c := by
    rcases hown.2 with ⟨_, h0⟩ | ⟨g, cap, _, rfl, _⟩
    · have := hm.out
      omega
    · exact ⟨_, _, rfl⟩
  have hq1 := Lib.hid (HQ.out.later hb)
  have hmm : m ≤ 100100 := by have := hm.out; omega
  clear e1 hown HQ HP HN hm
  have key := samepairs_at m m d cap q g (lent l) (lent l) w1 hmm hmm hq1.out hq.out
  clear hq hq1
  generalize hL : decide (lent l = lent l) = bb at key
  have hbb : bb = true := by rw [← hL]; exact decide_eq_true rfl
  subst hbb
  clear hL
  go_wp2_with fail
  refine key.mono ?_
  rintro e w2 ⟨rfl, hb2⟩
  go_wp2_with fail
  go_ret
  exact ⟨rfl, hb.trans (hb2.mono hb.size)⟩
end Go.Proofs.YtfahbdakhbpfcaaGreat
namespace Go.Proofs.YtfahbdakhbpfcaaGreat
open Go.RowKit

theorem only_below {a w w' : World} {row : Option Nat} (h : a.grownBy w row) (hb : Below w.heap.size w w') : a.grownBy w' row :=
  ⟨hb.os.trans h.os, hb.tape.trans h.tape, hb.output.trans h.output, Nat.le_trans h.size hb.size, fun i hi hne => (hb.block i (Nat.lt_of_lt_of_le hi h.size)).trans (h.block i hi hne)⟩
theorem only_setCell {a w : World} {g : Nat} (h : a.grownBy w (some g)) {p : Addr} (hp : p.block = g ∨ a.heap.size ≤ p.block) (u : Value) : a.grownBy (w.setCell p u) (some g) :=
  ⟨h.os, h.tape, h.output, by simpa [World.setCell] using h.size, fun i hi hne => (Below.heap_setCell w p u i (by
    rintro rfl
    rcases hp with hp | hp
    · exact hne (by rw [hp])
    · omega)).trans (h.block i hi hne)⟩

set_option maxRecDepth 100000 in
set_option maxHeartbeats 1000000 in
theorem over_at (base n cap g : Nat) (xs : List Value) (w : World) (hn : n ≤ 100100) (hown : w.ownsRow base 44 2 (.slice (some ⟨g, 0, none⟩) n cap) n xs) :
    Calls Tryz.prog 7 #[.slice (some ⟨g, 0, none⟩) n cap] w fun e w' => e = .returned (.tuple #[]) ∧ w.grownBy w' (some g) := by
  have HO := Lib.hid hown
  clear hown
  go_enter Tryz.func7, Tryz.ntmps7
  go_wp2_with fail
  go_loopw [2] (fun i wr => ∃ k : Nat, k ≤ n ∧ i = .int .i64 k ∧ (∃ ys, wr.ownsRow base 44 2 (.slice (some ⟨g, 0, none⟩) n cap) n ys) ∧ w.grownBy wr (some g)) (fun i _ => n - (intOf i).toNat)
  case atStart => exact ⟨0, Nat.zero_le _, rfl, ⟨xs, HO.out⟩, World.grownBy.refl _ _⟩
  case round =>
    obtain ⟨k, hk, rfl, ⟨ys, hown⟩, hg⟩ := hrel
    by_cases hlt : k < n
    · have hki : (k : Int) < (n : Int) := by omega
      go_wp2_with fail
      refine (mark_at 7 ((k : Int) + 3) (by omega) wr).mono ?_
      rintro e w1 ⟨rfl, hb1⟩
      have hown1 := owns_below hown hb1 (Nat.le_refl _)
      have hg1 := only_below hg hb1
      have hlen := hown1.1
      have c0 := hown1.cellAt (k * 2) (by omega)
      have c1 := hown1.cellAt (k * 2 + 1) (by omega)
      have f0 := hown1.frozenAt (k * 2)
      have f1 := hown1.frozenAt (k * 2 + 1)
      rw [List.getElem?_eq_getElem (by omega)] at c0 c1
      unfold pval
      go_wp2_with fail
      have s0 := hown1.stored (k * 2) (.int .i64 (1000003 * (7 + 1)))
      have s1 := s0.1.stored (k * 2 + 1) (.int .i64 ((k : Int) + 3))
      have g1 := only_setCell (only_setCell hg1 (p := ⟨g, k * 2, none⟩) (Or.inl rfl) (.int .i64 (1000003 * (7 + 1)))) (p := ⟨g, k * 2 + 1, none⟩) (Or.inl rfl) (.int .i64 ((k : Int) + 3))
      go_roundw
      case rel => exact ⟨k + 1, by omega, by go_num, ⟨_, s1.1⟩, g1⟩
      case measure => simp [intOf]; omega
    · go_wp2_with fail
      go_end0
      exact ⟨rfl, hg⟩
end Go.Proofs.YtfahbdakhbpfcaaGreat
namespace Go.Proofs.YtfahbdakhbpfcaaGreat
open Go.RowKit

theorem markint_same (k i : Int) (hk : 0 ≤ k ∧ k ≤ 100000) (hi : 0 ≤ i ∧ i ≤ 1000000) (w : World) : Calls Tryz.prog 23 #[.int .i64 k, .int .i64 i] w fun e w' => e = .returned (.int .i64 (1000003 * (k + 1) + i)) ∧ w' = w :=
  (markint_at k i hk hi w).mono fun _ _ ⟨h1, h2⟩ => ⟨h1, h2.symm⟩

theorem lsRow_at {w : World} {bl n : Nat} {v : Value} {p : Nat → Option Addr} {len c : Nat → Nat} (h : w.ownsRow bl 38 1 v n ((List.range n).map (slc p len c))) {k : Nat} (hk : k < n) :
    ∃ b cv, v = .slice (some ⟨b, 0, none⟩) n cv ∧ w.cell? ⟨b, k, none⟩ = some (.slice (p k) (len k) (c k)) := by
  rcases h.2 with ⟨_, h0⟩ | ⟨g, cap, cur, rfl, hb, hg, rest⟩
  · omega
  · refine ⟨g, cap, rfl, ?_⟩
    rw [h.cellAt k (by omega)]
    simp [hk, slc]

set_option maxRecDepth 100000 in
set_option maxHeartbeats 2000000 in
theorem apart_at (base bl n cv : Nat) (pv : Option Addr) (p : Nat → Option Addr) (len c : Nat → Nat) (f : Nat → List Int) (w : World) (hn : n ≤ 1000) (hlen : ∀ i, i < n → len i ≤ 1000)
    (hbase : base ≤ w.heap.size) (hv : w.ownsRow bl 38 1 (.slice pv n cv) n ((List.range n).map (slc p len c))) (hf : OwnF 3 w base n p len c f) :
    Calls Tryz.prog 10 #[.slice pv n cv] w fun e w' => e = .returned (.bool true) ∧ Below base w w' ∧ KeptBut 3 w w' := by
  obtain ⟨i0, hi0, hz0, hz1, hz2⟩ := info_parts info_int
  obtain ⟨i1, hi1, hy0, hy1, hy2⟩ := info_parts info_row
  go_enter Tryz.func10, Tryz.ntmps10
  go_wp2_with fail
  go_loopw [3] (fun i wr => ∃ k : Nat, k ≤ n ∧ i = .int .i64 k ∧ (∃ g, OwnF 3 wr base n p len c g ∧ ∀ i, i < k → g i = mks i (len i)) ∧ Below base w wr ∧ KeptBut 3 w wr) (fun i _ => n - (intOf i).toNat)
  case atStart => exact ⟨0, Nat.zero_le _, rfl, ⟨f, hf, fun i hi => absurd hi (Nat.not_lt_zero _)⟩, Below.refl _ _, KeptBut.refl _ _⟩
  case round =>
    obtain ⟨k, hk, rfl, ⟨g, hown, hdone⟩, hb, hkb⟩ := hrel
    by_cases hlt : k < n
    · have hki : (k : Int) < (n : Int) := by omega
      go_wp2_with fail
      have hnk := hlen k hlt
      go_loopw [4] (fun j wr => ∃ m : Nat, m ≤ len k ∧ j = .int .i64 m ∧ (∃ g, OwnF 3 wr base n p len c g ∧ (∀ i, i < k → g i = mks i (len i)) ∧ ∀ q, q < m → (g k)[q]? = some (mkv k q)) ∧ Below base w wr ∧ KeptBut 3 w wr) (fun i _ => len k - (intOf i).toNat)
      case atStart => exact ⟨0, Nat.zero_le _, rfl, ⟨g, hown, hdone, fun q hq => absurd hq (Nat.not_lt_zero _)⟩, hb, hkb⟩
      case round =>
        clear hown hdone hb hkb
        obtain ⟨m, hm, rfl, ⟨g, hown, hdone, hpart⟩, hb, hkb⟩ := hrel
        obtain ⟨b, cv', he, hc⟩ := lsRow_at (hkb.owns hv (by decide)) hlt
        simp only [Value.slice.injEq, true_and] at he
        obtain ⟨rfl, rfl⟩ := he
        by_cases hmlt : m < len k
        · obtain ⟨gb, hpk, hgb, hgw, ⟨x, hx⟩, hfz, hty⟩ := hown.at_ hlt hmlt
          rw [hpk] at hc
          have hmi : (m : Int) < (len k : Int) := by omega
          have HPK := Lib.hid hpk
          have HP := Lib.hid hpart
          have HD := Lib.hid hdone
          clear hpk hpart hdone
          go_wp2_with fail
          have e1 : IntKind.i64.wrap ((k : Int) + 1) = (k : Int) + 1 := IntWalk.i64_in _ ⟨by omega, by omega⟩
          go_still_tail 10, (by kernel_rfl)
          still_call (markint_same ((k : Int) + 1) (m : Int) (by omega) (by omega) _)
          repeat still_step
          refine wpStill_nil ?_
          change wpList _ _ _ _ _ wr.drew
          clear e1
          have S := hown.store (j := m) hlt HPK.out (mkv k m)
          have hB2 := (hb.drew).setCell (p := ⟨gb, m, none⟩) hgb (.int .i64 (mkv k m))
          have hK2 : KeptBut 3 w ((wr.drew).setCell ⟨gb, m, none⟩ (.int .i64 (mkv k m))) := hkb.grown (w' := (wr.drew).setCell ⟨gb, m, none⟩ (.int .i64 (mkv k m))) ⟨S.2.os, S.2.tape, S.2.output, S.2.size, S.2.block⟩ (fun r hr => by cases hr; exact .inr hty)
          have S1 : OwnF 3 ((wr.drew).setCell ⟨gb, m, none⟩ (.int .i64 (mkv k m))) base n p len c _ := S.1
          go_wp2_with fail
          go_roundw
          case rel =>
            refine ⟨m + 1, by omega, by go_num, ⟨_, S1, fun i hi => ?_, fun q hq => ?_⟩, hB2, hK2⟩
            · have hne : ¬ i = k := by omega
              simp only [hne, if_false]
              exact HD.out i hi
            · simp only [if_true]
              by_cases hqm : q = m
              · subst hqm
                rw [List.getElem?_set_self (by rw [hown.flen hlt]; exact hmlt)]
              · rw [List.getElem?_set_ne (fun e => hqm e.symm)]
                exact HP.out q (by omega)
          case measure => simp [intOf]; omega
        · obtain rfl : m = len k := by omega
          have hfin : g k = mks k (len k) := List.ext_getElem? fun q => by
            by_cases hq : q < len k
            · rw [hpart q hq, mks_get k hq]
            · rw [List.getElem?_eq_none (by rw [hown.flen hlt]; omega), List.getElem?_eq_none (by simp; omega)]
          have HF := Lib.hid hfin
          have HD := Lib.hid hdone
          clear hfin hdone hpart
          go_wp2_with fail
          go_roundw
          case rel =>
            refine ⟨k + 1, by omega, by go_num, ⟨g, hown, fun i hi => ?_⟩, hb, hkb⟩
            by_cases hik : i = k
            · subst hik
              exact HF.out
            · exact HD.out i (by omega)
          case measure => simp [intOf]; omega
    · obtain rfl : k = n := by omega
      obtain ⟨w1, rfl⟩ : ∃ w1 : World, w1 = wr := ⟨_, rfl⟩
      have hsp : Spread w1.heap.size k p := ⟨hown.2, fun i a hi ha => by
        have h1 := hown.1 i hi
        rw [ha] at h1
        exact (h1.lt a.block rfl).2⟩
      have htodo : Todo 3 k base p len c w1 0 := fun i _ hi => by
        have h1 := hown.1 i hi
        rw [hdone i hi] at h1
        exact h1
      have hhead : ∀ i a, i < k → p i = some a → a = ⟨a.block, 0, none⟩ := fun i a hi ha => by
        rcases (hown.1 i hi).2 with ⟨h0, _⟩ | ⟨g, _, _, h0, _⟩
        · rw [ha] at h0; cases h0
        · rw [ha] at h0
          simp only [Value.slice.injEq, Option.some.injEq] at h0
          rw [h0.1]
      have HSZ : base ≤ w1.heap.size ∧ w.heap.size ≤ w1.heap.size := ⟨by have := hb.size; omega, hb.size⟩
      have HSP := Lib.hid hsp
      have HT := Lib.hid htodo
      have HH := Lib.hid hhead
      clear hown hdone hf hsp htodo hhead
      go_wp2_with fail
      go_loopw [5, 6] (fun G i w2 => ∃ m : Nat, m ≤ k ∧ i = .int .i64 m ∧ (∃ gv : Nat → Value, w2.ownsRow w1.heap.size 38 1 G m ((List.range m).map gv) ∧ Done 3 w1.heap.size p len c w2 m gv) ∧ Todo 3 k base p len c w2 m ∧ w1.heap.size ≤ w2.heap.size ∧ Below base w w2 ∧ KeptBut 3 w w2) (fun _ i _ => k - (intOf i).toNat)
      case atStart => exact ⟨0, Nat.zero_le _, rfl, ⟨fun _ => undef, World.ownsRow_nil _ _ _ _, fun i hi => absurd hi (Nat.not_lt_zero _)⟩, HT.out, Nat.le_refl _, hb, hkb⟩
      case round =>
        clear hb hkb HT
        obtain ⟨m, hm, rfl, ⟨gv, hG, hdone⟩, htodo, hsz, hb, hkb⟩ := hrel
        obtain ⟨w2, rfl⟩ : ∃ w2 : World, w2 = wr := ⟨_, rfl⟩
        by_cases hlt : m < k
        · obtain ⟨b, cv', he, hc⟩ := lsRow_at (hkb.owns hv (by decide)) hlt
          simp only [Value.slice.injEq, true_and] at he
          obtain ⟨rfl, rfl⟩ := he
          have hki : (m : Int) < (k : Int) := by omega
          have hnm := hlen m hlt
          have hcz : slc p len c m = .slice (p m) (len m) (c m) := rfl
          have HCZ := Lib.hid hcz
          have HG := Lib.hid hG
          have HD := Lib.hid hdone
          have HT := Lib.hid htodo
          clear hcz hG hdone htodo
          rw [← HCZ.out] at hc
          go_wp2_with fail
          go_loopw [7, 8] (fun g j w3 => ∃ q : Nat, q ≤ 70 ∧ j = .int .i64 q ∧ Run (ti := 3) (base := base) (p := p) (len := len) (c := c) w2 w3 m q g ∧ Below base w w3 ∧ KeptBut 3 w w3) (fun _ j _ => 70 - (intOf j).toNat)
          case atStart => exact ⟨0, Nat.zero_le _, rfl, Run.start HT.out hlt, hb, hkb⟩
          case round =>
            clear hb hkb hc
            obtain ⟨q, hq, rfl, hrun, hb, hkb⟩ := hrel
            obtain ⟨w3, rfl⟩ : ∃ w3 : World, w3 = wr := ⟨_, rfl⟩
            by_cases hlt2 : q < 70
            · obtain ⟨b', cv', he, hc⟩ := lsRow_at (hkb.owns hv (by decide)) hlt
              simp only [Value.slice.injEq, Option.some.injEq, Addr.mk.injEq, and_true, true_and] at he
              obtain ⟨hbb, -⟩ := he
              rw [← hbb] at hc
              have hqi : (q : Int) < 70 := by omega
              have HR := Lib.hid hrun
              clear hrun hbb
              go_wp2_with fail
              have hmk : (1000003 * ((m : Int) + 1 + 1) + (((len m : Nat) : Int) + (q : Int))) = mkv m (len m + q) := by unfold mkv; rw [Int.natCast_add]
              have hcall := markint_at ((m : Int) + 1) (((len m : Nat) : Int) + (q : Int)) (by omega) (by omega) w3
              rw [hmk] at hcall
              clear hmk
              refine hcall.mono ?_
              rintro e w4 ⟨rfl, rfl⟩
              clear hcall
              go_wp2_with (at_builtin; refine wpList_append_keep rfl (.tmp 51) (.tmp 62) 38 rfl base 3 i0 (.int .i64 0) 1 8 Tryz.underlying38 hi0 hz0 hz1 hz2 rfl (by decide) _ (len m + q) _ rfl (HR.out.1.alloc _) ⟨w3.heap.size, 0, none⟩ 1 1 [.int .i64 (mkv m (len m + q))] rfl rfl ?c1 ?c2 ?c3 ?c4 ?c5 ?_)
              case c1 =>
                intro j u hj
                rw [Addr.add_mid, Nat.zero_add, (Row.new w3 _ _).cell]
                simpa using hj
              case c2 =>
                intro u hu
                simp at hu
                subst hu
                rfl
              case c3 => unfold maxLen; omega
              case c4 => omega
              case c5 => have := hb.size; simp; omega
              intro g' w4 ho hor
              have hR2 := (HR.out.alloc (.cells #[.int .i64 (mkv m (len m + q))] 3)).step (fun r hr => by
                have hz := HSP.out.2 m
                unfold slc at hr
                cases hp : p m with
                | none => rw [hp] at hr; cases hr
                | some a =>
                  rw [hp] at hr
                  simp only [Value.ownBlock, Option.some.injEq] at hr
                  have := hz a hlt hp
                  omega) (fun a ha => HH.out m a hlt ha) ho hor (by have := HR.out.2.2.1.size; omega)
              have hkg := keep_grown (hkb.trans (KeptBut.of_below ((Below.refl _ _).alloc (Nat.le_refl _) (.cells #[.int .i64 (mkv m (len m + q))] 3)))) (hb.alloc (by have := hb.size; omega) (.cells #[.int .i64 (mkv m (len m + q))] 3)) (HR.out.1.alloc _) hor (by have := hb.size; simp; omega)
              clear ho hor HR hb hkb
              obtain ⟨hkb, hb⟩ := hkg
              have HR2 := Lib.hid hR2
              clear hR2
              go_wp2_with fail
              go_roundw
              case rel => exact ⟨q + 1, by omega, by go_num, HR2.out, hb, hkb⟩
              case measure => simp [intOf]; omega
            · obtain rfl : q = 70 := by omega
              have HR := Lib.hid hrun
              clear hrun
              obtain ⟨a7, n7, c7, rfl⟩ : ∃ a n c, u7 = Value.slice a n c := by
                rcases HR.out.1.2 with ⟨h0, _⟩ | ⟨_, _, _, h0, _⟩ <;> exact ⟨_, _, _, h0⟩
              have hG3 := (HG.out.kept HR.out.2.2.1 (owns_apart HG.out (HT.out m (Nat.le_refl _) hlt) (by decide))).alloc (.cells #[.slice a7 n7 c7] 38)
              have hsz3 : w1.heap.size ≤ w3.heap.size := by have := HR.out.2.2.1.size; omega
              go_wp2_with (at_builtin; go_must (refine wpList_append_own _ rfl (.tmp 64) (.tmp 66) 37 rfl w1.heap.size 38 i1 (.slice none 0 0) 1 24 Tryz.underlying37 hi1 hy0 hy1 hy2 rfl (by decide) _ m _ rfl hG3 ⟨w3.heap.size, 0, none⟩ 1 1 [.slice a7 n7 c7] rfl rfl ?d1 ?d2 ?d3 ?d4 ?d5 ?_))
              case d1 =>
                intro j u hj
                rw [Addr.add_mid, Nat.zero_add, (Row.new w3 _ _).cell]
                simpa using hj
              case d2 =>
                intro u hu
                simp at hu
                subst hu
                rfl
              case d3 => unfold maxLen; omega
              case d4 => omega
              case d5 => simp; omega
              intro G' w4 hG4 hg4 _
              have hDone : Done 3 w1.heap.size p len c w4 (m + 1) (fun i => if i = m then .slice a7 n7 c7 else gv i) := by
                have d3 := ((HD.out.far HSP.out hlt HR.out.2.2.1).snoc (HasI.of_owns (by have := HR.out.1; rwa [Nat.add_comm (len m) 70, Nat.add_comm 70 (len m)] at this)) HR.out.2.1 (by
                  rcases HR.out.2.2.2 with h | h
                  · exact .inl h
                  · exact .inr fun r hr => by have := h r hr; omega)).none_ (World.grownBy_alloc w3 (.cells #[.slice a7 n7 c7] 38) none)
                exact d3.row hG3 (by decide) hg4
              have hTodo := ((HT.out.far HSP.out hlt HR.out.2.2.1).none_ (World.grownBy_alloc w3 (.cells #[.slice a7 n7 c7] 38) none)).row hG3 (by decide) hg4
              have hB4 : Below base w w4 := (hb.alloc (by have := hb.size; omega) (.cells #[.slice a7 n7 c7] 38)).grown hg4 (by have := hb.size; simp; omega) (fun r hr => by have := (hG3.lt r hr).1; have := HSZ.1; have := HSZ.2; omega)
              have hK4 : KeptBut 3 w w4 := (hkb.trans (KeptBut.of_below ((Below.refl _ _).alloc (Nat.le_refl _) (.cells #[.slice a7 n7 c7] 38)))).grown hg4 (fun r hr => .inl (by have := (hG3.lt r hr).1; have := HSZ.1; have := HSZ.2; omega))
              have hsz4 : w1.heap.size ≤ w4.heap.size := by have := hg4.size; simp at this; omega
              rw [← map_snoc] at hG4
              have HG4 := Lib.hid hG4
              have HD4 := Lib.hid hDone
              have HT4 := Lib.hid hTodo
              clear hG4 hDone hTodo hG3 hg4 hb hkb
              go_wp2_with fail
              go_roundw
              case rel => exact ⟨m + 1, by omega, by go_num, ⟨_, HG4.out, HD4.out⟩, HT4.out, hsz4, hB4, hK4⟩
              case measure => simp [intOf]; omega
        · obtain rfl : m = k := by omega
          have HG := Lib.hid hG
          have HD := Lib.hid hdone
          clear hG hdone htodo HH
          go_wp2_with fail
          go_loopw [9] (fun i w3 => ∃ q : Nat, q ≤ m ∧ i = .int .i64 q ∧ w2 = w3) (fun i _ => m - (intOf i).toNat)
          case atStart => exact ⟨0, Nat.zero_le _, rfl, rfl⟩
          case round =>
            obtain ⟨q, hq, rfl, rfl⟩ := hrel
            by_cases hlt : q < m
            · obtain ⟨b, cv', he, hc⟩ := lsRow_at (hkb.owns hv (by decide)) hlt
              simp only [Value.slice.injEq, true_and] at he
              obtain ⟨rfl, rfl⟩ := he
              obtain ⟨gb, gc, rfl, hgc⟩ : ∃ gb gc, u5 = Value.slice (some ⟨gb, 0, none⟩) m gc ∧ w2.cell? ⟨gb, q, none⟩ = some (gv q) := by
                rcases HG.out.2 with ⟨_, h0⟩ | ⟨g, cap, cur, rfl, _⟩
                · omega
                · refine ⟨g, cap, rfl, ?_⟩
                  rw [HG.out.cellAt q (by omega)]
                  simp [hlt]
              obtain ⟨N, hN⟩ : ∃ N, N = len q + 70 := ⟨_, rfl⟩
              obtain ⟨h1, h2, _⟩ := HD.out q hlt
              rw [← hN] at h1
              obtain ⟨ga, gcc, hgv, hgcell⟩ := h1.form (by omega)
              have hnq := hlen q hlt
              have hNle : N ≤ 1070 := by omega
              have hNge : len q ≤ N := by omega
              rw [hgv] at hgc
              have hqi : (q : Int) < (m : Int) := by omega
              have H2 := Lib.hid h2
              have HC := Lib.hid hgcell
              clear hN hgv h1 h2 hgcell
              go_wp2_with fail
              go_loopw [10, 11] (fun i _ w3 => ∃ j : Nat, j ≤ N ∧ i = .int .i64 j ∧ w2 = w3) (fun i _ _ => N - (intOf i).toNat)
              case atStart => exact ⟨0, Nat.zero_le _, rfl, rfl⟩
              case round =>
                obtain ⟨j, hj, rfl, rfl⟩ := hrel
                by_cases hjN : j < N
                · have hji : (j : Int) < (N : Int) := by omega
                  have hcj := HC.out j hjN
                  go_wp2_with fail
                  have hmk : (1000003 * ((q : Int) + 1 + 1) + (j : Int)) = mkv q j := rfl
                  have hcall := markint_at ((q : Int) + 1) (j : Int) (by omega) (by omega) w2
                  rw [hmk] at hcall
                  clear hmk
                  refine hcall.mono ?_
                  rintro e w4 ⟨rfl, rfl⟩
                  clear hcall
                  by_cases hjl : j < len q
                  · have hjl' : (j : Int) < ((len q : Nat) : Int) := by omega
                    obtain ⟨a', c', hs', hcell'⟩ := H2.out.form (by omega)
                    unfold slc at hs'
                    simp only [Value.slice.injEq, true_and] at hs'
                    have hpa := hs'.1
                    have hcj' := hcell' j hjl
                    rw [hpa] at hc
                    have HPA := Lib.hid hpa
                    clear hs' hpa hcell'
                    go_wp2_with fail
                    go_roundw
                    case rel => exact ⟨j + 1, by omega, by go_num, trivial⟩
                    case measure => simp [intOf]; omega
                  · have hjl' : ((len q : Nat) : Int) ≤ (j : Int) := by omega
                    go_wp2_with fail
                    go_roundw
                    case rel => exact ⟨j + 1, by omega, by go_num, trivial⟩
                    case measure => simp [intOf]; omega
                · obtain rfl : j = N := by omega
                  go_wp2_with fail
                  go_roundw
                  case rel => exact ⟨q + 1, by omega, by go_num, trivial⟩
                  case measure => simp [intOf]; omega
            · obtain rfl : q = m := by omega
              go_wp2_with fail
              go_ret
              exact ⟨rfl, hb, hkb⟩
end Go.Proofs.YtfahbdakhbpfcaaGreat
namespace Go.Proofs.YtfahbdakhbpfcaaGreat
open Go.RowKit Go.Shelf Go.Maps

theorem planP_at (cs : Array Value) (L : List UInt8) (k n seg size s : Int) (hv : Vf cs L k n seg size) (pG pB : Addr) (nG cG nB cB : Nat) (good bad : List (Int × Int)) (w : World)
    (hG : HasP w (.slice (some pG) nG cG) good) (hB : HasP w (.slice (some pB) nB cB) bad) (hnG : nG ≤ 100100) (hnB : nB ≤ 100100) :
    Calls Tryz.prog 5 #[.agg cs, .int .i64 s, .slice (some pG) nG cG, .slice (some pB) nB cB] w fun e w' =>
      ∃ v T, e = .returned (.tuple #[v, .int .i64 (planOut L k n seg size s good bad).1]) ∧ Tries w' w.heap.size v T ∧ T.map keyT = (planOut L k n seg size s good bad).2 ∧ Below w.heap.size w w' :=
  callsIn_wide.1 (plan_at cs L k n seg size s hv pG pB nG cG nB cB good bad w hG hB hnG hnB)
theorem plan28_at (cs : Array Value) (L : List UInt8) (k n seg size s : Int) (hv : Vf cs L k n seg size) (pG pB : Option Addr) (nG cG nB cB : Nat) (good bad : List (Int × Int)) (w : World)
    (hG : HasP w (.slice pG nG cG) good) (hBd : HasP w (.slice pB nB cB) bad) (hnG : nG ≤ 100100) (hnB : nB ≤ 100100) :
    Calls Tryz.prog 8 #[.agg cs, .int .i64 s, .slice pG nG cG, .slice pB nB cB] w fun e w' =>
      ∃ v T, e = .returned (.tuple #[v, .int .i64 (planOut L k n seg size s good bad).1]) ∧ Tries w' w.heap.size v T ∧ T.map keyT = (planOut L k n seg size s good bad).2 ∧ Below w.heap.size w w' := by
  by_cases hok : okC k n seg size
  · exact plan28_ok cs L k n seg size s hv pG pB nG cG nB cB good bad w hok hG hBd hnG hnB
  · refine (plan28_5 cs L k n seg size s hv pG pB nG cG nB cB w hok).mono ?_
    rintro e w' ⟨rfl, hb⟩
    exact ⟨_, [], by rw [planOut_5 hok], ⟨World.ownsRow_nil _ _ _ _, OwnT.nil _ _⟩, by rw [planOut_5 hok]; rfl, hb⟩
/-- how much a plan holds -/
theorem selS_len (bad : List (Int × Int)) (i : Int) (l : List Int) : (selS bad i l).length ≤ l.length := List.length_filter_le _ _
theorem planOut_len (L : List UInt8) (k n seg size s : Int) (good bad : List (Int × Int)) : (planOut L k n seg size s good bad).2.length ≤ 255 ∧ ∀ x ∈ (planOut L k n seg size s good bad).2, x.2.length ≤ 32 := by
  unfold planOut
  split
  · rename_i hok
    split
    · rename_i hs
      refine ⟨Nat.le_trans (planK_len L s.toNat good bad n.toNat) (by have := hok.2.1; have := hok.1; omega), fun x hx => ?_⟩
      simp only [planK, List.mem_filterMap, List.mem_range] at hx
      obtain ⟨i, _, hi⟩ := hx
      split at hi
      · cases hi
      · cases hi
        refine Nat.le_trans (selS_len _ _ _) ?_
        rw [List.length_map, rnd_len]
        omega
    · exact ⟨by simp, fun x hx => by simp at hx⟩
  · exact ⟨by simp, fun x hx => by simp at hx⟩
theorem Tries.len {w : World} {base : Nat} {p : Option Addr} {n c : Nat} {T : List Tr} (h : Tries w base (.slice p n c) T) : n = T.length := h.has.lenEq
theorem lent_flat (l : List (Int × Int)) (n : Nat) (hl : l.length = n) : flat (l ++ (List.range 70).map fun i : Nat => (1000003, (n : Int) + (i : Int))) = flat (lent l) := by subst hl; rfl
/-- the call's answer, in a drawn region -/
def Wd.plan (H : Nat) (o : Int × List (Int × List Int)) : Wd := ⟨fun w v => ∃ u T, v = .tuple #[u, .int .i64 o.1] ∧ Tries w H u T ∧ T.map keyT = o.2, fun _ _ _ hb ⟨u, T, e, ht, hk⟩ => ⟨u, T, e, ht.below hb, hk⟩⟩
end Go.Proofs.YtfahbdakhbpfcaaGreat
namespace Go.Proofs.YtfahbdakhbpfcaaGreat
open Go.RowKit Go.Shelf Go.Maps

theorem Row.at0 {w : World} {b : Nat} {t : TypeId} {cs : Array Value} (h : Row w b t cs) : ∀ j v, cs.toList[j]? = some v → w.cell? ((⟨b, 0, none⟩ : Addr).add j) = some v := fun j v hv => by
  rw [Addr.add_mid, Nat.zero_add, h.cell]
  simpa using hv

theorem hasP_take {w : World} {a : Addr} {m c n : Nat} {l r : List (Int × Int)} (h : HasP w (.slice (some a) m c) (l ++ r)) (hn : n = l.length) : HasP w (.slice (some a) n c) l := by
  subst hn
  rcases h with ⟨h, _⟩ | ⟨a', c', h, hc, hcell⟩
  · cases h
  · simp only [Value.slice.injEq, Option.some.injEq] at h
    obtain ⟨rfl, -, rfl⟩ := h
    refine .inr ⟨a, c, rfl, by simp at hc; omega, fun i p hp => hcell i p ?_⟩
    rw [List.getElem?_append_left (by have := (List.getElem?_eq_some_iff.1 hp).1; omega)]
    exact hp

theorem own_some {w : World} {base n : Nat} {e : TypeId} {size : Nat} {v : Value} {xs : List Value} (h : w.ownsRow base e size v n xs) (hn : 0 < n) :
    ∃ g c, v = .slice (some ⟨g, 0, none⟩) n c ∧ n ≤ c ∧ base ≤ g ∧ g < w.heap.size := by
  rcases h.2 with ⟨_, h0⟩ | ⟨g, cap, cur, rfl, hb, hg, hc, _⟩
  · omega
  · exact ⟨g, cap, rfl, hc, hb, (Array.getElem?_eq_some_iff.1 hg).1⟩
theorem OwnT.mono {w : World} {base base' : Nat} {T : List Tr} (h : OwnT w base T) (hb : base' ≤ base) : OwnT w base' T := ⟨fun i x hx => owns_mono (h.1 i x hx) hb, h.2⟩
theorem OwnT.far {w w' : World} {base g : Nat} {T : List Tr} (h : OwnT w base T) (hg : w.grownBy w' (some g)) (hlt : g < base) : OwnT w' base T :=
  h.map fun v n xs ho => owns_grown ho hg fun r hr hv => by
    cases hr
    have := (ho.lt _ hv).1
    omega
theorem Tries.far {w w' : World} {base g : Nat} {v : Value} {T : List Tr} (h : Tries w base v T) (hg : w.grownBy w' (some g)) (hlt : g < base) : Tries w' base v T :=
  ⟨owns_grown h.1 hg fun r hr hv => by
    cases hr
    have := (h.1.lt _ hv).1
    omega, h.2.far hg hlt⟩

def sp : Value → Option Addr
  | .slice p _ _ => p
  | _ => none
def sl : Value → Nat
  | .slice _ n _ => n
  | _ => 0
def sc : Value → Nat
  | .slice _ _ c => c
  | _ => 0
/-- the servers of two lists of tries, side by side -/
def duo (T U : List Tr) (i : Nat) : Tr := if i % 2 = 0 then T.getD (i / 2) (0, .slice none 0 0, []) else U.getD (i / 2) (0, .slice none 0 0, [])
def duoP (T U : List Tr) (i : Nat) : Option Addr := sp (duo T U i).2.1
def duoN (T U : List Tr) (i : Nat) : Nat := sl (duo T U i).2.1
def duoC (T U : List Tr) (i : Nat) : Nat := sc (duo T U i).2.1
theorem duo_even {T U : List Tr} {q : Nat} {x : Tr} (h : T[q]? = some x) : duo T U (2 * q) = x := by
  unfold duo
  rw [if_pos (by omega), show 2 * q / 2 = q by omega]
  simp [List.getD, h]
theorem duo_odd {T U : List Tr} {q : Nat} {x : Tr} (h : U[q]? = some x) : duo T U (2 * q + 1) = x := by
  unfold duo
  rw [if_neg (by omega), show (2 * q + 1) / 2 = q by omega]
  simp [List.getD, h]
theorem slc_duo {T U : List Tr} {i n c : Nat} {p : Option Addr} (h : (duo T U i).2.1 = .slice p n c) : slc (duoP T U) (duoN T U) (duoC T U) i = (duo T U i).2.1 := by
  unfold slc duoP duoN duoC
  rw [h]
  rfl
theorem ownF_duo {w : World} {ba bb : Nat} {T U : List Tr} (hT : OwnT w ba T) (hU : OwnT w bb U) (hlen : U.length = T.length)
    (hTb : ∀ (i : Nat) (x : Tr), T[i]? = some x → ∀ b, x.2.1.ownBlock = some b → b < bb) (hle : ba ≤ bb) :
    OwnF 3 w ba (2 * T.length) (duoP T U) (duoN T U) (duoC T U) (fun i => (duo T U i).2.2) ∧ ∀ i, i < 2 * T.length → slc (duoP T U) (duoN T U) (duoC T U) i = (duo T U i).2.1 := by
  have key : ∀ i, i < 2 * T.length → (i % 2 = 0 ∧ T[i / 2]? = some (duo T U i)) ∨ (i % 2 = 1 ∧ U[i / 2]? = some (duo T U i)) := by
    intro i hi
    have h2 : i / 2 < T.length := by omega
    by_cases hp : i % 2 = 0
    · refine .inl ⟨hp, ?_⟩
      unfold duo
      rw [if_pos hp]
      simp [List.getD, h2]
    · refine .inr ⟨by omega, ?_⟩
      have h3 : i / 2 < U.length := by omega
      unfold duo
      rw [if_neg hp]
      simp [List.getD, h3]
  have own : ∀ i, i < 2 * T.length → w.ownsRow ba 3 1 (duo T U i).2.1 (duo T U i).2.2.length (ints (duo T U i).2.2) := by
    intro i hi
    rcases key i hi with ⟨_, h⟩ | ⟨_, h⟩
    · exact hT.1 _ _ h
    · exact owns_mono (hU.1 _ _ h) hle
  have form : ∀ i, i < 2 * T.length → ∃ p c, (duo T U i).2.1 = .slice p (duo T U i).2.2.length c := fun i hi => own_lit (own i hi)
  have eqv : ∀ i, i < 2 * T.length → slc (duoP T U) (duoN T U) (duoC T U) i = (duo T U i).2.1 := fun i hi => by
    obtain ⟨p, c, h⟩ := form i hi
    exact slc_duo h
  refine ⟨⟨fun i hi => ?_, ?_⟩, eqv⟩
  · obtain ⟨p, c, h⟩ := form i hi
    have e := eqv i hi
    have hn : duoN T U i = (duo T U i).2.2.length := by unfold duoN; rw [h]; rfl
    have h1 := own i hi
    rw [← e, ← hn] at h1
    exact h1
  · intro i j a b hi hj hpi hpj hab
    have obk : ∀ i a, i < 2 * T.length → duoP T U i = some a → (duo T U i).2.1.ownBlock = some a.block := by
      intro i a hi hp
      obtain ⟨p, c, h⟩ := form i hi
      have hp' : p = some a := by
        unfold duoP at hp
        rw [h] at hp
        exact hp
      rw [h, hp']
      rfl
    have oi := obk i a hi hpi
    have oj := obk j b hj hpj
    rw [← hab] at oj
    have low : ∀ i, i < 2 * T.length → ∀ g, T[i / 2]? = some (duo T U i) → (duo T U i).2.1.ownBlock = some g → g < bb := fun i _ g h1 h2 => hTb _ _ h1 g h2
    have high : ∀ i, i < 2 * T.length → ∀ g, U[i / 2]? = some (duo T U i) → (duo T U i).2.1.ownBlock = some g → bb ≤ g := fun i _ g h1 h2 => ((hU.1 _ _ h1).lt g h2).1
    rcases key i hi with ⟨pi, h1⟩ | ⟨pi, h1⟩ <;> rcases key j hj with ⟨pj, h2⟩ | ⟨pj, h2⟩
    · have := hT.2 _ _ _ _ _ h1 h2 oi oj
      omega
    · have e1 := low i hi _ h1 oi
      have e2 := high j hj _ h2 oj
      omega
    · have e1 := high i hi _ h1 oi
      have e2 := low j hj _ h2 oj
      omega
    · have := hU.2 _ _ _ _ _ h1 h2 oi oj
      omega
theorem duo_mem {T U : List Tr} (hlen : U.length = T.length) {i : Nat} (hi : i < 2 * T.length) : duo T U i ∈ T ∨ duo T U i ∈ U := by
  by_cases hp : i % 2 = 0
  · left
    unfold duo
    rw [if_pos hp]
    have h2 : i / 2 < T.length := by omega
    simp [List.getD, h2]
  · right
    unfold duo
    rw [if_neg hp]
    have h2 : i / 2 < U.length := by omega
    simp [List.getD, h2]
/-- the rows laid so far -/
def duoV (T U : List Tr) (q : Nat) : List Value := (List.range (2 * q)).map (slc (duoP T U) (duoN T U) (duoC T U))
theorem duoV_succ {T U : List Tr} {q : Nat} {x y : Tr} (hx : T[q]? = some x) (hy : U[q]? = some y) (hs : ∀ i, i < 2 * T.length → slc (duoP T U) (duoN T U) (duoC T U) i = (duo T U i).2.1) :
    duoV T U (q + 1) = duoV T U q ++ [x.2.1, y.2.1] := by
  have hq : q < T.length := (List.getElem?_eq_some_iff.1 hx).1
  unfold duoV
  rw [show 2 * (q + 1) = 2 * q + 1 + 1 by omega, List.range_succ, List.range_succ, List.map_append, List.map_append]
  simp only [List.map_cons, List.map_nil, List.append_assoc, List.cons_append, List.nil_append]
  rw [hs _ (by omega), hs _ (by omega), duo_even hx, duo_odd hy]
/-- the tries that a call answered, in a drawn region -/
def Wd.tries (H : Nat) (o : Int × List (Int × List Int)) : Wd := ⟨fun w v => ∃ T, Tries w H v T ∧ T.map keyT = o.2, fun _ _ _ hb ⟨T, ht, hk⟩ => ⟨T, ht.below hb, hk⟩⟩
/-- the words of a region that calls a plan -/
def vW (cs : Array Value) (H : Nat) (o : Int × List (Int × List Int)) (i : Nat) : Wd :=
  if i = 0 then Wd.is (.agg cs) else if i = 10 then Wd.plan H o else if i = 11 then Wd.plan H o else if i = 13 then Wd.is (.int .i64 o.1) else Wd.tries H o
theorem vW_0 (cs : Array Value) (H : Nat) (o : Int × List (Int × List Int)) : vW cs H o 0 = Wd.is (.agg cs) := rfl
theorem vW_10 (cs : Array Value) (H : Nat) (o : Int × List (Int × List Int)) : vW cs H o 10 = Wd.plan H o := rfl
theorem vW_11 (cs : Array Value) (H : Nat) (o : Int × List (Int × List Int)) : vW cs H o 11 = Wd.plan H o := rfl
theorem vW_12 (cs : Array Value) (H : Nat) (o : Int × List (Int × List Int)) : vW cs H o 12 = Wd.tries H o := rfl
theorem vW_13 (cs : Array Value) (H : Nat) (o : Int × List (Int × List Int)) : vW cs H o 13 = Wd.is (.int .i64 o.1) := rfl
theorem vW_14 (cs : Array Value) (H : Nat) (o : Int × List (Int × List Int)) : vW cs H o 14 = Wd.tries H o := rfl
theorem stepV_move {P : Program} {o : Oper} {ρ : Operand → Value} {w : World} {K : Value → World → Prop} (x : Operand) (ho : o.op = .move x ∨ o.op = .assign x) (hK : K (ρ x) w) : stepV P o ρ w K := by
  unfold stepV execOp
  rcases ho with ho | ho <;> simp only [ho, Sem.run_pure, stepVUpon] <;> exact hK
theorem stepV_extract {P : Program} {o : Oper} {ρ : Operand → Value} {w : World} {K : Value → World → Prop} (x : Operand) (i : Nat) (ho : o.op = .extract x i) (vs : Array Value) (hx : ρ x = .tuple vs) (v : Value) (hv : vs[i]? = some v) (hK : K v w) :
    stepV P o ρ w K := by
  unfold stepV execOp
  simp only [ho, hx, Instr.extract, hv, Sem.run_bind, Sem.run_pure, Result.andThen_ok, stepVUpon]
  exact hK
theorem stepV_ex0 {P : Program} {o : Oper} {ρ : Operand → Value} {w : World} {K : Value → World → Prop} {H : Nat} {p : Int × List (Int × List Int)} (x : Operand) (ho : o.op = .extract x 0) (h : (Wd.plan H p).1 w (ρ x))
    (hK : ∀ v, (Wd.tries H p).1 w v → K v w) : stepV P o ρ w K := by
  obtain ⟨u, T, d, hT, hTk⟩ := h
  exact stepV_extract x 0 ho _ d u rfl (hK u ⟨T, hT, hTk⟩)
theorem stepV_ex1 {P : Program} {o : Oper} {ρ : Operand → Value} {w : World} {K : Value → World → Prop} {H : Nat} {p : Int × List (Int × List Int)} (x : Operand) (ho : o.op = .extract x 1) (h : (Wd.plan H p).1 w (ρ x))
    (hK : K (.int .i64 p.1) w) : stepV P o ρ w K := by
  obtain ⟨u, T, d, hT, hTk⟩ := h
  exact stepV_extract x 1 ho _ d _ rfl hK
end Go.Proofs.YtfahbdakhbpfcaaGreat
namespace Go.Proofs.YtfahbdakhbpfcaaGreat
open Go.RowKit Go.Shelf Go.Maps

attribute [local go_sem] stepV stepVUpon
set_option maxRecDepth 100000 in
set_option maxHeartbeats 1000000 in
theorem law_at (cs : Array Value) (L : List UInt8) (k n seg size s : Int) (hv : Vf cs L k n seg size) (pG pB : Option Addr) (nG cG nB cB : Nat) (good bad : List (Int × Int)) (w : World)
    (hG : HasP w (.slice pG nG cG) good) (hBd : HasP w (.slice pB nB cB) bad) (h1 : nG ≤ 2000) (h2 : nB ≤ 2000) :
    Calls Tryz.prog 3 #[.agg cs, .int .i64 s, .slice pG nG cG, .slice pB nB cB] w fun e w' => e = .returned (.bool true) ∧ Below w.heap.size w w' := by
  obtain ⟨i0, hi0, hz0, hz1, hz2⟩ := info_parts info_row
  obtain ⟨i1, hi1, hy0, hy1, hy2⟩ := info_parts try_info
  have R := Row.new w 27 cs
  have B := (Below.refl w.heap.size w).alloc (Nat.le_refl _) (.cells cs 27)
  have hcs : (Tryz.prog.info? 27).map (·.size) = some cs.size := verify_info.trans (by rw [hv.size52])
  have HCS := Lib.hid hcs
  have HV := Lib.hid hv
  have HG := Lib.hid hG
  have HBD := Lib.hid hBd
  have hnG := Lib.hid hG.len
  have hnB := Lib.hid hBd.len
  have h1' : (nG : Int) ≤ 2000 := by omega
  have h2' : (nB : Int) ≤ 2000 := by omega
  clear hv hG hBd hcs
  obtain ⟨o, ho⟩ : ∃ o, planOut L k n seg size s good bad = o := ⟨_, rfl⟩
  have HO := Lib.hid ho
  clear ho
  go_enter Tryz.func3, Tryz.ntmps3
  go_wp2_with fail
  refine (lent_at nG cG pG good _ hnG.out.symm (by omega) (HG.out.later B)).mono ?_
  rintro e w1 ⟨v1, rfl, hown1, hb1⟩
  obtain ⟨g1, c1, rfl, hc1, hg1, hl1⟩ := own_some hown1 (by omega)
  have hR1 := R.below hb1 R.lt
  have hB1 := B.trans (hb1.mono B.size)
  clear R B
  have HO1 := Lib.hid hown1
  have HB1 := Lib.hid hB1
  clear hown1 hb1 hB1
  go_wp2_with fail
  refine (lent_at nB cB pB bad _ hnB.out.symm (by omega) (HBD.out.later HB1.out)).mono ?_
  rintro e w2 ⟨v2, rfl, hown2, hb2⟩
  obtain ⟨g2, c2, rfl, hc2, hg2, hl2⟩ := own_some hown2 (by omega)
  have hR2 := hR1.below hb2 hR1.lt
  have hB2 := HB1.out.trans (hb2.mono HB1.out.size)
  have ho1 := owns_below HO1.out hb2 (Nat.le_refl _)
  have HX := Lib.hid (hasP_take (hasP_of_owns ho1) hnG.out)
  have HY := Lib.hid (hasP_take (hasP_of_owns hown2) hnB.out)
  have HO1 := Lib.hid ho1
  have HO2 := Lib.hid hown2
  have HB2 := Lib.hid hB2
  have HR2 := Lib.hid hR2
  clear HB1 ho1 hown2 hb2 hB2 hR1 hR2
  have hc1' : nG ≤ c1 := by omega
  have hc2' : nB ≤ c2 := by omega
  go_wp2_with fail
  refine wp_region_any (by kernel_rfl) ?_
  change wpAny _ _ _ _ _ _ _ w2.drew
  refine wpAny_takeL (i := 1) (v := ?_) rfl (by kernel_rfl) (by kernel_rfl) (by kernel_rfl) (fun _ _ _ h => h) (Or.inl ⟨by rfl, ?_⟩) ?_
  rotate_left
  · intro w
    go_simp
    try with_reducible rfl
  simp only [Act.put, List.setIfInBounds_toArray, List.set_cons_zero, List.set_cons_succ]
  refine wpAny_takeL (i := 2) (v := ?_) rfl (by kernel_rfl) (by kernel_rfl) (by kernel_rfl) (fun _ _ _ h => h) (Or.inl ⟨by rfl, ?_⟩) ?_
  rotate_left
  · intro w
    go_simp
    try with_reducible rfl
  simp only [Act.put, List.setIfInBounds_toArray, List.set_cons_zero, List.set_cons_succ]
  refine wpAny_takeL (i := 3) (v := ?_) rfl (by kernel_rfl) (by kernel_rfl) (by kernel_rfl) (fun _ _ _ h => h) (Or.inl ⟨by rfl, ?_⟩) ?_
  rotate_left
  · intro w
    go_simp
    try with_reducible rfl
  simp only [Act.put, List.setIfInBounds_toArray, List.set_cons_zero, List.set_cons_succ]
  refine wpAny_takeL (i := 4) (v := ?_) rfl (by kernel_rfl) (by kernel_rfl) (by kernel_rfl) (fun _ _ _ h => h) (Or.inl ⟨by rfl, ?_⟩) ?_
  rotate_left
  · intro w
    go_simp
    try with_reducible rfl
  simp only [Act.put, List.setIfInBounds_toArray, List.set_cons_zero, List.set_cons_succ]
  refine wpAny_takeL (i := 5) (v := ?_) rfl (by kernel_rfl) (by kernel_rfl) (by kernel_rfl) (fun _ _ _ h => h) (Or.inl ⟨by rfl, ?_⟩) ?_
  rotate_left
  · intro w
    go_simp
    try with_reducible rfl
  simp only [Act.put, List.setIfInBounds_toArray, List.set_cons_zero, List.set_cons_succ]
  refine wpAny_takeL (i := 6) (v := ?_) rfl (by kernel_rfl) (by kernel_rfl) (by kernel_rfl) (fun _ _ _ h => h) (Or.inl ⟨by rfl, ?_⟩) ?_
  rotate_left
  · intro w
    go_simp
    try with_reducible rfl
  simp only [Act.put, List.setIfInBounds_toArray, List.set_cons_zero, List.set_cons_succ]
  refine wpAny_takeL (i := 7) (v := ?_) rfl (by kernel_rfl) (by kernel_rfl) (by kernel_rfl) (fun _ _ _ h => h) (Or.inl ⟨by rfl, ?_⟩) ?_
  rotate_left
  · intro w
    go_simp
    try with_reducible rfl
  simp only [Act.put, List.setIfInBounds_toArray, List.set_cons_zero, List.set_cons_succ]
  refine wpAny_takeL (i := 8) (v := ?_) rfl (by kernel_rfl) (by kernel_rfl) (by kernel_rfl) (fun _ _ _ h => h) (Or.inl ⟨by rfl, ?_⟩) ?_
  rotate_left
  · intro w
    go_simp
    try with_reducible rfl
  simp only [Act.put, List.setIfInBounds_toArray, List.set_cons_zero, List.set_cons_succ]
  refine wpAny_takeL (i := 9) (v := ?_) rfl (by kernel_rfl) (by kernel_rfl) (by kernel_rfl) (fun _ _ _ h => h) (Or.inl ⟨by rfl, ?_⟩) ?_
  rotate_left
  · intro w
    go_simp
    try with_reducible rfl
  simp only [Act.put, List.setIfInBounds_toArray, List.set_cons_zero, List.set_cons_succ]
  refine wpAny_growL 15 [0, 10, 11, 12, 13, 14] [_, _, _, _, _, _] (vW cs w2.heap.size o) (by kernel_rfl) rfl rfl ⟨?o1, ?o2, ?o3, ?o4, ?o5, ?o6, trivial⟩ ?_
  case o1 =>
    intro f W hw hV K hK
    have hRW := HR2.out.below (((Below.refl w2.heap.size w2).drew).trans hw) HR2.out.lt
    simp only [putO, Act.put, List.setIfInBounds_toArray, List.set_cons_zero, List.set_cons_succ]
    refine (if_pos (by rfl)).mpr ?_
    exact stepV_load 27 (.tmp 4) rfl ⟨w.heap.size, 0, none⟩ rfl cs _ hRW.at0 Tryz.underlying27 rfl HCS.out (hK _ _ (Below.refl _ _) rfl)
  case o2 =>
    intro f W hw hV K hK
    have d0 : f 0 = .agg cs := hV 0 (by kernel_rfl)
    simp only [putO, Act.put, List.setIfInBounds_toArray, List.set_cons_zero, List.set_cons_succ, d0]
    go_simp
    have hw2 : Below w2.heap.size w2 W := ((Below.refl w2.heap.size w2).drew).trans hw
    have hp := planP_at cs L k n seg size s HV.out ⟨g1, 0, none⟩ ⟨g2, 0, none⟩ nG c1 nB c2 good bad W (HX.out.later hw2) (HY.out.later hw2) (by omega) (by omega)
    rw [HO.out] at hp
    refine hp.mono ?_
    rintro e w' ⟨v, T, rfl, hT, hTk, hb⟩
    refine ⟨_, rfl, hK _ _ hb ?_⟩
    rw [vW_10]
    exact ⟨v, T, rfl, hT.mono hw2.size, hTk⟩
  case o3 =>
    intro f W hw hV K hK
    have h := hV 10 (by kernel_rfl)
    rw [vW_10] at h
    simp only [putO, Act.put, List.setIfInBounds_toArray, List.set_cons_zero, List.set_cons_succ]
    refine (if_pos (by rfl)).mpr ?_
    have h2 : ∀ (P : Program) (x : Value), x = f 10 → (Wd.plan w2.heap.size o).1 W x := fun _ x e => e ▸ h
    exact stepV_move (.tmp 45) (.inl rfl) (hK _ _ (Below.refl _ _) (by rw [vW_11]; exact h2 Tryz.prog _ (by rfl)))
  case o4 =>
    intro f W hw hV K hK
    have h := hV 11 (by kernel_rfl)
    rw [vW_11] at h
    simp only [putO, Act.put, List.setIfInBounds_toArray, List.set_cons_zero, List.set_cons_succ]
    refine (if_pos (by rfl)).mpr ?_
    have h2 : ∀ (P : Program) (x : Value), x = f 11 → (Wd.plan w2.heap.size o).1 W x := fun _ x e => e ▸ h
    exact stepV_ex0 (.tmp 34) rfl (h2 Tryz.prog _ (by rfl)) (fun v hv => hK _ _ (Below.refl _ _) (by rw [vW_12]; exact hv))
  case o5 =>
    intro f W hw hV K hK
    have h := hV 11 (by kernel_rfl)
    rw [vW_11] at h
    simp only [putO, Act.put, List.setIfInBounds_toArray, List.set_cons_zero, List.set_cons_succ]
    refine (if_pos (by rfl)).mpr ?_
    have h2 : ∀ (P : Program) (x : Value), x = f 11 → (Wd.plan w2.heap.size o).1 W x := fun _ x e => e ▸ h
    exact stepV_ex1 (.tmp 34) rfl (h2 Tryz.prog _ (by rfl)) (hK _ _ (Below.refl _ _) (by rw [vW_13]; rfl))
  case o6 =>
    intro f W hw hV K hK
    have h := hV 12 (by kernel_rfl)
    rw [vW_12] at h
    simp only [putO, Act.put, List.setIfInBounds_toArray, List.set_cons_zero, List.set_cons_succ]
    refine (if_pos (by rfl)).mpr ?_
    have h2 : ∀ (P : Program) (x : Value), x = f 12 → (Wd.tries w2.heap.size o).1 W x := fun _ x e => e ▸ h
    exact stepV_move (.tmp 46) (.inr rfl) (hK _ _ (Below.refl _ _) (by rw [vW_14]; exact h2 Tryz.prog _ (by rfl)))
  intro f w3 hw hV
  have d0 : f 0 = .agg cs := hV 0 (by simp)
  have h14 := hV 14 (by simp)
  rw [vW_14] at h14
  obtain ⟨T, hT, hTk⟩ := h14
  have e13 : f 13 = .int .i64 o.1 := hV 13 (by simp)
  obtain ⟨pa, ca, e14⟩ := own_lit hT.1
  have hw2 : Below w2.heap.size w2 w3 := ((Below.refl w2.heap.size w2).drew).trans hw
  simp only [putO, Act.put, List.setIfInBounds_toArray, List.set_cons_zero, List.set_cons_succ, d0, e13, e14, List.drop_succ_cons, List.drop_zero]
  rw [e14] at hT
  clear d0 e13 e14 hV
  generalize f 10 = y10
  generalize f 11 = y11
  generalize f 12 = y12
  have hB3 := HB2.out.trans (hw2.mono HB2.out.size)
  have HR3 := Lib.hid (HR2.out.below hw2 HR2.out.lt)
  have HX3 := Lib.hid (HX.out.later hw2)
  have HY3 := Lib.hid (HY.out.later hw2)
  have HO13 := Lib.hid (owns_below HO1.out hw2 (Nat.le_refl _))
  have HO23 := Lib.hid (owns_below HO2.out hw2 (Nat.le_refl _))
  have HT := Lib.hid hT
  have HTK := Lib.hid hTk
  have HB3 := Lib.hid hB3
  have HS3 := Lib.hid hw2.size
  clear hT hTk hB3 hw hw2 HR2 HX HY HO1 HO2 HB2
  go_wp2_with fail
  refine wp_region_any (by kernel_rfl) ?_
  change wpAny _ _ _ _ _ _ _ w3.drew
  refine wpAny_takeL (i := 1) (v := ?_) rfl (by kernel_rfl) (by kernel_rfl) (by kernel_rfl) (fun _ _ _ h => h) (Or.inl ⟨by rfl, ?_⟩) ?_
  rotate_left
  · intro w
    go_simp
    try with_reducible rfl
  simp only [Act.put, List.setIfInBounds_toArray, List.set_cons_zero, List.set_cons_succ]
  refine wpAny_takeL (i := 2) (v := ?_) rfl (by kernel_rfl) (by kernel_rfl) (by kernel_rfl) (fun _ _ _ h => h) (Or.inl ⟨by rfl, ?_⟩) ?_
  rotate_left
  · intro w
    go_simp
    try with_reducible rfl
  simp only [Act.put, List.setIfInBounds_toArray, List.set_cons_zero, List.set_cons_succ]
  refine wpAny_takeL (i := 3) (v := ?_) rfl (by kernel_rfl) (by kernel_rfl) (by kernel_rfl) (fun _ _ _ h => h) (Or.inl ⟨by rfl, ?_⟩) ?_
  rotate_left
  · intro w
    go_simp
    try with_reducible rfl
  simp only [Act.put, List.setIfInBounds_toArray, List.set_cons_zero, List.set_cons_succ]
  refine wpAny_takeL (i := 4) (v := ?_) rfl (by kernel_rfl) (by kernel_rfl) (by kernel_rfl) (fun _ _ _ h => h) (Or.inl ⟨by rfl, ?_⟩) ?_
  rotate_left
  · intro w
    go_simp
    try with_reducible rfl
  simp only [Act.put, List.setIfInBounds_toArray, List.set_cons_zero, List.set_cons_succ]
  refine wpAny_takeL (i := 5) (v := ?_) rfl (by kernel_rfl) (by kernel_rfl) (by kernel_rfl) (fun _ _ _ h => h) (Or.inl ⟨by rfl, ?_⟩) ?_
  rotate_left
  · intro w
    go_simp
    try with_reducible rfl
  simp only [Act.put, List.setIfInBounds_toArray, List.set_cons_zero, List.set_cons_succ]
  refine wpAny_takeL (i := 6) (v := ?_) rfl (by kernel_rfl) (by kernel_rfl) (by kernel_rfl) (fun _ _ _ h => h) (Or.inl ⟨by rfl, ?_⟩) ?_
  rotate_left
  · intro w
    go_simp
    try with_reducible rfl
  simp only [Act.put, List.setIfInBounds_toArray, List.set_cons_zero, List.set_cons_succ]
  refine wpAny_takeL (i := 7) (v := ?_) rfl (by kernel_rfl) (by kernel_rfl) (by kernel_rfl) (fun _ _ _ h => h) (Or.inl ⟨by rfl, ?_⟩) ?_
  rotate_left
  · intro w
    go_simp
    try with_reducible rfl
  simp only [Act.put, List.setIfInBounds_toArray, List.set_cons_zero, List.set_cons_succ]
  refine wpAny_takeL (i := 8) (v := ?_) rfl (by kernel_rfl) (by kernel_rfl) (by kernel_rfl) (fun _ _ _ h => h) (Or.inl ⟨by rfl, ?_⟩) ?_
  rotate_left
  · intro w
    go_simp
    try with_reducible rfl
  simp only [Act.put, List.setIfInBounds_toArray, List.set_cons_zero, List.set_cons_succ]
  refine wpAny_takeL (i := 9) (v := ?_) rfl (by kernel_rfl) (by kernel_rfl) (by kernel_rfl) (fun _ _ _ h => h) (Or.inl ⟨by rfl, ?_⟩) ?_
  rotate_left
  · intro w
    go_simp
    try with_reducible rfl
  simp only [Act.put, List.setIfInBounds_toArray, List.set_cons_zero, List.set_cons_succ]
  refine wpAny_growL 15 [0, 10, 11, 12, 13, 14] [_, _, _, _, _, _] (vW cs w3.heap.size o) (by kernel_rfl) rfl rfl ⟨?p1, ?p2, ?p3, ?p4, ?p5, ?p6, trivial⟩ ?_
  case p1 =>
    intro f W hw hV K hK
    have hRW := HR3.out.below (((Below.refl w3.heap.size w3).drew).trans hw) HR3.out.lt
    simp only [putO, Act.put, List.setIfInBounds_toArray, List.set_cons_zero, List.set_cons_succ]
    refine (if_pos (by rfl)).mpr ?_
    exact stepV_load 27 (.tmp 4) rfl ⟨w.heap.size, 0, none⟩ rfl cs _ hRW.at0 Tryz.underlying27 rfl HCS.out (hK _ _ (Below.refl _ _) rfl)
  case p2 =>
    intro f W hw hV K hK
    have d0 : f 0 = .agg cs := hV 0 (by kernel_rfl)
    simp only [putO, Act.put, List.setIfInBounds_toArray, List.set_cons_zero, List.set_cons_succ, d0]
    go_simp
    have hw3 : Below w3.heap.size w3 W := ((Below.refl w3.heap.size w3).drew).trans hw
    have hp := planP_at cs L k n seg size s HV.out ⟨g1, 0, none⟩ ⟨g2, 0, none⟩ nG c1 nB c2 good bad W (HX3.out.later hw3) (HY3.out.later hw3) (by omega) (by omega)
    rw [HO.out] at hp
    refine hp.mono ?_
    rintro e w' ⟨v, T, rfl, hT, hTk, hb⟩
    refine ⟨_, rfl, hK _ _ hb ?_⟩
    rw [vW_10]
    exact ⟨v, T, rfl, hT.mono hw3.size, hTk⟩
  case p3 =>
    intro f W hw hV K hK
    have h := hV 10 (by kernel_rfl)
    rw [vW_10] at h
    simp only [putO, Act.put, List.setIfInBounds_toArray, List.set_cons_zero, List.set_cons_succ]
    refine (if_pos (by rfl)).mpr ?_
    have h2 : ∀ (P : Program) (x : Value), x = f 10 → (Wd.plan w3.heap.size o).1 W x := fun _ x e => e ▸ h
    exact stepV_move (.tmp 59) (.inl rfl) (hK _ _ (Below.refl _ _) (by rw [vW_11]; exact h2 Tryz.prog _ (by rfl)))
  case p4 =>
    intro f W hw hV K hK
    have h := hV 11 (by kernel_rfl)
    rw [vW_11] at h
    simp only [putO, Act.put, List.setIfInBounds_toArray, List.set_cons_zero, List.set_cons_succ]
    refine (if_pos (by rfl)).mpr ?_
    have h2 : ∀ (P : Program) (x : Value), x = f 11 → (Wd.plan w3.heap.size o).1 W x := fun _ x e => e ▸ h
    exact stepV_ex0 (.tmp 48) rfl (h2 Tryz.prog _ (by rfl)) (fun v hv => hK _ _ (Below.refl _ _) (by rw [vW_12]; exact hv))
  case p5 =>
    intro f W hw hV K hK
    have h := hV 11 (by kernel_rfl)
    rw [vW_11] at h
    simp only [putO, Act.put, List.setIfInBounds_toArray, List.set_cons_zero, List.set_cons_succ]
    refine (if_pos (by rfl)).mpr ?_
    have h2 : ∀ (P : Program) (x : Value), x = f 11 → (Wd.plan w3.heap.size o).1 W x := fun _ x e => e ▸ h
    exact stepV_ex1 (.tmp 48) rfl (h2 Tryz.prog _ (by rfl)) (hK _ _ (Below.refl _ _) (by rw [vW_13]; rfl))
  case p6 =>
    intro f W hw hV K hK
    have h := hV 12 (by kernel_rfl)
    rw [vW_12] at h
    simp only [putO, Act.put, List.setIfInBounds_toArray, List.set_cons_zero, List.set_cons_succ]
    refine (if_pos (by rfl)).mpr ?_
    have h2 : ∀ (P : Program) (x : Value), x = f 12 → (Wd.tries w3.heap.size o).1 W x := fun _ x e => e ▸ h
    exact stepV_move (.tmp 60) (.inr rfl) (hK _ _ (Below.refl _ _) (by rw [vW_14]; exact h2 Tryz.prog _ (by rfl)))
  intro f w4 hw hV
  have d0 : f 0 = .agg cs := hV 0 (by simp)
  have h14 := hV 14 (by simp)
  rw [vW_14] at h14
  obtain ⟨U, hU, hUk⟩ := h14
  have e13 : f 13 = .int .i64 o.1 := hV 13 (by simp)
  obtain ⟨pb, cb, e14⟩ := own_lit hU.1
  have hw3 : Below w3.heap.size w3 w4 := ((Below.refl w3.heap.size w3).drew).trans hw
  simp only [putO, Act.put, List.setIfInBounds_toArray, List.set_cons_zero, List.set_cons_succ, d0, e13, e14, List.drop_succ_cons, List.drop_zero]
  rw [e14] at hU
  clear d0 e13 e14 hV
  generalize f 10 = z10
  generalize f 11 = z11
  generalize f 12 = z12
  have hB4 := HB3.out.trans (hw3.mono HB3.out.size)
  have HR4 := Lib.hid (HR3.out.below hw3 HR3.out.lt)
  have HO14 := Lib.hid (owns_below HO13.out hw3 (Nat.le_refl _))
  have HO24 := Lib.hid (owns_below HO23.out hw3 (Nat.le_refl _))
  have HT4 := Lib.hid (HT.out.below hw3)
  have HAB := Lib.hid (fun (a : Addr) (e : pa = some a) => (HT.out.1.lt a.block (by rw [e]; rfl)).2)
  have HTB := Lib.hid (fun (i : Nat) (x : Tr) (hx : T[i]? = some x) (b : Nat) (hb : x.2.1.ownBlock = some b) => ((HT.out.2.1 i x hx).lt b hb).2)
  have HU := Lib.hid hU
  have HUK := Lib.hid hUk
  have HB4 := Lib.hid hB4
  have HS4 := Lib.hid hw3.size
  clear hU hUk hB4 hw hw3 HR3 HX3 HY3 HO13 HO23 HB3 HT
  have hlt : T.length = o.2.length := by rw [← HTK.out, List.length_map]
  have hlu : U.length = o.2.length := by rw [← HUK.out, List.length_map]
  have hol := planOut_len L k n seg size s good bad
  rw [HO.out] at hol
  obtain ⟨m, hm⟩ : ∃ m, o.2.length = m := ⟨_, rfl⟩
  rw [hm] at hlt hlu hol
  have hm255 := hol.1
  have HOL := Lib.hid hol.2
  have HM := Lib.hid hm
  rw [hlt, hlu]
  have t4 := HT4.out
  have u4 := HU.out
  rw [hlt] at t4
  rw [hlu] at u4
  have HT4 := Lib.hid t4
  have HU := Lib.hid u4
  clear t4 u4
  have HLT := Lib.hid hlt
  have HLU := Lib.hid hlu
  clear hol hm hlt hlu
  go_wp2_with fail
  have e1 : (good ++ (List.range 70).map fun i : Nat => (1000003, (nG : Int) + (i : Int))) = lent good := by unfold lent; rw [← hnG.out]
  have e2 : (bad ++ (List.range 70).map fun i : Nat => (1000003, (nB : Int) + (i : Int))) = lent bad := by unfold lent; rw [← hnB.out]
  have q1 := hasP_of_owns HO14.out
  have q2 := hasP_of_owns HO24.out
  rw [e1] at q1
  rw [e2] at q2
  have HQ1 := Lib.hid q1
  have HQ2 := Lib.hid q2
  clear e1 e2 q1 q2
  refine (kept_at nG (nG + 70) cG c1 pG (some ⟨g1, 0, none⟩) good w4 (by omega) (Lib.hid rfl) (HG.out.later HB4.out) HQ1.out).mono ?_
  rintro e w5 ⟨rfl, hb5⟩
  have HB5 := Lib.hid (HB4.out.trans (hb5.mono HB4.out.size))
  have HR5 := Lib.hid (HR4.out.below hb5 HR4.out.lt)
  have HO15 := Lib.hid (owns_below HO14.out hb5 (Nat.le_refl _))
  have HO25 := Lib.hid (owns_below HO24.out hb5 (Nat.le_refl _))
  have HT5 := Lib.hid (HT4.out.below hb5)
  have HU5 := Lib.hid (HU.out.below hb5)
  have HQ25 := Lib.hid (HQ2.out.later hb5)
  have HS5 := Lib.hid hb5.size
  clear hb5 HB4 HR4 HO14 HO24 HT4 HU HQ1 HQ2
  go_wp2_with fail
  refine (kept_at nB (nB + 70) cB c2 pB (some ⟨g2, 0, none⟩) bad w5 (by omega) (Lib.hid rfl) (HBD.out.later HB5.out) HQ25.out).mono ?_
  rintro e w6 ⟨rfl, hb6⟩
  have HB6 := Lib.hid (HB5.out.trans (hb6.mono HB5.out.size))
  have HR6 := Lib.hid (HR5.out.below hb6 HR5.out.lt)
  have HO16 := Lib.hid (owns_below HO15.out hb6 (Nat.le_refl _))
  have HO26 := Lib.hid (owns_below HO25.out hb6 (Nat.le_refl _))
  have HT6 := Lib.hid (HT5.out.below hb6)
  have HU6 := Lib.hid (HU5.out.below hb6)
  have HS6 := Lib.hid hb6.size
  clear hb6 HB5 HR5 HO15 HO25 HT5 HU5 HQ25
  go_wp2_with fail
  refine (over_at _ (nG + 70) c1 g1 _ w6 (by omega) HO16.out).mono ?_
  rintro e w7 ⟨rfl, gr7⟩
  have hg12 : g1 < g2 := by omega
  have hs3 := HS3.out
  have hs4 := HS4.out
  have hs5 := HS5.out
  have hs6 := HS6.out
  have hg1' : w.heap.size < g1 := by
    simp only [World.size_alloc] at hg1
    omega
  have HB7 := Lib.hid (HB6.out.grown gr7 HB6.out.size (fun k e => by cases e; omega))
  have HR7 := Lib.hid (row_grown HR6.out gr7 (fun e => by injection e with e; omega))
  have HO27 := Lib.hid (owns_grown HO26.out gr7 (fun r hr hv => by cases hr; injection hv with hv; simp only at hv; omega))
  have HT7 := Lib.hid (HT6.out.far gr7 (by omega))
  have HU7 := Lib.hid (HU6.out.far gr7 (by omega))
  have hs7 := gr7.size
  clear gr7 HB6 HR6 HO16 HO26 HT6 HU6
  go_wp2_with fail
  refine (over_at _ (nB + 70) c2 g2 _ w7 (by omega) HO27.out).mono ?_
  rintro e w8 ⟨rfl, gr8⟩
  have HB8 := Lib.hid (HB7.out.grown gr8 HB7.out.size (fun k e => by cases e; omega))
  have HR8 := Lib.hid (row_grown HR7.out gr8 (fun e => by injection e with e; omega))
  have HT8 := Lib.hid (HT7.out.far gr8 (by omega))
  have HU8 := Lib.hid (HU7.out.far gr8 (by omega))
  have hs8 := gr8.size
  clear gr8 HB7 HR7 HO27 HT7 HU7
  go_wp2_with (refine wpList_load_row rfl 27 (.tmp 4) rfl w.heap.size rfl 27 cs (0, 0) _ HR8.out Tryz.underlying27 rfl HCS.out ?_)
  have hp := plan28_at cs L k n seg size s HV.out pG pB nG cG nB cB good bad w8 (HG.out.later HB8.out) (HBD.out.later HB8.out) (by omega) (by omega)
  rw [HO.out] at hp
  refine hp.mono ?_
  rintro e w9 ⟨vw, Z, rfl, hZ, hZk, hb9⟩
  clear hp
  have hlz : Z.length = m := by rw [← HM.out, ← hZk, List.length_map]
  obtain ⟨pw, cw, rfl⟩ := own_lit hZ.1
  rw [hlz] at hZ ⊢
  have HLZ := Lib.hid hlz
  have HZ := Lib.hid hZ
  have HZK := Lib.hid hZk
  have HB9 := Lib.hid (HB8.out.trans (hb9.mono HB8.out.size))
  have HT9 := Lib.hid (HT8.out.below hb9)
  have HU9 := Lib.hid (HU8.out.below hb9)
  have hs9 := hb9.size
  clear hlz hZ hZk hb9 HR8 HB8 HT8 HU8
  have hTT : ∀ x ∈ T, x.2.2.length ≤ 32 := fun x hx => by
    have h := HOL.out (keyT x) (by rw [← HTK.out]; exact List.mem_map_of_mem hx)
    exact h
  have hUU : ∀ x ∈ U, x.2.2.length ≤ 32 := fun x hx => by
    have h := HOL.out (keyT x) (by rw [← HUK.out]; exact List.mem_map_of_mem hx)
    exact h
  have HTT := Lib.hid hTT
  have HUU := Lib.hid hUU
  clear hTT hUU
  have hsame1 := sametries_at m m ca cw pa pw T Z w9 (by omega) (fun x hx => Nat.le_trans (HTT.out x hx) (by decide)) HT9.out.has HZ.out.has (HTK.out.trans HZK.out.symm)
  have HS1 := Lib.hid hsame1
  clear hsame1
  go_wp2_with fail
  refine HS1.out.mono ?_
  rintro e w10 ⟨rfl, hb10⟩
  have HB10 := Lib.hid (HB9.out.trans (hb10.mono HB9.out.size))
  have HT10 := Lib.hid (HT9.out.below hb10)
  have HU10 := Lib.hid (HU9.out.below hb10)
  have HZ10 := Lib.hid (HZ.out.below hb10)
  have hs10 := hb10.size
  clear hb10 HB9 HT9 HU9 HZ HS1
  have hsame2 := sametries_at m m cb cw pb pw U Z w10 (by omega) (fun x hx => Nat.le_trans (HUU.out x hx) (by decide)) HU10.out.has HZ10.out.has (HUK.out.trans HZK.out.symm)
  have HS2 := Lib.hid hsame2
  clear hsame2
  go_wp2_with fail
  refine HS2.out.mono ?_
  rintro e w11 ⟨rfl, hb11⟩
  have HB11 := Lib.hid (HB10.out.trans (hb11.mono HB10.out.size))
  have HT11 := Lib.hid (HT10.out.below hb11)
  have HU11 := Lib.hid (HU10.out.below hb11)
  have HZ11 := Lib.hid (HZ10.out.below hb11)
  have hs11 := hb11.size
  clear hb11 HB10 HT10 HU10 HZ10 HS2
  go_wp2_with fail
  have hduo := ownF_duo HT11.out.2 HU11.out.2 (by rw [HLT.out, HLU.out]) HTB.out hs3
  rw [HLT.out] at hduo
  have HF := Lib.hid hduo.1
  have HSL := Lib.hid hduo.2
  clear hduo
  go_loopw [17, 18] (fun v i wr => ∃ q : Nat, q ≤ m ∧ i = .int .i64 q ∧ wr.ownsRow w11.heap.size 38 1 v (2 * q) (duoV T U q) ∧ Below w11.heap.size w11 wr) (fun _ i _ => m - (intOf i).toNat)
  case atStart => exact ⟨0, Nat.zero_le _, rfl, World.ownsRow_nil _ _ _ _, Below.refl _ _⟩
  case round =>
    obtain ⟨q, hq, rfl, hown, hb⟩ := hrel
    by_cases hlt : q < m
    · obtain ⟨x, hx⟩ : ∃ x, T[q]? = some x := ⟨T[q]'(by have := HLT.out; omega), List.getElem?_eq_getElem _⟩
      obtain ⟨y, hy⟩ : ∃ x, U[q]? = some x := ⟨U[q]'(by have := HLU.out; omega), List.getElem?_eq_getElem _⟩
      obtain ⟨a, rfl, _, cx, _⟩ := (HT11.out.has.later hb).cellsAt hx
      obtain ⟨b, rfl, _, cy, _⟩ := (HU11.out.has.later hb).cellsAt hy
      obtain ⟨px, kx, ex⟩ := own_lit (HT11.out.2.1 q x hx)
      obtain ⟨py, ky, ey⟩ := own_lit (HU11.out.2.1 q y hy)
      have hsn := duoV_succ hx hy (fun i hi => HSL.out i (by rw [HLT.out] at hi; exact hi))
      rw [ex, ey] at hsn
      rw [ex] at cx
      rw [ey] at cy
      have HSN := Lib.hid hsn
      have hqi : (q : Int) < (m : Int) := by omega
      have HOWN := Lib.hid hown
      have HBB := Lib.hid hb
      generalize x.2.2.length = nx at *
      generalize y.2.2.length = ny at *
      clear hx hy ex ey hsn hown hb
      go_wp2_with fail
      refine wp_region_any (by kernel_rfl) ?_
      change wpAny _ _ _ _ _ _ _ wr.drew
      refine wpAny_takeL (i := 0) (v := ?_) rfl (by kernel_rfl) (by kernel_rfl) (by kernel_rfl) (fun _ _ _ h => h) (Or.inl ⟨by rfl, ?_⟩) ?_
      rotate_left
      · intro w
        go_simp
        try with_reducible rfl
      simp only [Act.put, List.setIfInBounds_toArray, List.set_cons_zero, List.set_cons_succ]
      refine wpAny_takeL (i := 1) (v := ?_) rfl (by kernel_rfl) (by kernel_rfl) (by kernel_rfl) (fun _ _ _ h => h) (Or.inl ⟨by rfl, ?_⟩) ?_
      rotate_left
      · intro w
        go_simp
        try with_reducible rfl
      simp only [Act.put, List.setIfInBounds_toArray, List.set_cons_zero, List.set_cons_succ]
      refine wpAny_takeL (i := 2) (v := ?_) rfl (by kernel_rfl) (by kernel_rfl) (by kernel_rfl) (fun _ _ _ h => h) (Or.inl ⟨by rfl, ?_⟩) ?_
      rotate_left
      · intro w
        go_simp
        try with_reducible rfl
      simp only [Act.put, List.setIfInBounds_toArray, List.set_cons_zero, List.set_cons_succ]
      refine wpAny_takeL (i := 3) (v := ?_) rfl (by kernel_rfl) (by kernel_rfl) (by kernel_rfl) (fun _ _ _ h => h) (Or.inl ⟨by rfl, ?_⟩) ?_
      rotate_left
      · intro w
        go_simp
        try with_reducible rfl
      simp only [Act.put, List.setIfInBounds_toArray, List.set_cons_zero, List.set_cons_succ]
      refine wpAny_takeL (i := 4) (v := ?_) rfl (by kernel_rfl) (by kernel_rfl) (by kernel_rfl) (fun _ _ _ h => h) (Or.inl ⟨by rfl, ?_⟩) ?_
      rotate_left
      · intro w
        go_simp
        try with_reducible rfl
      simp only [Act.put, List.setIfInBounds_toArray, List.set_cons_zero, List.set_cons_succ]
      refine wpAny_takeL (i := 6) (v := ?_) rfl (by kernel_rfl) (by kernel_rfl) (by kernel_rfl) (fun _ _ _ h => h) (Or.inl ⟨by rfl, ?_⟩) ?_
      rotate_left
      · intro w
        go_simp
        try with_reducible rfl
      simp only [Act.put, List.setIfInBounds_toArray, List.set_cons_zero, List.set_cons_succ]
      refine wpAny_takeL (i := 7) (v := ?_) rfl (by kernel_rfl) (by kernel_rfl) (by kernel_rfl) (fun _ _ _ h => h) (Or.inl ⟨by rfl, ?_⟩) ?_
      rotate_left
      · intro w
        go_simp
        try with_reducible rfl
      simp only [Act.put, List.setIfInBounds_toArray, List.set_cons_zero, List.set_cons_succ]
      refine wpAny_takeL (i := 8) (v := ?_) rfl (by kernel_rfl) (by kernel_rfl) (by kernel_rfl) (fun _ _ _ h => h) (Or.inl ⟨by rfl, ?_⟩) ?_
      rotate_left
      · intro w
        go_simp
        try with_reducible rfl
      simp only [Act.put, List.setIfInBounds_toArray, List.set_cons_zero, List.set_cons_succ]
      refine wpAny_takeL (i := 9) (v := ?_) rfl (by kernel_rfl) (by kernel_rfl) (by kernel_rfl) (fun _ _ _ h => h) (Or.inl ⟨by rfl, ?_⟩) ?_
      rotate_left
      · intro w
        go_simp
        try with_reducible rfl
      simp only [Act.put, List.setIfInBounds_toArray, List.set_cons_zero, List.set_cons_succ]
      refine wpAny_growL 12 [5, 10, 11] [_, _, _] (fun i => if i = 5 then Wd.is (.slice px nx kx) else if i = 10 then Wd.is (.slice py ny ky) else Wd.two (.slice px nx kx) (.slice py ny ky) 2 2) (by kernel_rfl) rfl rfl ⟨?o1, ?o2, ?o3, trivial⟩ ?_
      case o1 =>
        intro f W hw hV K hK
        have hc := (hw.cell (block_lt_of_cell cx)).trans cx
        simp only [putO, Act.put, List.setIfInBounds_toArray, List.set_cons_zero, List.set_cons_succ]
        go_simp
        exact hK _ _ (Below.refl _ _) rfl
      case o2 =>
        intro f W hw hV K hK
        have hc := (hw.cell (block_lt_of_cell cy)).trans cy
        simp only [putO, Act.put, List.setIfInBounds_toArray, List.set_cons_zero, List.set_cons_succ]
        go_simp
        exact hK _ _ (Below.refl _ _) rfl
      case o3 =>
        intro f W hw hV K hK
        have d5 : f 5 = .slice px nx kx := hV 5 (by kernel_rfl)
        have d10 : f 10 = .slice py ny ky := hV 10 (by kernel_rfl)
        simp only [putO, Act.put, List.setIfInBounds_toArray, List.set_cons_zero, List.set_cons_succ, d5, d10]
        go_simp
        refine hK _ _ ((Below.refl _ _).alloc (Nat.le_refl _) _) ?_
        change (Wd.two _ _ 2 2).1 _ _
        exact ⟨_, rfl, (Row.new W 38 #[.slice px nx kx, .slice py ny ky]).cell 0, (Row.new W 38 #[.slice px nx kx, .slice py ny ky]).cell 1⟩
      intro f W hw hV
      have d5 : f 5 = .slice px nx kx := hV 5 (by simp)
      have d10 : f 10 = .slice py ny ky := hV 10 (by simp)
      obtain ⟨gw, d11, k0, k1⟩ : (Wd.two (.slice px nx kx) (.slice py ny ky) 2 2).1 W (f 11) := hV 11 (by simp)
      have hwr : Below wr.heap.size wr W := ((Below.refl wr.heap.size wr).drew).trans hw
      have HOW := Lib.hid (owns_below HOWN.out hwr (Nat.le_refl _))
      have HBW := Lib.hid (HBB.out.trans (hwr.mono HBB.out.size))
      simp only [putO, Act.put, List.setIfInBounds_toArray, List.set_cons_zero, List.set_cons_succ, d5, d10, d11, List.drop_succ_cons, List.drop_zero]
      clear d5 d10 d11 hV hw hwr cx cy HOWN HBB
      refine wpList_append_own _ rfl (.tmp 105) (.tmp 116) 37 rfl w11.heap.size 38 i0 (.slice none 0 0) 1 24 Tryz.underlying37 hi0 hz0 hz1 hz2 rfl (by decide) _ (2 * q) _ (by rfl) HOW.out ⟨gw, 0, none⟩ 2 2 [.slice px nx kx, .slice py ny ky] (by rfl) rfl ?h2 ?h3 ?h4 ?h5 ?h6 ?_
      case h2 =>
        intro j u hu
        rw [Addr.add_mid, Nat.zero_add]
        rcases j with _ | _ | j
        · simp at hu; subst hu; exact k0
        · simp at hu; subst hu; exact k1
        · simp at hu
      case h3 => intro u hu; simp at hu; rcases hu with rfl | rfl <;> rfl
      case h4 => unfold maxLen; omega
      case h5 => omega
      case h6 => exact HBW.out.size
      intro v2 w2' hown2 hgrow2 _
      rw [← HSN.out, show 2 * q + 2 = 2 * (q + 1) by omega] at hown2
      have hB2 := HBW.out.grown hgrow2 HBW.out.size (fun k hk => (HOW.out.lt k hk).1)
      clear hgrow2 HOW HBW HSN k0 k1
      go_wp2_with fail
      go_roundw
      case rel => exact ⟨q + 1, by omega, by go_num, hown2, hB2⟩
      case measure => simp [intOf]; omega
    · obtain rfl : q = m := by omega
      obtain ⟨pi, ci, rfl⟩ := own_lit hown
      have hbs := hb.size
      have hlen : ∀ i, i < 2 * q → duoN T U i ≤ 1000 := fun i hi => by
        rw [← HF.out.flen hi]
        rcases duo_mem (T := T) (U := U) (by rw [HLT.out, HLU.out]) (i := i) (by rw [HLT.out]; exact hi) with h | h
        · exact Nat.le_trans (HTT.out _ h) (by decide)
        · exact Nat.le_trans (HUU.out _ h) (by decide)
      have HA := Lib.hid (apart_at w2.heap.size w11.heap.size (2 * q) ci pi (duoP T U) (duoN T U) (duoC T U) (fun i => (duo T U i).2.2) wr (by omega) hlen (by omega) hown (HF.out.below hb))
      have HTr := Lib.hid (HT11.out.below hb)
      have HUr := Lib.hid (HU11.out.below hb)
      have HZr := Lib.hid (HZ11.out.below hb)
      have HBr := Lib.hid (HB11.out.trans (hb.mono HB11.out.size))
      clear hlen hown hb HT11 HU11 HZ11 HB11 HF HSL
      go_wp2_with fail
      refine HA.out.mono ?_
      rintro e w12 ⟨rfl, hb12, hk12⟩
      have ra := hk12.owns HTr.out.1 (by decide)
      have rb := hk12.owns HUr.out.1 (by decide)
      have rz := hk12.owns HZr.out.1 (by decide)
      rw [HLT.out] at ra
      rw [HLU.out] at rb
      rw [HLZ.out] at rz
      have RA := Lib.hid ra
      have RB := Lib.hid rb
      have RZ := Lib.hid rz
      have hww : w.heap.size ≤ w2.heap.size := by
        simp only [World.size_alloc] at hg1
        omega
      have HB12 := Lib.hid (HBr.out.trans (hb12.mono hww))
      have hs12 := hb12.size
      clear ra rb rz hb12 hk12 HA HTr HUr HZr HBr
      go_wp2_with fail
      go_loopw [19] (fun i wy => ∃ j : Nat, j ≤ q ∧ i = .int .i64 j ∧ (∃ ys, wy.ownsRow w2.heap.size 40 2 (.slice pa q ca) q ys) ∧ w2.heap.size ≤ wy.heap.size ∧ wy.ownsRow w3.heap.size 40 2 (.slice pb q cb) q (flatT U) ∧ wy.ownsRow w8.heap.size 40 2 (.slice pw q cw) q (flatT Z) ∧ Below w.heap.size w wy) (fun i _ => q - (intOf i).toNat)
      case atStart => exact ⟨0, Nat.zero_le _, rfl, ⟨_, RA.out⟩, by omega, RB.out, RZ.out, HB12.out⟩
      case round =>
        obtain ⟨j, hj, rfl, ⟨ys, hown⟩, hsw, rb, rz, hb⟩ := hrel
        by_cases hjl : j < q
        · obtain ⟨ga, ca', ea, _, hga, hga2⟩ := own_some hown (by omega)
          simp only [Value.slice.injEq, true_and] at ea
          obtain ⟨rfl, rfl⟩ := ea
          have hgab : ga < w3.heap.size := HAB.out _ rfl
          have hji : (j : Int) < (q : Int) := by omega
          have hlen := hown.1
          have k0 := hown.cellAt (j * 2) (by omega)
          have k1 := hown.cellAt (j * 2 + 1) (by omega)
          have f0 := hown.frozenAt (j * 2)
          have f1 := hown.frozenAt (j * 2 + 1)
          rw [List.getElem?_eq_getElem (by omega)] at k0 k1
          have HW := Lib.hid hown
          have HBY := Lib.hid hb
          have HRB := Lib.hid rb
          have HRZ := Lib.hid rz
          clear hown hb rb rz RA RB RZ HB12
          go_wp2_with fail
          have s0 := HW.out.stored (j * 2) (.int .i64 (-5))
          have s1 := s0.1.stored (j * 2 + 1) (.slice none 0 0)
          have gr := grown_trans s0.2 s1.2
          go_roundw
          case rel =>
            refine ⟨j + 1, by omega, by go_num, ⟨_, s1.1⟩, Nat.le_trans hsw gr.size, owns_grown HRB.out gr (fun r hr hv => ?_), owns_grown HRZ.out gr (fun r hr hv => ?_), HBY.out.grown gr HBY.out.size (fun k e => ?_)⟩
            · cases hr
              have := (HRB.out.lt _ hv).1
              omega
            · cases hr
              have := (HRZ.out.lt _ hv).1
              omega
            · cases e
              omega
          case measure => simp [intOf]; omega
        · obtain rfl : j = q := by omega
          have HO := Lib.hid hown
          have HBY := Lib.hid hb
          have HRB := Lib.hid rb
          have HRZ := Lib.hid rz
          have hap : ∀ r, (Value.slice pa j ca).ownBlock = some r → (Value.slice pb j cb).ownBlock ≠ some r ∧ (Value.slice pw j cw).ownBlock ≠ some r := by
            intro r hr
            cases hpa : pa with
            | none => rw [hpa] at hr; cases hr
            | some a =>
              rw [hpa] at hr
              simp only [Value.ownBlock, Option.some.injEq] at hr
              have h3 := HAB.out a hpa
              refine ⟨fun hv => ?_, fun hv => ?_⟩
              · have := (HRB.out.lt _ hv).1
                omega
              · have := (HRZ.out.lt _ hv).1
                omega
          have HAP := Lib.hid hap
          clear hown hb rb rz RA RB RZ HB12 hap
          go_wp2_with fail
          go_loopw [11, 20] (fun v i wy => ∃ t : Nat, t ≤ 70 ∧ i = .int .i64 t ∧ (∃ ys, wy.ownsRow w2.heap.size 40 2 v (j + t) ys) ∧ (∀ r, v.ownBlock = some r → (Value.slice pb j cb).ownBlock ≠ some r ∧ (Value.slice pw j cw).ownBlock ≠ some r) ∧ w2.heap.size ≤ wy.heap.size ∧ wy.ownsRow w3.heap.size 40 2 (.slice pb j cb) j (flatT U) ∧ wy.ownsRow w8.heap.size 40 2 (.slice pw j cw) j (flatT Z) ∧ Below w.heap.size w wy) (fun _ i _ => 70 - (intOf i).toNat)
          case atStart => exact ⟨0, Nat.zero_le _, rfl, ⟨_, HO.out⟩, HAP.out, hsw, HRB.out, HRZ.out, HBY.out⟩
          case round =>
            clear HO HAP HRB HRZ HBY hsw
            obtain ⟨t, ht, rfl, ⟨ys, hown⟩, hap, hsw, rb, rz, hb⟩ := hrel
            have HOW := Lib.hid hown
            have HBY := Lib.hid hb
            have HRB := Lib.hid rb
            have HRZ := Lib.hid rz
            have HAP := Lib.hid hap
            clear hown hb rb rz hap
            by_cases ht7 : t < 70
            · have hti : (t : Int) < 70 := by omega
              go_wp2_with (at_builtin; refine wpList_append_keep rfl (.tmp 135) (.tmp 137) 30 rfl w2.heap.size 40 i1 _ 2 _ Tryz.underlying30 hi1 hy0 hy1 hy2 rfl (by decide) _ (j + t) _ rfl (HOW.out.alloc _) ⟨wr.heap.size, 0, none⟩ 1 1 [Value.int .i64 (-6), Value.slice none 0 0] rfl rfl ?d1 ?d2 ?d3 ?d4 ?d5 ?_)
              case d1 =>
                intro i u hi
                rw [Addr.add_mid, Nat.zero_add, (Row.new wr _ _).cell]
                simpa using hi
              case d2 => intro u hu; simp at hu; rcases hu with rfl | rfl <;> rfl
              case d3 => unfold maxLen; omega
              case d4 => omega
              case d5 => simp; omega
              intro v2 w2' hown2 h3
              rw [← World.size_alloc wr (.cells #[Value.int .i64 (-6), Value.slice none 0 0] 40)] at h3
              have hsw2 : w2.heap.size ≤ w2'.heap.size := by
                have h5 : (wr.alloc (.cells #[Value.int .i64 (-6), Value.slice none 0 0] 40)).heap.size ≤ w2'.heap.size := by
                  rcases h3 with ⟨_, h⟩ | ⟨_, h⟩
                  · exact h.size
                  · exact h.size
                rw [World.size_alloc] at h5
                omega
              have az := apart_step (HRZ.out.alloc _) (fun b hb => (HAP.out b hb).2) h3
              have ab := apart_step (HRB.out.alloc _) (fun b hb => (HAP.out b hb).1) h3
              have hB1 := HBY.out.alloc HBY.out.size (.cells #[Value.int .i64 (-6), Value.slice none 0 0] 40)
              have hB2 : Below w.heap.size w w2' := by
                rcases h3 with ⟨_, h⟩ | ⟨_, h⟩
                · exact hB1.grown h hB1.size (fun k hk => Nat.le_trans hww (HOW.out.lt k hk).1)
                · exact hB1.grown h hB1.size (fun k e => by cases e)
              clear h3 hB1 HOW HBY HRB HRZ HAP
              have hap2 : ∀ r, v2.ownBlock = some r → (Value.slice pb j cb).ownBlock ≠ some r ∧ (Value.slice pw j cw).ownBlock ≠ some r := fun r hr => ⟨ab.2 r hr, az.2 r hr⟩
              go_wp2_with fail
              go_roundw
              case rel => exact ⟨t + 1, by omega, by go_num, ⟨_, hown2⟩, hap2, hsw2, ab.1, az.1, hB2⟩
              case measure => simp [intOf]; omega
            · have ht7' : ¬ (t : Int) < 70 := by omega
              clear HOW HAP
              go_wp2_with fail
              go_loopw [21] (fun i wy => ∃ z : Nat, z ≤ j ∧ i = .int .i64 z ∧ wy.ownsRow w3.heap.size 40 2 (.slice pb j cb) j (flatT U) ∧ wy.ownsRow w8.heap.size 40 2 (.slice pw j cw) j (flatT Z) ∧ Below w.heap.size w wy) (fun i _ => j - (intOf i).toNat)
              case atStart => exact ⟨0, Nat.zero_le _, rfl, HRB.out, HRZ.out, HBY.out⟩
              case round =>
                clear HRB HRZ HBY
                obtain ⟨z, hz, rfl, rb, rz, hb⟩ := hrel
                by_cases hzj : z < j
                · have hzi : (z : Int) < (j : Int) := by omega
                  obtain ⟨x, hx⟩ : ∃ x, U[z]? = some x := ⟨U[z]'(by have := HLU.out; omega), List.getElem?_eq_getElem _⟩
                  obtain ⟨y, hy⟩ : ∃ x, Z[z]? = some x := ⟨Z[z]'(by have := HLZ.out; omega), List.getElem?_eq_getElem _⟩
                  have hxy : x.1 = y.1 := by
                    have h := congrArg (fun l => l[z]?) (HUK.out.trans HZK.out.symm)
                    simp only [List.getElem?_map, hx, hy, Option.map_some, Option.some.injEq, keyT, Prod.mk.injEq] at h
                    exact h.1
                  obtain ⟨gb, cb', eb, _, _, _⟩ := own_some rb (by omega)
                  simp only [Value.slice.injEq, true_and] at eb
                  obtain ⟨rfl, rfl⟩ := eb
                  obtain ⟨gw, cw', ew, _, _, _⟩ := own_some rz (by omega)
                  simp only [Value.slice.injEq, true_and] at ew
                  obtain ⟨rfl, rfl⟩ := ew
                  have k0 := (rb.cells rfl (z * 2) _ (flatT_get hx).1)
                  have k1 := (rz.cells rfl (z * 2) _ (flatT_get hy).1)
                  rw [← hxy] at k1
                  rw [Addr.add_mid, Nat.zero_add] at k0 k1
                  generalize x.1 = xv at *
                  have HBY := Lib.hid hb
                  have HRB := Lib.hid rb
                  have HRZ := Lib.hid rz
                  clear hx hy hxy hb rb rz
                  go_wp2_with fail
                  go_quiet (fail)
                  have hb2 := below_drewN HBY.out nq
                  have rb2 := owns_below HRB.out (below_drewN (Below.refl wr.heap.size wr) nq) (Nat.le_refl _)
                  have rz2 := owns_below HRZ.out (below_drewN (Below.refl wr.heap.size wr) nq) (Nat.le_refl _)
                  go_wp2_with fail
                  go_roundw
                  case rel => exact ⟨z + 1, by omega, by go_num, rb2, rz2, hb2⟩
                  case measure => simp [intOf]; omega
                · obtain rfl : z = j := by omega
                  go_wp2_with fail
                  go_ret
                  exact ⟨rfl, hb⟩
end Go.Proofs.YtfahbdakhbpfcaaGreat
namespace Go.Proofs.YtfahbdakhbpfcaaGreat
open Go.RowKit Go.Shelf Go.Maps

set_option maxRecDepth 100000 in
theorem law_long (cs : Array Value) (s : Int) (pG pB : Option Addr) (nG cG nB cB : Nat) (w : World) (h : 2000 < nG ∨ 2000 < nB) :
    Calls Tryz.prog 3 #[.agg cs, .int .i64 s, .slice pG nG cG, .slice pB nB cB] w fun e w' => e = .returned (.bool true) ∧ Below w.heap.size w w' := by
  have B := (Below.refl w.heap.size w).alloc (Nat.le_refl _) (.cells cs 27)
  go_enter Tryz.func3, Tryz.ntmps3
  by_cases h1 : 2000 < nG
  · have h1' : (2000 : Int) < (nG : Int) := by omega
    go_wp2_with fail
    go_ret
    exact ⟨rfl, B⟩
  · have h1' : ¬ (2000 : Int) < (nG : Int) := by omega
    have h2' : (2000 : Int) < (nB : Int) := by omega
    go_wp2_with fail
    go_ret
    exact ⟨rfl, B⟩
theorem law_all (cs : Array Value) (L : List UInt8) (k n seg size s : Int) (hv : Vf cs L k n seg size) (pG pB : Option Addr) (nG cG nB cB : Nat) (good bad : List (Int × Int)) (w : World)
    (hG : HasP w (.slice pG nG cG) good) (hBd : HasP w (.slice pB nB cB) bad) :
    Calls Tryz.prog 3 #[.agg cs, .int .i64 s, .slice pG nG cG, .slice pB nB cB] w fun e w' => e = .returned (.bool true) ∧ Below w.heap.size w w' := by
  by_cases h1 : nG ≤ 2000
  · by_cases h2 : nB ≤ 2000
    · exact law_at cs L k n seg size s hv pG pB nG cG nB cB good bad w hG hBd h1 h2
    · exact law_long cs s pG pB nG cG nB cB w (.inr (by omega))
  · exact law_long cs s pG pB nG cG nB cB w (.inl (by omega))
end Go.Proofs.YtfahbdakhbpfcaaGreat
namespace Go.Proofs.YtfahbdakhbpfcaaGreat
open Go.RowKit Go.ChangeShapes Go.WideShapes Go.ChangeAt

theorem post_of_below {H : Type} {enc : TypeId × Value → H} {P : Program} {f : Func} {s : ChangeSpec} {apart fresh handsOn again : Bool} {W W' : World} {args : Array Value} {v : Value} {ds gs : List (DataW H)} {before pa pv : List MemPlace}
    (hW : DataW.Whole enc P f.params.toList s.vars apart W args.toList ds gs before)
    (hres : ∀ (b : Nat) (sp : Nat → Bool) (hd : Bool), DataW.TrodAll enc P W' b sp hd f.resultTypes.toList (v.resultList f.resultTypes.size) (s.fn H (ds ++ gs)).results [])
    (hargs : ∀ sp : Nat → Bool, (∀ p ∈ before, sp p.block = true) → DataW.TrodAll enc P W' 0 sp true f.params.toList args.toList (s.fn H (ds ++ gs)).args pa)
    (hvars : ∀ sp : Nat → Bool, (∀ p ∈ before, sp p.block = true) → DataW.TrodVars enc P W' sp s.vars (s.fn H (ds ++ gs)).vars pv)
    (hps : before = pa ++ pv) (hb : Below W.heap.size W W')
    (hok : ∀ (j : Nat) (t : TypeId) (r : Value), f.resultTypes[j]? = some t → (v.resultList f.resultTypes.size)[j]? = some r → Value.okWide P W' .any 0 t r) :
    s.post enc P f apart fresh handsOn again W args v W' := by
  have hlt : ∀ p ∈ before, p.block < W.heap.size := fun p hp => hW.lt p hp
  have hold : ∀ p ∈ before, (fun b => decide (b < W.heap.size)) p.block = true := fun p hp => by simpa using hW.lt p hp
  refine ⟨ds, gs, before, [], pa, pv, hW, hres _ _ _, hargs _ hold, hvars _ hold, World.keptBut_mono (fun p hp => ⟨hp, ?_⟩) (hb.frame (· ∈ before)), fun _ => ?_⟩
  · rw [hps, List.mem_append] at hp
    exact Or.inr hp
  · obtain ⟨_, _, _, _, _, hz, hn⟩ := hW
    refine ⟨hok, _, _, ([] ++ pa) ++ pv, ⟨[] ++ pa, pv, trodAll_append (hargs _ (fun _ _ => rfl)) (hres _ _ _), hvars _ (fun _ _ => rfl), rfl, ?_, ?_⟩, ?_⟩
    · intro b off hp
      have hm : MemPlace.cell b off ∈ before := by rw [hps]; simpa using hp
      rw [World.frozen?_of_block (w := W) (hb.block b (hlt _ hm))]
      exact hz b off hm
    · intro ha
      have := hn ha
      rw [hps] at this
      simpa using this
    · intro p hp _
      rw [hps]
      simpa using hp
end Go.Proofs.YtfahbdakhbpfcaaGreat
namespace Go.Proofs.YtfahbdakhbpfcaaGreat
open Go.ChangeShapes Go.WideShapes Go.ChangeAt Go.RowKit Go.Deep

def toU8 (z : Int) : UInt8 := UInt8.ofNat z.toNat
theorem bv_toU8 {z : Int} (h : (Lit.int .u8 z).wf = true) : Sha.bv (toU8 z) = .int .u8 z := by
  have h1 : (0 : Int) ≤ z ∧ z ≤ 255 := by
    have h2 : (decide (IntKind.u8.min ≤ z) && decide (z ≤ IntKind.u8.max)) = true := h
    rw [Bool.and_eq_true] at h2
    exact ⟨of_decide_eq_true h2.1, of_decide_eq_true h2.2⟩
  have : ((toU8 z).toNat : Int) = z := by
    unfold toU8
    rw [UInt8.toNat_ofNat']
    omega
  simp only [Sha.bv, this]

section
variable {H : Type} {enc : TypeId × Value → H} {w : World} {base : Nat} {held : Bool}

theorem cells_verify : Tryz.prog.cellsOf 27 = 52 := by kernel_rfl
theorem cells_index : Tryz.prog.cellsOf 23 = 16 := by kernel_rfl
theorem cells_u8 : Tryz.prog.cellsOf 5 = 1 := by kernel_rfl
theorem cells_int : Tryz.prog.cellsOf 3 = 1 := by kernel_rfl
theorem cells_pair : Tryz.prog.cellsOf 44 = 2 := by kernel_rfl

theorem field_at {spare : Nat → Bool} {fs : Array Field} {m : Nat} {cs : List Value} {xs : List (DataW H × List MemPlace)}
    (hf : ∀ (i : Nat) (f : Field), fs[i]? = some f → DataW.trod enc Tryz.prog w base spare held m f.type ((cs.drop f.offset).take (Tryz.prog.cellsOf f.type)) = xs[i]?)
    (i o : Nat) (t : TypeId) {f : Field} (hi : fs[i]? = some f) (ht : f.type = t) (ho : f.offset = o) :
    DataW.trod enc Tryz.prog w base spare held m t ((cs.drop o).take (Tryz.prog.cellsOf t)) = xs[i]? := by
  subst ht ho
  exact hf i f hi
theorem one_cell {cs : List Value} {o : Nat} {v : Value} (h : (cs.drop o).take 1 = [v]) : cs[o]? = some v := by
  have := congrArg (fun l => l[0]?) h
  simpa using this

theorem open_verify {v : Value} {d : DataW H} {ps : List MemPlace} {cs : Array Value} (hv : v = .agg cs) (h : DataW.Trod enc Tryz.prog w base (fun _ => true) held 27 v d ps) :
    ∃ (L : List UInt8) (k n seg size : Int), Vf cs L k n seg size := by
  subst hv
  obtain ⟨fuel, h⟩ := h
  change DataW.trod enc Tryz.prog w base (fun _ => true) held fuel 27 cs.toList = some (d, ps) at h
  obtain ⟨xs, m, rfl, hd, hlen, hxs, hf⟩ := DataW.trod_struct Tryz.underlying27 h
  rw [cells_verify] at hlen
  have hlen' : cs.toList.length = 52 := hlen
  have hx6 : xs.length = 6 := hxs
  have hx : ∀ i, i < 6 → ∃ x, xs[i]? = some x := fun i hi => ⟨xs[i]'(by omega), List.getElem?_eq_getElem _⟩
  have f0 := field_at hf 0 0 23 rfl rfl rfl
  have f2 := field_at hf 2 48 3 rfl rfl rfl
  have f3 := field_at hf 3 49 3 rfl rfl rfl
  have f4 := field_at hf 4 50 3 rfl rfl rfl
  have f5 := field_at hf 5 51 3 rfl rfl rfl
  obtain ⟨x0, e0⟩ := hx 0 (by omega)
  obtain ⟨x2, e2⟩ := hx 2 (by omega)
  obtain ⟨x3, e3⟩ := hx 3 (by omega)
  obtain ⟨x4, e4⟩ := hx 4 (by omega)
  obtain ⟨x5, e5⟩ := hx 5 (by omega)
  rw [e0] at f0
  rw [e2] at f2
  rw [e3] at f3
  rw [e4] at f4
  rw [e5] at f5
  obtain ⟨k, k1, _, _⟩ := DataW.trod_int Tryz.underlying3 f2
  obtain ⟨n, n1, _, _⟩ := DataW.trod_int Tryz.underlying3 f3
  obtain ⟨seg, s1, _, sw⟩ := DataW.trod_int Tryz.underlying3 f4
  obtain ⟨size, z1, _, _⟩ := DataW.trod_int Tryz.underlying3 f5
  obtain ⟨ys, m', _, _, hyl, hy16, hy⟩ := DataW.trod_array Tryz.underlying23 f0
  rw [cells_int] at k1 n1 s1 z1
  have each : ∀ i, i < 16 → ∃ z : Int, cs.toList[i]? = some (.int .u8 z) ∧ (Lit.int .u8 z).wf = true := by
    intro i hi
    have h1 := hy i hi
    rw [cells_u8, cells_index, List.getElem?_eq_getElem (by omega)] at h1
    obtain ⟨z, h2, _, h3⟩ := DataW.trod_int Tryz.underlying5 h1
    refine ⟨z, ?_, h3⟩
    have h4 := one_cell h2
    simpa [List.getElem?_take, hi] using h4
  obtain ⟨q, hq⟩ := choose_lt each
  refine ⟨(List.range 16).map fun i => toU8 (q i), k, n, seg, size, hlen', by simp, ?_, ?_, ?_, ?_, ?_, ?_⟩
  · intro j v hj
    have hj16 : j < 16 := by
      have := (List.getElem?_eq_some_iff.1 hj).1
      simpa using this
    simp only [List.map_map, List.getElem?_map, List.getElem?_range hj16, Option.map_some, Function.comp, Option.some.injEq] at hj
    rw [← hj, bv_toU8 (hq j hj16).2]
    simpa using (hq j hj16).1
  · simpa using one_cell k1
  · simpa using one_cell n1
  · simpa using one_cell s1
  · simpa using one_cell z1
  · have h2 : (decide (IntKind.i64.min ≤ seg) && decide (seg ≤ IntKind.i64.max)) = true := sw
    rw [Bool.and_eq_true] at h2
    have h3 := of_decide_eq_true h2.2
    simpa [IntKind.max, IntKind.signed, IntKind.bits] using h3

theorem open_pairs {v : Value} {d : DataW H} {ps : List MemPlace} {p : Option Addr} {n c : Nat} (hv : v = .slice p n c) (h : DataW.Trod enc Tryz.prog w base (fun _ => true) held 28 v d ps) :
    ∃ l : List (Int × Int), HasP w (.slice p n c) l := by
  subst hv
  obtain ⟨fuel, h⟩ := h
  rcases open_slice_pairs Tryz.underlying28 Tryz.underlying44 cells_pair rfl rfl cells_int cells_int h with ⟨h0, _⟩ | ⟨a, len, cap, m, f, V0, V1, D0, D1, P0, P1, hcs, _, hlen, _, hm, _, hi⟩
  · exact ⟨[], .inl ⟨(List.cons.inj h0).1, rfl⟩⟩
  · have e := (List.cons.inj hcs).1
    simp only [if_true] at hm
    subst hm
    have each : ∀ i, i < len → ∃ z : Int × Int, w.cell? (a.add (i * 2)) = some (.int .i64 z.1) ∧ w.cell? (a.add (i * 2 + 1)) = some (.int .i64 z.2) := by
      intro i hil
      obtain ⟨h0, h1, t0, t1⟩ := hi i (by omega)
      obtain ⟨x, ex, _, _⟩ := DataW.trod_int Tryz.underlying3 t0
      obtain ⟨y, ey, _, _⟩ := DataW.trod_int Tryz.underlying3 t1
      rw [(List.cons.inj ex).1] at h0
      rw [(List.cons.inj ey).1] at h1
      exact ⟨(x, y), h0, h1⟩
    obtain ⟨q, hq⟩ := choose_lt each
    refine ⟨(List.range len).map q, .inr ⟨a, m, ?_, ?_, fun i p hp => ?_⟩⟩
    · rw [List.length_map, List.length_range]
      exact e
    · rw [List.length_map, List.length_range]
      exact hlen
    · have hil : i < len := by
        have := (List.getElem?_eq_some_iff.1 hp).1
        simpa using this
      simp only [List.getElem?_map, List.getElem?_range hil, Option.map_some, Option.some.injEq] at hp
      rw [← hp]
      exact hq i hil
end
end Go.Proofs.YtfahbdakhbpfcaaGreat
namespace Go.Proofs.YtfahbdakhbpfcaaGreat
open Go.ChangeShapes Go.WideShapes Go.ChangeAt Go.RowKit Go.Deep

theorem own : ownKnob Tryz.prog.godebug = none := by kernel_rfl
theorem lays_out : laidOutB Tryz.prog = true := by kernel_rfl

set_option maxRecDepth 100000 in
/-- what the walk gives, for every argument -/
theorem contract (H : Type) (enc : TypeId × Value → H) (W : World) (base : Nat) (args : Array Value) (ds gs : List (DataW H)) (before : List MemPlace)
    (hval : ∀ (j : Nat) t v, Tryz.f3.params[j]? = some t → args[j]? = some v → Value.okWide Tryz.prog W .any base t v)
    (hW : DataW.Whole enc Tryz.prog Tryz.f3.params.toList Rows.repairPlanSpec.vars false W args.toList ds gs before) :
    Calls Tryz.prog 3 args W fun e W' => ∃ v, e = .returned v ∧ Rows.repairPlanSpec.post enc Tryz.prog Tryz.f3 false true false false W args v W' := by
  have hW' := hW
  obtain ⟨p, q, hA0, hV, rfl, hfz, hnd⟩ := hW
  have hA : DataW.TrodAll enc Tryz.prog W 0 (fun _ => true) true Tryz.f3.params.toList args.toList ds p := hA0
  rw [Tryz.params3] at hA hval
  obtain ⟨v0, v1, v2, v3, d0, d1, d2, d3, p0, p1, p2, p3, rfl, rfl, rfl, h0, h1, h2, h3⟩ := trodAll_four hA
  obtain ⟨rfl, rfl⟩ := trodVars_none hV
  obtain ⟨cs, e0, _⟩ := okWide_struct Tryz.underlying27 (hval 0 _ v0 rfl rfl)
  obtain ⟨s, e1, _, _⟩ := open_int Tryz.underlying3 (hval 1 _ v1 rfl rfl) h1
  obtain ⟨pG, nG, cG, e2⟩ := okWide_slice Tryz.underlying28 (hval 2 _ v2 rfl rfl)
  obtain ⟨pB, nB, cB, e3⟩ := okWide_slice Tryz.underlying28 (hval 3 _ v3 rfl rfl)
  obtain ⟨L, k, n, seg, size, hv⟩ := open_verify e0 h0
  obtain ⟨good, hG⟩ := open_pairs e2 h2
  obtain ⟨bad, hB⟩ := open_pairs e3 h3
  subst e0 e1 e2 e3
  simp only [List.append_nil] at hW'
  have hlt : ∀ z ∈ p0 ++ p1 ++ p2 ++ p3, z.block < W.heap.size := fun z hz => hW'.lt z hz
  refine (law_all cs L k n seg size s hv pG pB nG cG nB cB good bad W hG hB).mono fun e W' ⟨he, hb⟩ => ?_
  subst he
  exact ⟨_, rfl, [d0, d1, d2, d3], [], p0 ++ p1 ++ p2 ++ p3, [], p0 ++ (p1 ++ (p2 ++ p3)), [], hW', trodAll_mk1 (shut_bool Tryz.underlying4 _),
    trodAll_mk4 (Below.trod lays_out (by kernel_rfl) (of_decide_eq_true (by kernel_rfl)) h0 hb (fun x hx => hlt x (by simp [hx]))) (Below.trod lays_out (by kernel_rfl) (of_decide_eq_true (by kernel_rfl)) h1 hb (fun x hx => hlt x (by simp [hx])))
      (Below.trod lays_out (by kernel_rfl) (of_decide_eq_true (by kernel_rfl)) h2 hb (fun x hx => hlt x (by simp [hx]))) (Below.trod lays_out (by kernel_rfl) (of_decide_eq_true (by kernel_rfl)) h3 hb (fun x hx => hlt x (by simp [hx]))),
    rfl, hb.frame _, fun h => by cases h⟩

/-- an input for the witness: all nought -/
noncomputable def inputs : Array Value := #[((Tryz.prog.info? 27).bind (·.zero)).getD undef, .int .i64 0, .slice none 0 0, .slice none 0 0]

set_option maxRecDepth 100000 in
theorem lifted (os : Os) (started : os.Started) (H : Type) (enc : TypeId × Value → H) (F : Stop.Interp) :
    ReturnsInHanded {} Tryz.checked os 3 .any ((Rows.OpenSpec.upto Rows.repairPlanSpec).pre6 enc Tryz.prog Tryz.f3 Rows.repairPlanUptoRow.domain false) (((Rows.OpenSpec.upto Rows.repairPlanSpec).at F).post enc Tryz.prog Tryz.f3 false true false false) := by
  refine returnsInHanded_of_cond (C := Tryz.checked) (s := Rows.OpenSpec.upto Rows.repairPlanSpec) (k := Rows.uptoSmall) rfl own started (by kernel_rfl) Tryz.func3
    (OpenSpec.witness (enc := enc) (C := Tryz.checked) (s := Rows.OpenSpec.upto Rows.repairPlanSpec) (k := Rows.uptoSmall) rfl false ⟨#[], inputs, []⟩ 8 (by kernel_rfl) (by kernel_rfl) (by kernel_rfl)
      (x := ([.agg [.agg (List.replicate 16 (.lit (.int .u8 0))), .agg (List.replicate 32 (.lit (.int .u8 0))), .lit (.int .i64 0), .lit (.int .i64 0), .lit (.int .i64 0), .lit (.int .i64 0)], .lit (.int .i64 0), .nil, .nil], [], [])) (by kernel_rfl) rfl (by kernel_rfl)) ?_
  intro W base args ds gs before hval hW _ _ _
  exact contract H enc W base args ds gs before hval hW

theorem repairPlan_inst : Tryz.f3.isInstance Tryz.pinned.checked.prog Rows.repairPlanUptoRow.origin Rows.repairPlanUptoRow.targs := of_decide_eq_true (by kernel_rfl)
theorem repairPlan_wrap : Tryz.f3.isWrapper Tryz.pinned.checked.prog Rows.repairPlanUptoRow.wrapper Rows.repairPlanUptoRow.mainSum := by
  unfold Func.isWrapper; first | (rw [if_pos (by decide +kernel)]; kernel_rfl) | (rw [if_neg (by decide +kernel)]; exact ⟨rfl, rfl⟩)

theorem repairPlan_upto : Rows.RepairPlanUptoSaid :=
  OpenClaim.holds_of_cond 3 Tryz.f3 rfl rfl rfl rfl rfl rfl rfl ⟨rfl, rfl, rfl, rfl, rfl⟩ rfl rfl rfl rfl rfl (by kernel_rfl) Tryz.func3 (by kernel_rfl)
    repairPlan_inst repairPlan_wrap
    (fun os started H enc _ F => lifted os started H enc F)
#print axioms repairPlan_upto
end Go.Proofs.YtfahbdakhbpfcaaGreat
