/-
  Rnd: WALK: ring.Round's iterator: it hands the ranks and their servers on, in order; conditions: at most 32 servers, a place from 0 on; what a round must keep is said.
  Cont: WALKS: slices.Index and slices.Contains of pairs; strongroomref28.has, numbered, there; conditions: at most 100100 pairs.
-/
import Derived.Test.YtfahbdakhbpfcaaGreatM22
import Derived.Test.YtfahbdakhbpfcaaGreatM23
import Derived.Test.YtfahbdakhbpfcaaGreatM25
import Derived.Test.YtfahbdakhbpfcaaGreatM29
import Derived.Test.YtfahbdakhbpfcaaGreatM31
namespace Go.Proofs.YtfahbdakhbpfcaaGreat
open Go.RowKit Go.Shelf
attribute [local go_sem] Oper.semAt_some

/-- in which block the servers of the try at bt lie -/
def srv (bt : Nat) (W : World) : Option Nat := (W.cell? ⟨bt, 1, none⟩).bind Value.ownBlock
/-- what a round keeps: all blocks of cells but the try's and its servers'; these lie where they lay, or in new memory -/
structure Kp (bt : Nat) (A B : World) : Prop where
  size : A.heap.size ≤ B.heap.size
  cells : ∀ (k : Nat) (o : Obj), A.heap[k]? = some o → o.isCells = true → k ≠ bt → srv bt A ≠ some k → B.heap[k]? = some o
  srvs : srv bt B = srv bt A ∨ ∀ q, srv bt B = some q → A.heap.size ≤ q
theorem Kp.refl (bt : Nat) (A : World) : Kp bt A A := ⟨Nat.le_refl _, fun _ _ h _ _ _ => h, .inl rfl⟩
theorem Kp.trans {bt : Nat} {A B C : World} (h : Kp bt A B) (k : Kp bt B C) : Kp bt A C := by
  refine ⟨Nat.le_trans h.size k.size, fun i o hi hc hne hs => ?_, ?_⟩
  · refine k.cells i o (h.cells i o hi hc hne hs) hc hne fun e => ?_
    rcases h.srvs with h1 | h1
    · exact hs (h1 ▸ e)
    · have := h1 i e
      have := (Array.getElem?_eq_some_iff.1 hi).1
      omega
  · rcases k.srvs with h1 | h1
    · rcases h.srvs with h2 | h2
      · exact .inl (h1.trans h2)
      · exact .inr fun q hq => h2 q (h1 ▸ hq)
    · exact .inr fun q hq => Nat.le_trans h.size (h1 q hq)
theorem Kp.putObj (bt : Nat) (W : World) (l : Nat) (o o' : Obj) (h : W.heap[l]? = some o) (hc : o.isCells = false) (hl : bt ≠ l) : Kp bt W (W.putObj l o') := by
  refine ⟨by simp [World.putObj], fun k q hk hq _ _ => ?_, .inl ?_⟩
  · have hkl : k ≠ l := by
      rintro rfl
      rw [h] at hk
      cases hk
      rw [hc] at hq
      cases hq
    exact (World.putObj_heap_other hkl).trans hk
  · unfold srv
    rw [World.cell?_of_block (w := W) (World.putObj_heap_other hl)]
theorem Kp.row {bt : Nat} {A B : World} (h : Kp bt A B) {b : Nat} {t : TypeId} {cs : Array Value} (hr : Row A b t cs) (hne : b ≠ bt) (hs : srv bt A = none) : Row B b t cs :=
  h.cells b _ hr rfl hne (by rw [hs]; simp)

theorem wpListIn_load_at {F : Fence} {n : Nat} {P : Program} {w : World} {ops : Array Oper} {rest : List Oper} {o : Oper} {a : Act} {Q : Exit → Act → World → Prop}
    (hg : o.guard = none) (ty : TypeId) (x : Operand) (hop : o.op = .load ty x) (ad : Addr) (hx : a.eval x = .pointer (some ad)) (cs : Array Value) (d : TypeDesc)
    (hc : ∀ j v, cs.toList[j]? = some v → w.cell? (ad.add j) = some v) (hu : P.underlying ty = some d) (hd : d.isRow = true) (hi : (P.info? ty).map (·.size) = some cs.size)
    (hK : wpListIn F n P ops Q rest (a.put o.dst (.agg cs)) w) : wpListIn F n P ops Q (o :: rest) a w := by
  refine wpListIn_plain hg fun K' hK' => ?_
  have hl := run_loadVar_at (P := P) w ad ty cs.toList d hc hu hd (by simpa using hi)
  unfold Oper.wpIn
  refine ⟨by simp [Oper.about, hop], ?_⟩
  rw [Oper.semAt_plain F _ _ (by rw [hop]; intro c hc'; cases hc')]
  simp only [execOp, hop, hx, Instr.loadAt, Instr.sureAddr, Sem.run_bind, Sem.run_pure, Result.andThen_ok, hl, Array.toArray_toList]
  exact hK' _ _ hK
theorem blk_at {w : World} {b : Nat} {t : TypeId} {L : List UInt8} (h : Row w b t (blk L)) : ∀ j v, (blk L).toList[j]? = some v → w.cell? ((⟨b, 0, none⟩ : Addr).add j) = some v := fun j v hv => by
  rw [Addr.add_mid, Nat.zero_add, h.cell]
  simpa using hv

/-- the round from a place on -/
def rnd (L : List UInt8) (s i : Nat) : List (Int × Int) := (List.range s).map fun j => ((((i % s + j) % s : Nat) : Int), (((ordL L s).getD ((i % s + j) % s) 0 : Nat) : Int))
theorem rnd_len (L : List UInt8) (s i : Nat) : (rnd L s i).length = s := by simp [rnd]
theorem rnd_get (L : List UInt8) (s i j : Nat) (hj : j < s) : (rnd L s i)[j]? = some ((((i % s + j) % s : Nat) : Int), (((ordL L s).getD ((i % s + j) % s) 0 : Nat) : Int)) := by simp [rnd, hj]

set_option maxRecDepth 100000 in
set_option maxHeartbeats 2000000 in
theorem rnd_none (L : List UInt8) (bt bx bs bf : Nat) (w : World) (hL : L.length = 16)
    (rx : Row w bx 23 (blk L)) (rs : Row w bs 3 #[.int .i64 0]) :
    SeqStopsK Fence.wide 8 Tryz.prog 25 #[.pointer (some ⟨bx, 0, none⟩), .pointer (some ⟨bs, 0, none⟩), .pointer (some ⟨bf, 0, none⟩)] (fun x : Int × Int => #[.int .i64 x.1, .int .i64 x.2]) (Kp bt)
      (fun xs => xs = []) (fun _ => True) 0 w := by
  intro l J Jx W hbW hJ _ _ h0
  have hX := rx.below hbW rx.lt
  have hS := rs.below hbW rs.lt
  refine callsIn_of_wp Tryz.func25 rfl trivial ?_ rfl
  simp only [Tryz.ntmps25, List.size_toArray, List.length_cons, List.length_nil, Nat.reduceAdd, Nat.reduceSub, Array.replicate_succ, Array.replicate_zero, List.push_toArray, List.append_toArray, List.nil_append, List.cons_append]
  have hs0 : W.cell? ⟨bs, 0, none⟩ = some (.int .i64 0) := hS.cell 0
  gi_wp2_with (refine wpListIn_load_at rfl 23 (.tmp 1) rfl ⟨bx, 0, none⟩ rfl (blk L) _ (blk_at hX) Tryz.underlying23 rfl (idx_info L hL) ?_)
  refine ⟨trivial, (callsIn_wide.2 (order_none (blk L) 0 (by omega) W)).mono ?_⟩
  rintro e w1 ⟨rfl, hb1⟩
  gi_wp2
  exact bodyPost_ret (results_none rfl _ _ _) rfl ⟨⟨_, rfl⟩, .inl ⟨[], rfl, abides_below hJ h0 hb1⟩⟩

set_option maxRecDepth 100000 in
set_option maxHeartbeats 4000000 in
theorem rnd_some (L : List UInt8) (m i bt bx bs bf : Nat) (w : World) (hL : L.length = 16) (hm : m + 1 ≤ 32) (hi : i ≤ 1000)
    (rx : Row w bx 23 (blk L)) (rs : Row w bs 3 #[.int .i64 ((m + 1 : Nat) : Int)]) (rf : Row w bf 3 #[.int .i64 (i : Int)]) (hbt : w.cell? ⟨bt, 1, none⟩ = some (.slice none 0 0)) (ns : bs ≠ bt) :
    SeqStopsK Fence.wide 8 Tryz.prog 25 #[.pointer (some ⟨bx, 0, none⟩), .pointer (some ⟨bs, 0, none⟩), .pointer (some ⟨bf, 0, none⟩)] (fun x : Int × Int => #[.int .i64 x.1, .int .i64 x.2]) (Kp bt)
      (fun xs => xs = rnd L (m + 1) i) (fun _ => True) (m + 1) w := by
  intro l J Jx W hbW hJ _ hY h0
  have hX := rx.below hbW rx.lt
  have hS := rs.below hbW rs.lt
  have hF := rf.below hbW rf.lt
  have hBT : W.cell? ⟨bt, 1, none⟩ = some (.slice none 0 0) := (hbW.cell (block_lt_of_cell hbt)).trans hbt
  have hbtl : bt < W.heap.size := block_lt_of_cell hBT
  have HY := Lib.hid hY
  have HJ := Lib.hid hJ
  clear rx rs rf hbt hbW hY hJ
  have hs0 : W.cell? ⟨bs, 0, none⟩ = some (.int .i64 ((m + 1 : Nat) : Int)) := hS.cell 0
  have hf0 : W.cell? ⟨bf, 0, none⟩ = some (.int .i64 (i : Int)) := hF.cell 0
  obtain ⟨s, hs⟩ : ∃ s, s = m + 1 := ⟨_, rfl⟩
  have hcall := order_at L hL m hm W
  rw [← hs] at hS hs0 HY hcall ⊢
  have hs1 : 1 ≤ s := by omega
  have hs2 : s ≤ 32 := by omega
  clear hs hm
  refine callsIn_of_wp Tryz.func25 rfl trivial ?_ rfl
  simp only [Tryz.ntmps25, List.size_toArray, List.length_cons, List.length_nil, Nat.reduceAdd, Nat.reduceSub, Array.replicate_succ, Array.replicate_zero, List.push_toArray, List.append_toArray, List.nil_append, List.cons_append]
  gi_wp2_with (refine wpListIn_load_at rfl 23 (.tmp 1) rfl ⟨bx, 0, none⟩ rfl (blk L) _ (blk_at hX) Tryz.underlying23 rfl (idx_info L hL) ?_)
  refine ⟨trivial, (callsIn_wide.2 hcall).mono ?_⟩
  rintro e w1 ⟨rfl, hord, hb1⟩
  clear hcall hs0 hf0
  have hj1 := abides_below HJ.out h0 hb1
  have hS1 := hS.below hb1 hS.lt
  have hF1 := hF.below hb1 hF.lt
  have hBT1 : w1.cell? ⟨bt, 1, none⟩ = some (.slice none 0 0) := (hb1.cell (p := ⟨bt, 1, none⟩) hbtl).trans hBT
  have hsrv : srv bt w1 = none := by simp [srv, hBT1, Value.ownBlock]
  have hs0 : w1.cell? ⟨bs, 0, none⟩ = some (.int .i64 (s : Int)) := hS1.cell 0
  have hf0 : w1.cell? ⟨bf, 0, none⟩ = some (.int .i64 (i : Int)) := hF1.cell 0
  have hne : W.heap.size + 3 ≠ bt := by omega
  obtain ⟨f, hf⟩ : ∃ f, f = i % s := ⟨_, rfl⟩
  have hfi : (i : Int) % (s : Int) = (f : Int) := by rw [hf]; omega
  have hfs : f < s := by rw [hf]; exact Nat.mod_lt _ (by omega)
  have HF := Lib.hid hf
  have HSRV := Lib.hid hsrv
  clear hf hX hS hF hBT hsrv
  have hd : decide ((f : Int) < 0) = false := decide_eq_false (by omega)
  gi_wp2
  simp only [hfi]
  clear hd
  gi_loopw [27] (fun c wr => ∃ j : Nat, j ≤ s ∧ c = .int .i64 j ∧ Kp bt w1 wr ∧ J ((rnd L s i).take j) wr) (fun c _ => s - (intOf c).toNat)
  case atStart => exact ⟨0, Nat.zero_le _, rfl, Kp.refl _ _, hj1⟩
  case round =>
    clear hs0 hf0
    obtain ⟨j, hj, rfl, hK, hJ⟩ := hrel
    by_cases hlt : j < s
    · have hji : (j : Int) < (s : Int) := by omega
      have rS := hK.row hS1 ns HSRV.out
      have rO := hK.row hord hne HSRV.out
      have hs0 : wr.cell? ⟨bs, 0, none⟩ = some (.int .i64 (s : Int)) := rS.cell 0
      obtain ⟨r, hr⟩ : ∃ r, r = (f + j) % s := ⟨_, rfl⟩
      have hri : ((f : Int) + (j : Int)) % (s : Int) = (r : Int) := by rw [hr, Int.natCast_emod, Int.natCast_add]
      have hrs : r < s := by rw [hr]; exact Nat.mod_lt _ (by omega)
      have hrsi : (r : Int) < (s : Int) := by omega
      obtain ⟨x, hx⟩ : ∃ x, (ordL L s)[r]? = some x := ⟨(ordL L s)[r]'(by rw [ordL_len]; exact hrs), List.getElem?_eq_getElem _⟩
      have hc : wr.cell? ⟨W.heap.size + 3, r, none⟩ = some (.int .i64 (x : Int)) := by
        rw [rO.cell]
        simp [ordV, hx]
      have hget : (rnd L s i)[j]? = some ((r : Int), (x : Int)) := by
        rw [rnd_get L s i j hlt, ← HF.out, ← hr]
        simp [hx]
      have htake : (rnd L s i).take (j + 1) = (rnd L s i).take j ++ [((r : Int), (x : Int))] := by
        rw [List.take_add_one, hget]
        rfl
      have HT := Lib.hid htake
      have hyd := HY.out ((rnd L s i).take j) ((r : Int), (x : Int)) wr hJ (by rw [List.length_take, rnd_len]; omega)
      obtain ⟨fn, tmps, assign, body, hy, hR⟩ := hyd
      clear htake hget hx hr rS rO
      gi_wp2_with fail
      refine hR.mono ?_
      rintro e w3 (⟨rfl, hj3, hk3⟩ | ⟨rfl, hx3⟩)
      · rw [← HT.out] at hj3
        gi_wp2
        go_roundw
        case rel => exact ⟨j + 1, by omega, by go_num, hK.trans hk3, hj3⟩
        case measure => simp [intOf]; omega
      · gi_wp2
        exact bodyPost_ret (results_none rfl _ _ _) rfl ⟨⟨_, rfl⟩, .inr ⟨_, trivial, hx3⟩⟩
    · obtain rfl : j = s := by omega
      rw [List.take_of_length_le (by rw [rnd_len]; omega)] at hJ
      gi_wp2
      go_end0
      exact ⟨⟨_, rfl⟩, .inl ⟨_, rfl, hJ⟩⟩
end Go.Proofs.YtfahbdakhbpfcaaGreat
namespace Go.Proofs.YtfahbdakhbpfcaaGreat
open Go.RowKit

set_option maxRecDepth 100000 in
set_option maxHeartbeats 1000000 in
/-- slices.Index: the first place, else -1 -/
theorem index_at (n c : Nat) (p : Option Addr) (l : List (Int × Int)) (x y : Int) (w : World) (hn : n ≤ 100100) (hp : HasP w (.slice p n c) l) :
    Calls Tryz.prog 27 #[.slice p n c, .agg #[.int .i64 x, .int .i64 y]] w fun e w' =>
      (∃ r : Int, e = .returned (.int .i64 r) ∧ decide (0 ≤ r) = decide ((x, y) ∈ l)) ∧ Below w.heap.size w w' := by
  have HN := Lib.hid hp.len
  go_enter Tryz.func27, Tryz.ntmps27
  go_wp2_with fail
  go_loopw [8] (fun i wr => ∃ k : Nat, k ≤ n ∧ i = .int .i64 k ∧ (∀ j, j < k → l[j]? ≠ some (x, y)) ∧ Row wr w.heap.size 44 #[.int .i64 x, .int .i64 y] ∧ Below w.heap.size w wr) (fun i _ => n - (intOf i).toNat)
  case atStart => exact ⟨0, Nat.zero_le _, rfl, fun j hj => absurd hj (Nat.not_lt_zero _), Row.new _ _ _, (Below.refl _ _).alloc (Nat.le_refl _) _⟩
  case round =>
    obtain ⟨k, hk, rfl, hno, hrow, hb⟩ := hrel
    by_cases hlt : k < n
    · obtain ⟨⟨x', y'⟩, hxy⟩ : ∃ q, l[k]? = some q := ⟨l[k]'(by have := HN.out; omega), List.getElem?_eq_getElem _⟩
      obtain ⟨a, rfl, h0, h1⟩ := (hp.later hb).cells hxy
      have hki : (k : Int) < (n : Int) := by omega
      have b0 : wr.cell? ⟨w.heap.size, 0, none⟩ = some (.int .i64 x) := hrow.cell 0
      have b1 : wr.cell? ⟨w.heap.size, 1, none⟩ = some (.int .i64 y) := hrow.cell 1
      have HE := Lib.hid hno
      have HX := Lib.hid hxy
      have HP := Lib.hid hp
      clear hno hxy hp
      have hne := eql_pair x y x' y'
      have hgd := pair_guard
      go_wp2_with fail
      go_quiet (fail)
      have hb2 := below_drewN hb nq
      have hrow2 := hrow.drewN nq
      generalize wr.drewN nq = W at *
      generalize hbb : (x == x' && y == y') = bb
      have HB := Lib.hid hbb
      clear hbb hb hne hrow b0 b1
      cases bb
      · go_wp2_with fail
        go_roundw
        case rel =>
          refine ⟨k + 1, by omega, by go_num, fun j hj => ?_, hrow2, hb2⟩
          by_cases hj' : j = k
          · subst hj'
            rw [HX.out]
            intro he
            simp only [Option.some.injEq, Prod.mk.injEq] at he
            have hbb := HB.out
            simp [he.1, he.2] at hbb
          · exact HE.out j (by omega)
        case measure => simp [intOf]; omega
      · have hm : (x, y) ∈ l := by
          have hbb := HB.out
          simp only [Bool.and_eq_true, beq_iff_eq] at hbb
          obtain ⟨rfl, rfl⟩ := hbb
          exact List.mem_of_getElem? HX.out
        have HM := Lib.hid hm
        clear hm
        go_wp2_with fail
        go_ret
        refine ⟨⟨(k : Int), rfl, ?_⟩, hb2⟩
        rw [decide_eq_true (show (0 : Int) ≤ (k : Int) by omega), decide_eq_true HM.out]
    · obtain rfl : k = n := by omega
      have hm : ¬ (x, y) ∈ l := by
        intro hm
        obtain ⟨j, hj⟩ := List.mem_iff_getElem?.1 hm
        have hjl := (List.getElem?_eq_some_iff.1 hj).1
        exact hno j (by have := HN.out; omega) hj
      have HM := Lib.hid hm
      clear hm hno
      go_wp2_with fail
      go_ret
      refine ⟨⟨-1, rfl, ?_⟩, hb⟩
      rw [decide_eq_false (show ¬ (0 : Int) ≤ -1 by omega), decide_eq_false HM.out]

set_option maxRecDepth 100000 in
set_option maxHeartbeats 1000000 in
theorem contains_at (n c : Nat) (p : Option Addr) (l : List (Int × Int)) (x y : Int) (w : World) (hn : n ≤ 100100) (hp : HasP w (.slice p n c) l) :
    Calls Tryz.prog 15 #[.slice p n c, .agg #[.int .i64 x, .int .i64 y]] w fun e w' =>
      e = .returned (.bool (decide ((x, y) ∈ l))) ∧ Below w.heap.size w w' := by
  have HP := Lib.hid (hp.later ((Below.refl w.heap.size w).alloc (Nat.le_refl _) (.cells #[.int .i64 x, .int .i64 y] 44)))
  clear hp
  go_enter Tryz.func15, Tryz.ntmps15
  go_wp2_with fail
  refine (index_at n c p l x y _ hn HP.out).mono ?_
  rintro e w1 ⟨⟨r, rfl, hr⟩, hb⟩
  have HR := Lib.hid hr
  clear hr
  have hB := ((Below.refl w.heap.size w).alloc (Nat.le_refl _) (.cells #[.int .i64 x, .int .i64 y] 44)).trans (hb.mono (by simp))
  go_wp2_with fail
  go_ret
  exact ⟨by rw [HR.out]; rfl, hB⟩
end Go.Proofs.YtfahbdakhbpfcaaGreat
