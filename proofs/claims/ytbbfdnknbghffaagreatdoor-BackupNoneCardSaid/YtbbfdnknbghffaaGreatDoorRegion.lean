/- PLAIN LAW: regions that draw their order: two readings in either order, then a forced order; whole arrays read at a slice's address; conditions: none. -/
import Derived.Test.YtbbfdnknbghffaaGreatDoorBase
import Derived.Deep.MidRow
import Derived.StillTailTactics
namespace Go.Proofs.YtbbfdnknbghffaaGreatDoor
open Go.RowKit

section
variable {P : Program} {ops : Array Oper} {Q : Exit → Act → World → Prop} {md : Region.Mode} {w : World}

theorem YieldsAt.wpOp' {i : Nat} {o : Oper} {v : Value} {a : Act} (hi : ops[i]? = some o) (hy : YieldsAt P ops w o v a) {K : Act → World → Prop} (h : K (a.put o.dst v) w) : wpOp P ops Q i K a w :=
  wpOp_of_stOp (K := fun a' => K a' w) (fun _ h => h) (hy.stOp hi h)

/-- two that only read may come up: whichever order, one end -/
theorem wpAny_two {i j fuel : Nat} {oi oj : Oper} {vi vj : Value} {listed L : Array Bool} {a A : Act} (hi : ops[i]? = some oi) (hj : ops[j]? = some oj)
    (hr : Region.ready md ops listed = [i, j]) (hri : Region.ready md ops (listed.setIfInBounds i true) = [j]) (hrj : Region.ready md ops (listed.setIfInBounds j true) = [i])
    (hl : (listed.setIfInBounds i true).setIfInBounds j true = L) (hl' : (listed.setIfInBounds j true).setIfInBounds i true = L)
    (yi : YieldsAt P ops w oi vi a) (yj : YieldsAt P ops w oj vj (a.put oi.dst vi)) (yj' : YieldsAt P ops w oj vj a) (yi' : YieldsAt P ops w oi vi (a.put oj.dst vj))
    (ha : (a.put oi.dst vi).put oj.dst vj = A) (ha' : (a.put oj.dst vj).put oi.dst vi = A)
    (h : wpAny P md ops Q fuel L A w) : wpAny P md ops Q (fuel + 2) listed a w := by
  refine ⟨fun h0 => (by rw [hr] at h0; cases h0), fun k hk => ?_⟩
  rw [hr] at hk
  simp only [List.mem_cons, List.not_mem_nil, or_false] at hk
  rcases hk with rfl | rfl
  · refine YieldsAt.wpOp' hi yi ⟨fun h0 => (by rw [hri] at h0; cases h0), fun k hk => ?_⟩
    rw [hri] at hk
    obtain rfl : k = j := by simpa using hk
    refine YieldsAt.wpOp' hj yj ?_
    rw [hl, ha]
    exact h
  · refine YieldsAt.wpOp' hj yj' ⟨fun h0 => (by rw [hrj] at h0; cases h0), fun m hm => ?_⟩
    rw [hrj] at hm
    obtain rfl : m = i := by simpa using hm
    refine YieldsAt.wpOp' hi yi' ?_
    rw [hl', ha']
    exact h

/-- one alone may come up, and it only reads -/
theorem wpAny_one {i fuel : Nat} {oi : Oper} {vi : Value} {listed : Array Bool} {a : Act} (hi : ops[i]? = some oi) (hr : Region.ready md ops listed = [i])
    (yi : YieldsAt P ops w oi vi a) (h : wpAny P md ops Q fuel (listed.setIfInBounds i true) (a.put oi.dst vi) w) : wpAny P md ops Q (fuel + 1) listed a w := by
  refine ⟨fun h0 => (by rw [hr] at h0; cases h0), fun k hk => ?_⟩
  rw [hr] at hk
  obtain rfl : k = i := by simpa using hk
  exact YieldsAt.wpOp' hi yi h

/-- from here on the order is forced: the operations by their numbers -/
def idxB (md : Region.Mode) (ops : Array Oper) : List Nat → Array Bool → Bool
  | [], listed => (Region.ready md ops listed).isEmpty
  | k :: ks, listed => decide (Region.ready md ops listed = [k]) && idxB md ops ks (listed.setIfInBounds k true)

theorem wpAny_of_idx : ∀ (ks : List Nat) (l : List Oper) (listed : Array Bool) (a : Act) (w : World), ks.map (fun k => ops[k]?) = l.map some →
    idxB md ops ks listed = true → wpList P ops Q l a w → wpAny P md ops Q ks.length listed a w
  | [], l, listed, a, w, hl, hB, h => by
    obtain rfl : l = [] := by simpa using hl.symm
    exact ⟨by simpa [idxB] using hB, h⟩
  | k :: ks, l, listed, a, w, hl, hB, h => by
    cases l with
    | nil => simp at hl
    | cons o l =>
      simp only [List.map_cons, List.cons.injEq] at hl
      simp only [idxB, Bool.and_eq_true, decide_eq_true_eq] at hB
      refine ⟨fun h1 => (by rw [hB.1] at h1; cases h1), fun i hi => ?_⟩
      rw [hB.1] at hi
      obtain rfl : i = k := by simpa using hi
      have hw : wpOp P ops Q i (wpList P ops Q l) a w := by unfold wpOp; simp only [hl.1]; exact h
      exact wpOp_mono (fun a' w' h' => wpAny_of_idx ks l _ a' w' hl.2 hB.2 h') hw
/-- the same, the region's list written out: the operation is read off it whole -/
theorem wpAny_takeL {l : List Oper} {i : Nat} {oi : Oper} {v : Value} {fuel : Nat} {listed : Array Bool} {a : Act} (hi : l[i]? = some oi)
    (hs : Region.noSelect l.toArray = true) (hf : Region.free md l.toArray listed i = true) (hr : (Region.ready md l.toArray listed).contains i = true)
    (hQ : ∀ c a w, Q (.panic c) (a.put oi.dst v) w → Q (.panic c) a w) (hy : Yields P l.toArray oi v a)
    (h : wpAny P md l.toArray Q fuel (listed.setIfInBounds i true) (a.put oi.dst v) w) : wpAny P md l.toArray Q (fuel + 1) listed a w :=
  wpAny_take (by simpa using hi) hs hf hr hQ hy h
theorem wpAny_twoL {l : List Oper} {i j fuel : Nat} {oi oj : Oper} {vi vj : Value} {listed : Array Bool} {a : Act} (hi : l[i]? = some oi) (hj : l[j]? = some oj)
    (hr : Region.ready md l.toArray listed = [i, j]) (hri : Region.ready md l.toArray (listed.setIfInBounds i true) = [j]) (hrj : Region.ready md l.toArray (listed.setIfInBounds j true) = [i])
    (hne : i ≠ j) (hs : Region.noSelect l.toArray = true) (hap : oi.apart l.toArray oj = true)
    (yi : YieldsAt P l.toArray w oi vi a) (yj : YieldsAt P l.toArray w oj vj a)
    (h : wpAny P md l.toArray Q fuel ((listed.setIfInBounds i true).setIfInBounds j true) ((a.put oi.dst vi).put oj.dst vj) w) : wpAny P md l.toArray Q (fuel + 2) listed a w := by
  obtain ⟨h1, h2, h3⟩ := Oper.apart_spec hap
  have hi' : l.toArray[i]? = some oi := by simpa using hi
  have hj' : l.toArray[j]? = some oj := by simpa using hj
  have si := fun cs b => Region.noSelect_spec hs i oi cs b hi'
  have sj := fun cs b => Region.noSelect_spec hs j oj cs b hj'
  exact wpAny_two hi' hj' hr hri hrj rfl (Array.setIfInBounds_comm _ _ (Ne.symm hne)) yi
    (yj.of_same (execOp_put oj sj a oi.dst vi h1) (wanted_put oj a oi.dst vi h1)) yj
    (yi.of_same (execOp_put oi si a oj.dst vj h3) (wanted_put oi a oj.dst vj h3)) rfl (Act.put_comm a vi vj h2).symm h
theorem wpAny_oneL {l : List Oper} {i fuel : Nat} {oi : Oper} {vi : Value} {listed : Array Bool} {a : Act} (hi : l[i]? = some oi) (hr : Region.ready md l.toArray listed = [i])
    (yi : YieldsAt P l.toArray w oi vi a) (h : wpAny P md l.toArray Q fuel (listed.setIfInBounds i true) (a.put oi.dst vi) w) : wpAny P md l.toArray Q (fuel + 1) listed a w :=
  wpAny_one (by simpa using hi) hr yi h
theorem wpAny_of_idxL {l : List Oper} {fuel : Nat} (ks : List Nat) (l' : List Oper) (listed : Array Bool) (a : Act) (hl : ks.map (fun k => l[k]?) = l'.map some)
    (hf : fuel = ks.length) (hB : idxB md l.toArray ks listed = true) (h : wpList P l.toArray Q l' a w) : wpAny P md l.toArray Q fuel listed a w := by
  subst hf
  exact wpAny_of_idx ks l' listed a w (by simpa using hl) hB h
end

/-- the cells of a whole array lie at a slice's address: it is read -/
theorem run_loadVar_at {P : Program} (w : World) (a : Addr) (ty : TypeId) (cs : List Value) (d : TypeDesc) (hc : ∀ j v, cs[j]? = some v → w.cell? (a.add j) = some v)
    (hu : P.underlying ty = some d) (hd : d.isRow = true) (hi : (P.info? ty).map (·.size) = some cs.length) : (loadVar ty a).run P w = .ok (.agg cs.toArray) w := by
  have hl : (loadCells a cs.length).run P w = .ok cs.toArray w := run_loadCells_list (P := P) w a cs hc
  cases hq : P.info? ty with
  | none => simp [hq] at hi
  | some i =>
    have hs : i.size = cs.length := by simpa [hq] using hi
    have hagg : (isAgg ty).run P w = .ok true w := by
      unfold isAgg
      rw [Sem.run_bind, run_underlying hu w]
      cases d <;> simp_all
    simp [loadVar, Sem.run_bind, hagg, sizeOf, typeInfo, hq, hs, hl]
theorem yieldsAt_load {P : Program} {ops : Array Oper} {w : World} {op : Oper} {a : Act} (hw : Region.wanted op (yielded ops a.tmps) = true) (ty : TypeId) (x : Operand) (ho : op.op = .load ty x)
    (ad : Addr) (hx : a.eval x = .pointer (some ad)) (cs : Array Value) (d : TypeDesc) (hc : ∀ j v, cs.toList[j]? = some v → w.cell? (ad.add j) = some v)
    (hu : P.underlying ty = some d) (hd : d.isRow = true) (hi : (P.info? ty).map (·.size) = some cs.size) : YieldsAt P ops w op (.agg cs) a :=
  .inl ⟨hw, .inl <| by
    have h := run_loadVar_at (P := P) w ad ty cs.toList d hc hu hd (by simpa using hi)
    unfold execOp
    simp only [ho, hx, Instr.loadAt, Instr.sureAddr, Sem.run_bind, Sem.run_pure, Result.andThen_ok, h, Array.toArray_toList]⟩
end Go.Proofs.YtbbfdnknbghffaaGreatDoor
