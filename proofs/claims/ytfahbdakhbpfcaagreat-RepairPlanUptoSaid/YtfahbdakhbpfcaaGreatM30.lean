/-
  ApartA: PLAIN LAW: rows of ints of a call's own that lie apart; blocks of every other element type stay; append in place or moved; conditions: none.
-/
import Derived.Test.YtfahbdakhbpfcaaGreatM26
import Derived.ArgAppend
import Derived.Laws.OwnMore
namespace Go.Proofs.YtfahbdakhbpfcaaGreat
open Go.RowKit

/-- blocks of cells of every type but t lie as they lay -/
def KeptBut (t : TypeId) (w w' : World) : Prop := ∀ (k : Nat) (cs : Array Value) (u : TypeId) (fr : Nat × Nat), u ≠ t → w.heap[k]? = some (.cells cs u fr) → w'.heap[k]? = some (.cells cs u fr)
theorem KeptBut.refl (t : TypeId) (w : World) : KeptBut t w w := fun _ _ _ _ _ h => h
theorem KeptBut.trans {t : TypeId} {a b c : World} (h : KeptBut t a b) (k : KeptBut t b c) : KeptBut t a c := fun i cs u fr hu hi => k i cs u fr hu (h i cs u fr hu hi)
theorem KeptBut.of_below {t : TypeId} {w w' : World} (h : Below w.heap.size w w') : KeptBut t w w' := fun k _ _ _ _ hk => (h.block k (Array.getElem?_eq_some_iff.1 hk).1).trans hk
theorem KeptBut.grown {t : TypeId} {a w w' : World} {row : Option Nat} (h : KeptBut t a w) (hg : w.grownBy w' row) (hr : ∀ r, row = some r → a.heap.size ≤ r ∨ ∃ (cs : Array Value) (fr : Nat × Nat), w.heap[r]? = some (.cells cs t fr)) : KeptBut t a w' := by
  intro k cs u fr hu hk
  have h1 := h k cs u fr hu hk
  refine (hg.block k (Array.getElem?_eq_some_iff.1 h1).1 fun e => ?_).trans h1
  rcases hr k e.symm with hle | ⟨cs', fr', hk'⟩
  · have := (Array.getElem?_eq_some_iff.1 hk).1
    omega
  · rw [h1] at hk'
    injection hk' with hk'
    injection hk' with _ e2
    exact hu e2
theorem KeptBut.owns {t : TypeId} {w w' : World} {base n : Nat} {e : TypeId} {size : Nat} {v : Value} {xs : List Value} (h : KeptBut t w w') (hown : w.ownsRow base e size v n xs) (he : e ≠ t) : w'.ownsRow base e size v n xs := by
  refine ⟨hown.1, ?_⟩
  rcases hown.2 with h0 | ⟨g, cap, cur, rfl, hb, hg, rest⟩
  · exact .inl h0
  · exact .inr ⟨g, cap, cur, rfl, hb, h g cur e _ he hg, rest⟩
theorem owns_block {w : World} {base n : Nat} {e : TypeId} {size : Nat} {v : Value} {xs : List Value} (hown : w.ownsRow base e size v n xs) : ∀ r, v.ownBlock = some r → ∃ (cs : Array Value) (fr : Nat × Nat), w.heap[r]? = some (.cells cs e fr) := by
  intro r hr
  rcases hown.2 with ⟨rfl, _⟩ | ⟨g, cap, cur, rfl, hb, hg, rest⟩
  · cases hr
  · simp only [Value.ownBlock, Option.some.injEq] at hr
    subst hr
    exact ⟨_, _, hg⟩
theorem owns_apart {w : World} {base base' n n' : Nat} {e e' : TypeId} {size size' : Nat} {v v' : Value} {xs xs' : List Value} (h : w.ownsRow base e size v n xs) (h' : w.ownsRow base' e' size' v' n' xs') (hne : e ≠ e') :
    v.ownBlock = none ∨ v.ownBlock ≠ v'.ownBlock := by
  cases hv : v.ownBlock with
  | none => exact .inl rfl
  | some r =>
    right
    intro hv'
    obtain ⟨cs, fr, h1⟩ := owns_block h r hv
    obtain ⟨cs', fr', h2⟩ := owns_block h' r hv'.symm
    rw [h1] at h2
    injection h2 with h2
    injection h2 with _ e2
    exact hne e2

/-- append to a row of the call's own: in place, or into a new row and the old one stays -/
theorem run_append_keep {P : Program} (w : World) (base : Nat) (t ty e : TypeId) (i : TypeInfo) (z : Value) (size bytes : Nat) (ht : P.underlying t = some (.slice e)) (hi : P.info? e = some i) (hz : i.zero = some z)
    (hsize : i.size = size) (hby : i.bytes = bytes) (hzs : z.cells.size = size) (hsz : 0 < size)
    (v : Value) (n : Nat) (xs : List Value) (hown : w.ownsRow base e size v n xs)
    (a : Addr) (m c : Nat) (news : List Value) (hl : news.length = m * size) (hnews : ∀ j u, news[j]? = some u → w.cell? (a.add j) = some u) (h1 : ∀ u ∈ news, u.oneCell' = true)
    (h63 : n + m ≤ maxLen) (hbytes : (n + m) * bytes ≤ 140737488355328) (hbase : base ≤ w.heap.size) :
    ∃ v' w', (Builtin.append_ #[t, t] ty #[v, .slice (some a) m c]).run P w = .ok v' w' ∧ w'.ownsRow base e size v' (n + m) (xs ++ news) ∧
      ((v'.ownBlock = v.ownBlock ∧ w.grownBy w' v.ownBlock) ∨ (w'.ownsRow w.heap.size e size v' (n + m) (xs ++ news) ∧ w.grownBy w' none)) := by
  rcases hown.2 with ⟨rfl, rfl⟩ | ⟨g, cap, cur, rfl, hb, hg, hnc, hrest⟩
  · have hx : xs = [] := List.eq_nil_of_length_eq_zero (by simpa using hown.1)
    subst hx
    obtain ⟨v', w', hr, h2, h3, h4⟩ := run_append_own (P := P) w w.heap.size t ty e i z size bytes ht hi hz hsize hby hzs hsz (.slice none 0 0) 0 [] (World.ownsRow_nil w _ e size) a m c news hl hnews h1 h63 hbytes (Nat.le_refl _)
    exact ⟨v', w', hr, owns_mono h2 hbase, .inr ⟨h2, h3⟩⟩
  · by_cases hroom : n + m ≤ cap
    · obtain ⟨w', hr, h2, h3⟩ := run_append_fits (P := P) w base t ty e i size ht hi hsize g n cap xs hown a m c news hl hnews h1 hroom
      exact ⟨_, w', hr, h2, .inl ⟨rfl, h3⟩⟩
    · obtain ⟨v', w', hr, h2, h3⟩ := run_append_arg_grows (P := P) w t ty e i z size bytes ht hi hz hsize hby hzs hsz ⟨g, 0, none⟩ n cap xs hown.1 (hown.cells rfl) a m c news hl hnews (by omega) h63 hbytes
      exact ⟨v', w', hr, owns_mono h2 hbase, .inr ⟨h2, h3⟩⟩
theorem wpList_append_keep {P : Program} {w : World} {ops : Array Oper} {rest : List Oper} {o : Oper} {ac : Act} {Q : Exit → Act → World → Prop} (hgd : o.guard = none) (s x : Operand) (t : TypeId)
    (ho : o.op = .call { callee := .builtin .append, args := #[s, x], argTypes := #[t, t] })
    (base : Nat) (e : TypeId) (i : TypeInfo) (z : Value) (size bytes : Nat) (ht : P.underlying t = some (.slice e)) (hi : P.info? e = some i) (hz : i.zero = some z)
    (hsize : i.size = size) (hby : i.bytes = bytes) (hzs : z.cells.size = size) (hsz : 0 < size)
    (v : Value) (n : Nat) (xs : List Value) (hs : ac.eval s = v) (hown : w.ownsRow base e size v n xs)
    (a : Addr) (m c : Nat) (news : List Value) (hx : ac.eval x = .slice (some a) m c) (hl : news.length = m * size) (hnews : ∀ j u, news[j]? = some u → w.cell? (a.add j) = some u) (h1 : ∀ u ∈ news, u.oneCell' = true)
    (h63 : n + m ≤ maxLen) (hbytes : (n + m) * bytes ≤ 140737488355328) (hbase : base ≤ w.heap.size)
    (h : ∀ v' w', w'.ownsRow base e size v' (n + m) (xs ++ news) →
      ((v'.ownBlock = v.ownBlock ∧ w.grownBy w' v.ownBlock) ∨ (w'.ownsRow w.heap.size e size v' (n + m) (xs ++ news) ∧ w.grownBy w' none)) → wpList P ops Q rest (ac.put o.dst v') w') : wpList P ops Q (o :: rest) ac w := by
  refine wpList_plain hgd fun K hK => ?_
  obtain ⟨v', w', hrun, h2, h3⟩ := run_append_keep (P := P) w base t o.type e i z size bytes ht hi hz hsize hby hzs hsz v n xs hown a m c news hl hnews h1 h63 hbytes hbase
  unfold Oper.wp execOp
  simp only [ho, resolve, invoke, builtin, Sem.run_bind, Sem.run_pure, Result.andThen_ok, List.map_toArray, List.map_cons, List.map_nil, hs, hx, hrun]
  exact hK _ _ (h v' w' h2 h3)

theorem info_int : (Tryz.prog.info? 3).map (fun i => (i.zero, i.size, i.bytes)) = some (some (.int .i64 0), 1, 8) := by kernel_rfl
theorem info_row : (Tryz.prog.info? 38).map (fun i => (i.zero, i.size, i.bytes)) = some (some (.slice none 0 0), 1, 24) := by kernel_rfl

/-- list k's mark at place i -/
def mkv (k i : Nat) : Int := 1000003 * ((k : Int) + 1 + 1) + (i : Int)
def mks (k m : Nat) : List Int := (List.range m).map (mkv k)
@[simp] theorem mks_length (k m : Nat) : (mks k m).length = m := by simp [mks]
theorem mks_get (k : Nat) {m i : Nat} (h : i < m) : (mks k m)[i]? = some (mkv k i) := by simp [mks, h]
theorem mks_succ (k m : Nat) : mks k (m + 1) = mks k m ++ [mkv k m] := by simp [mks, List.range_succ]

section
variable (ti : TypeId)
/-- n rows of ints, each of its own, no two in one block -/
def OwnF (w : World) (base n : Nat) (p : Nat → Option Addr) (len c : Nat → Nat) (f : Nat → List Int) : Prop :=
  (∀ i, i < n → w.ownsRow base ti 1 (.slice (p i) (len i) (c i)) (len i) (ints (f i))) ∧ ∀ i j a b, i < n → j < n → p i = some a → p j = some b → a.block = b.block → i = j
variable {ti}
theorem OwnF.flen {w : World} {base n : Nat} {p : Nat → Option Addr} {len c : Nat → Nat} {f : Nat → List Int} (h : OwnF ti w base n p len c f) {i : Nat} (hi : i < n) : (f i).length = len i := by
  have := (h.1 i hi).1
  simpa using this
theorem OwnF.below {w w' : World} {base n : Nat} {p : Nat → Option Addr} {len c : Nat → Nat} {f : Nat → List Int} (h : OwnF ti w base n p len c f) (hb : Below w.heap.size w w') : OwnF ti w' base n p len c f :=
  ⟨fun i hi => owns_below (h.1 i hi) hb (Nat.le_refl _), h.2⟩
theorem OwnF.at_ {w : World} {base n : Nat} {p : Nat → Option Addr} {len c : Nat → Nat} {f : Nat → List Int} (h : OwnF ti w base n p len c f) {i j : Nat} (hi : i < n) (hj : j < len i) :
    ∃ g, p i = some ⟨g, 0, none⟩ ∧ base ≤ g ∧ g < w.heap.size ∧ (∃ x, w.cell? ⟨g, j, none⟩ = some (.int .i64 x)) ∧ w.frozen? ⟨g, j, none⟩ = false ∧ ∃ (cs : Array Value) (fr : Nat × Nat), w.heap[g]? = some (.cells cs ti fr) := by
  have h1 := h.1 i hi
  have hl := h.flen hi
  rcases h1.2 with ⟨_, h0⟩ | ⟨g, cap, cur, hv, hb, hg, rest⟩
  · omega
  · simp only [Value.slice.injEq] at hv
    obtain ⟨hp, -, rfl⟩ := hv
    rw [hp] at h1
    refine ⟨g, hp, hb, (Array.getElem?_eq_some_iff.1 hg).1, ?_, h1.frozenAt j, cur, _, hg⟩
    rw [h1.cellAt j (by omega)]
    exact ⟨(f i)[j]'(by omega), by rw [ints_get (List.getElem?_eq_getElem _)]⟩
theorem OwnF.store {w : World} {base n : Nat} {p : Nat → Option Addr} {len c : Nat → Nat} {f : Nat → List Int} (h : OwnF ti w base n p len c f) {i j g : Nat} (hi : i < n) (hg : p i = some ⟨g, 0, none⟩) (x : Int) :
    OwnF ti (w.setCell ⟨g, j, none⟩ (.int .i64 x)) base n p len c (fun q => if q = i then (f i).set j x else f q) ∧ w.grownBy (w.setCell ⟨g, j, none⟩ (.int .i64 x)) (some g) := by
  have h1 := h.1 i hi
  rw [hg] at h1
  have hs := h1.stored j (.int .i64 x)
  refine ⟨⟨fun q hq => ?_, h.2⟩, hs.2⟩
  by_cases hqi : q = i
  · subst hqi
    have e : ints ((f q).set j x) = (ints (f q)).set j (.int .i64 x) := by simp [ints, List.map_set]
    simp only [if_true]
    rw [e, hg]
    exact hs.1
  · simp only [hqi, if_false]
    refine (h.1 q hq).kept hs.2 ?_
    cases hp : p q with
    | none => exact .inl rfl
    | some a =>
      right
      simp only [Value.ownBlock, ne_eq, Option.some.injEq]
      intro e
      exact hqi (h.2 q i a ⟨g, 0, none⟩ hq hi hp hg e)
end
end Go.Proofs.YtfahbdakhbpfcaaGreat
