/-
  ApartB: PLAIN LAW: lists of ints and what was appended to them, each read where it lies, through stores elsewhere; conditions: none.
-/
import Derived.Test.YtfahbdakhbpfcaaGreatM30
namespace Go.Proofs.YtfahbdakhbpfcaaGreat
open Go.RowKit

def slc (p : Nat → Option Addr) (len c : Nat → Nat) (i : Nat) : Value := .slice (p i) (len i) (c i)

theorem Has.grown {w w' : World} {v : Value} {xs : List Value} {row : Option Nat} (h : Has w v xs) (hg : w.grownBy w' row) (hne : v.ownBlock = none ∨ v.ownBlock ≠ row) : Has w' v xs := by
  rcases h with h | ⟨a, c, rfl, hc, h⟩
  · exact .inl h
  · refine .inr ⟨a, c, rfl, hc, fun j u hu => hg.cell (h j u hu) ?_⟩
    have e : (a.add j).block = a.block := by unfold Addr.add; split <;> rfl
    rw [e]
    simpa [Value.ownBlock] using hne

/-- v reads as these ints, in a block of ints -/
def HasI (ti : TypeId) (w : World) (v : Value) (xs : List Int) : Prop := Has w v (ints xs) ∧ ∀ r, v.ownBlock = some r → ∃ (cs : Array Value) (fr : Nat × Nat), w.heap[r]? = some (.cells cs ti fr)
theorem HasI.of_owns {ti : TypeId} {w : World} {base n : Nat} {v : Value} {xs : List Int} (h : w.ownsRow base ti 1 v n (ints xs)) : HasI ti w v xs := ⟨Has.of_owns h, owns_block h⟩
theorem HasI.grown {ti : TypeId} {w w' : World} {v : Value} {xs : List Int} {row : Option Nat} (h : HasI ti w v xs) (hg : w.grownBy w' row) (hne : v.ownBlock = none ∨ v.ownBlock ≠ row) : HasI ti w' v xs := by
  refine ⟨h.1.grown hg hne, fun r hr => ?_⟩
  obtain ⟨cs, fr, hh⟩ := h.2 r hr
  refine ⟨cs, fr, (hg.block r (Array.getElem?_eq_some_iff.1 hh).1 ?_).trans hh⟩
  rw [hr] at hne
  simpa using hne
theorem HasI.apart {ti e : TypeId} {w : World} {base n size : Nat} {v G : Value} {xs : List Int} {ys : List Value} (h : HasI ti w v xs) (hG : w.ownsRow base e size G n ys) (hne : ti ≠ e) : v.ownBlock = none ∨ v.ownBlock ≠ G.ownBlock := by
  cases hv : v.ownBlock with
  | none => exact .inl rfl
  | some r =>
    right
    intro hG'
    obtain ⟨cs, fr, h1⟩ := h.2 r hv
    obtain ⟨cs', fr', h2⟩ := owns_block hG r hG'.symm
    rw [h1] at h2
    injection h2 with h2
    injection h2 with _ e2
    exact hne e2
theorem none_or (v : Value) : v.ownBlock = none ∨ v.ownBlock ≠ none := by cases v.ownBlock <;> simp

section
variable (ti : TypeId) (H0 n base : Nat) (p : Nat → Option Addr) (len c : Nat → Nat)
def Done (w : World) (k : Nat) (gv : Nat → Value) : Prop := ∀ i, i < k → HasI ti w (gv i) (mks i (len i + 70)) ∧ HasI ti w (slc p len c i) (mks i (len i)) ∧ ((gv i).ownBlock = (slc p len c i).ownBlock ∨ ∀ q, (gv i).ownBlock = some q → H0 ≤ q)
def Todo (w : World) (k : Nat) : Prop := ∀ i, k ≤ i → i < n → w.ownsRow base ti 1 (slc p len c i) (len i) (ints (mks i (len i)))
/-- no two in one block, all below H0 -/
def Spread : Prop := (∀ i j a b, i < n → j < n → p i = some a → p j = some b → a.block = b.block → i = j) ∧ ∀ i a, i < n → p i = some a → a.block < H0
variable {ti H0 n base p len c}
theorem Spread.ne {i j : Nat} (h : Spread H0 n p) (hi : i < n) (hj : j < n) (hij : i ≠ j) : (slc p len c i).ownBlock = none ∨ (slc p len c i).ownBlock ≠ (slc p len c j).ownBlock := by
  unfold slc
  cases hp : p i with
  | none => exact .inl rfl
  | some a =>
    right
    cases hq : p j with
    | none => simp [Value.ownBlock]
    | some b =>
      simp only [Value.ownBlock, ne_eq, Option.some.injEq]
      exact fun e => hij (h.1 i j a b hi hj hp hq e)
theorem Spread.new {j : Nat} {v : Value} (h : Spread H0 n p) (hj : j < n) (hv : ∀ q, v.ownBlock = some q → H0 ≤ q) : v.ownBlock = none ∨ v.ownBlock ≠ (slc p len c j).ownBlock := by
  cases hb : v.ownBlock with
  | none => exact .inl rfl
  | some q =>
    right
    intro e
    have h1 := hv q hb
    unfold slc at e
    cases hq : p j with
    | none => rw [hq] at e; cases e
    | some b =>
      rw [hq] at e
      simp only [Value.ownBlock, Option.some.injEq] at e
      have := h.2 j b hj hq
      omega
theorem Done.far {w w' : World} {k : Nat} {gv : Nat → Value} (h : Done ti H0 p len c w k gv) (hs : Spread H0 n p) (hk : k < n) (hg : w.grownBy w' (slc p len c k).ownBlock) : Done ti H0 p len c w' k gv := fun i hi => by
  obtain ⟨h1, h2, h3⟩ := h i hi
  have hne := hs.ne (len := len) (c := c) (i := i) (j := k) (by omega) hk (by omega)
  refine ⟨h1.grown hg ?_, h2.grown hg hne, h3⟩
  rcases h3 with h3 | h3
  · rw [h3]; exact hne
  · exact hs.new hk h3
theorem Done.none_ {w w' : World} {k : Nat} {gv : Nat → Value} (h : Done ti H0 p len c w k gv) (hg : w.grownBy w' none) : Done ti H0 p len c w' k gv := fun i hi => by
  obtain ⟨h1, h2, h3⟩ := h i hi
  exact ⟨h1.grown hg (none_or _), h2.grown hg (none_or _), h3⟩
theorem Done.row {w w' : World} {k : Nat} {gv : Nat → Value} {b m size : Nat} {e : TypeId} {G : Value} {ys : List Value} (h : Done ti H0 p len c w k gv) (hG : w.ownsRow b e size G m ys) (hne : ti ≠ e) (hg : w.grownBy w' G.ownBlock) : Done ti H0 p len c w' k gv := fun i hi => by
  obtain ⟨h1, h2, h3⟩ := h i hi
  exact ⟨h1.grown hg (h1.apart hG hne), h2.grown hg (h2.apart hG hne), h3⟩
theorem Done.snoc {w : World} {k : Nat} {gv : Nat → Value} {g : Value} (h : Done ti H0 p len c w k gv) (h1 : HasI ti w g (mks k (len k + 70))) (h2 : HasI ti w (slc p len c k) (mks k (len k)))
    (h3 : g.ownBlock = (slc p len c k).ownBlock ∨ ∀ q, g.ownBlock = some q → H0 ≤ q) : Done ti H0 p len c w (k + 1) (fun i => if i = k then g else gv i) := fun i hi => by
  by_cases hik : i = k
  · subst hik
    simp only [if_true]
    exact ⟨h1, h2, h3⟩
  · simp only [hik, if_false]
    exact h i (by omega)
theorem Todo.far {w w' : World} {k : Nat} (h : Todo ti n base p len c w k) (hs : Spread H0 n p) (hk : k < n) (hg : w.grownBy w' (slc p len c k).ownBlock) : Todo ti n base p len c w' (k + 1) := fun i hi hin =>
  (h i (by omega) hin).kept hg (hs.ne hin hk (by omega))
theorem Todo.none_ {w w' : World} {k : Nat} (h : Todo ti n base p len c w k) (hg : w.grownBy w' none) : Todo ti n base p len c w' k := fun i hi hin => (h i hi hin).kept hg (none_or _)
theorem Todo.row {w w' : World} {k : Nat} {b m size : Nat} {e : TypeId} {G : Value} {ys : List Value} (h : Todo ti n base p len c w k) (hG : w.ownsRow b e size G m ys) (hne : ti ≠ e) (hg : w.grownBy w' G.ownBlock) : Todo ti n base p len c w' k := fun i hi hin =>
  (h i hi hin).kept hg (owns_apart (h i hi hin) hG hne)

/-- the running append to list k -/
def Run (w2 w3 : World) (k m : Nat) (g : Value) : Prop := w3.ownsRow base ti 1 g (len k + m) (ints (mks k (len k + m))) ∧ HasI ti w3 (slc p len c k) (mks k (len k)) ∧ w2.grownBy w3 (slc p len c k).ownBlock ∧
  (g.ownBlock = (slc p len c k).ownBlock ∨ ∀ q, g.ownBlock = some q → w2.heap.size ≤ q)
end

theorem Run.start {ti : TypeId} {n base : Nat} {p : Nat → Option Addr} {len c : Nat → Nat} {w : World} {k : Nat} (h : Todo ti n base p len c w k) (hk : k < n) : Run (ti := ti) (base := base) (p := p) (len := len) (c := c) w w k 0 (slc p len c k) :=
  ⟨h k (Nat.le_refl _) hk, HasI.of_owns (h k (Nat.le_refl _) hk), World.grownBy.refl _ _, .inl rfl⟩

theorem grown_trans {a b c : World} {r : Option Nat} (h : a.grownBy b r) (k : b.grownBy c r) : a.grownBy c r :=
  ⟨k.os.trans h.os, k.tape.trans h.tape, k.output.trans h.output, Nat.le_trans h.size k.size, fun i hi hne => (k.block i (Nat.lt_of_lt_of_le hi h.size) hne).trans (h.block i hi hne)⟩
theorem grown_none {a b : World} {r : Option Nat} (h : a.grownBy b none) : a.grownBy b r := ⟨h.os, h.tape, h.output, h.size, fun i hi _ => h.block i hi (by simp)⟩
theorem grown_new {a b c : World} {r r' : Option Nat} (h : a.grownBy b r) (k : b.grownBy c r') (hr : ∀ q, r' = some q → a.heap.size ≤ q) : a.grownBy c r :=
  ⟨k.os.trans h.os, k.tape.trans h.tape, k.output.trans h.output, Nat.le_trans h.size k.size, fun i hi hne => (k.block i (Nat.lt_of_lt_of_le hi h.size) (fun e => by have := hr i e.symm; omega)).trans (h.block i hi hne)⟩

theorem Run.step {ti : TypeId} {base B : Nat} {p : Nat → Option Addr} {len c : Nat → Nat} {w2 w3 w4 : World} {k m : Nat} {g g' : Value} (h : Run (ti := ti) (base := base) (p := p) (len := len) (c := c) w2 w3 k m g)
    (hsl : ∀ q, (slc p len c k).ownBlock = some q → q < w2.heap.size) (hhead : ∀ a, p k = some a → a = ⟨a.block, 0, none⟩)
    (ho : w4.ownsRow base ti 1 g' (len k + m + 1) (ints (mks k (len k + m)) ++ [.int .i64 (mkv k (len k + m))]))
    (hg : (g'.ownBlock = g.ownBlock ∧ w3.grownBy w4 g.ownBlock) ∨ (w4.ownsRow B ti 1 g' (len k + m + 1) (ints (mks k (len k + m)) ++ [.int .i64 (mkv k (len k + m))]) ∧ w3.grownBy w4 none)) (hB : w2.heap.size ≤ B) :
    Run (ti := ti) (base := base) (p := p) (len := len) (c := c) w2 w4 k (m + 1) g' := by
  obtain ⟨h1, h2, h3, h4⟩ := h
  have e : ints (mks k (len k + m)) ++ [.int .i64 (mkv k (len k + m))] = ints (mks k (len k + (m + 1))) := by
    rw [← Nat.add_assoc, mks_succ]
    simp [ints]
  rw [e] at ho hg
  rcases hg with ⟨hb, hgr⟩ | ⟨ho2, hgr⟩
  · refine ⟨ho, ?_, ?_, by rw [hb]; exact h4⟩
    · rcases h4 with h4 | h4
      · -- one block: a prefix of what the row holds
        rw [h4] at hb
        refine ⟨?_, fun r hr => owns_block ho r (hb.trans hr)⟩
        rcases ho.2 with ⟨rfl, h0⟩ | ⟨gb, cap, cur, rfl, hbb, hcur, hle, hcm, hcs, htake⟩
        · omega
        · have hp : ∃ a, p k = some a ∧ a.block = gb := by
            unfold slc at hb
            cases hpk : p k with
            | none => rw [hpk] at hb; cases hb
            | some a =>
              rw [hpk] at hb
              simp only [Value.ownBlock, Option.some.injEq] at hb
              exact ⟨a, rfl, hb.symm⟩
          obtain ⟨a, hpa, hab⟩ := hp
          rcases h2.1 with ⟨hs, _⟩ | ⟨a', cc, hs, hcc, hcell⟩
          · unfold slc at hs
            rw [hpa] at hs
            cases hs
          · unfold slc at hs
            rw [hpa] at hs
            simp only [Value.slice.injEq, Option.some.injEq, ints_length, mks_length] at hs
            obtain ⟨rfl, -, rfl⟩ := hs
            refine .inr ⟨a, c k, by unfold slc; rw [hpa]; simp, by simpa using hcc, fun j u hu => ?_⟩
            have hj : j < len k := by
              have := (List.getElem?_eq_some_iff.1 hu).1
              simpa using this
            have ha := hhead a hpa
            rw [hab] at ha
            rw [ha, Addr.add_mid, Nat.zero_add, ho.cellAt j (by omega), ints_get (mks_get k (by omega))]
            rw [ints_get (mks_get k hj)] at hu
            exact hu
      · refine h2.grown hgr ?_
        cases hs : (slc p len c k).ownBlock with
        | none => exact .inl rfl
        | some q =>
          right
          intro e2
          have := h4 q e2.symm
          have := hsl q hs
          omega
    · rcases h4 with h4 | h4
      · rw [h4] at hgr
        exact grown_trans h3 hgr
      · exact grown_new h3 hgr h4
  · refine ⟨ho, h2.grown hgr (none_or _), grown_trans h3 (grown_none hgr), .inr fun q hq => ?_⟩
    have := (ho2.lt q hq).1
    omega

theorem Run.alloc {ti : TypeId} {base : Nat} {p : Nat → Option Addr} {len c : Nat → Nat} {w2 w3 : World} {k m : Nat} {g : Value} (h : Run (ti := ti) (base := base) (p := p) (len := len) (c := c) w2 w3 k m g) (o : Obj) :
    Run (ti := ti) (base := base) (p := p) (len := len) (c := c) w2 (w3.alloc o) k m g :=
  ⟨h.1.alloc o, h.2.1.grown (World.grownBy_alloc w3 o none) (none_or _), grown_trans h.2.2.1 (World.grownBy_alloc w3 o _), h.2.2.2⟩
theorem keep_grown {ti : TypeId} {w w3 w4 : World} {base n : Nat} {g g' : Value} {xs : List Value} {X : Prop} (hkb : KeptBut ti w w3) (hb : Below base w w3) (ho : w3.ownsRow base ti 1 g n xs)
    (hor : (g'.ownBlock = g.ownBlock ∧ w3.grownBy w4 g.ownBlock) ∨ (X ∧ w3.grownBy w4 none)) (hbase : base ≤ w3.heap.size) : KeptBut ti w w4 ∧ Below base w w4 := by
  rcases hor with ⟨_, hg⟩ | ⟨_, hg⟩
  · exact ⟨hkb.grown hg (fun r hr => .inr (owns_block ho r hr)), hb.grown hg hbase (fun r hr => (ho.lt r hr).1)⟩
  · exact ⟨hkb.grown hg (fun r hr => by cases hr), hb.grown hg hbase (fun r hr => by cases hr)⟩
theorem map_snoc {α : Type} (m : Nat) (g : α) (gv : Nat → α) : (List.range (m + 1)).map (fun i => if i = m then g else gv i) = (List.range m).map gv ++ [g] := by
  rw [List.range_succ, List.map_append]
  congr 1
  · refine List.map_congr_left fun i hi => ?_
    have := List.mem_range.1 hi
    rw [if_neg (by omega)]
  · simp
theorem HasI.form {ti : TypeId} {w : World} {v : Value} {k N : Nat} (h : HasI ti w v (mks k N)) (hN : 0 < N) : ∃ a c, v = .slice (some a) N c ∧ ∀ j, j < N → w.cell? (a.add j) = some (.int .i64 (mkv k j)) := by
  rcases h.1 with ⟨_, h0⟩ | ⟨a, c, rfl, _, hc⟩
  · have := congrArg List.length h0
    simp at this
    omega
  · refine ⟨a, c, by simp, fun j hj => hc j _ (ints_get (mks_get k hj))⟩
end Go.Proofs.YtfahbdakhbpfcaaGreat
