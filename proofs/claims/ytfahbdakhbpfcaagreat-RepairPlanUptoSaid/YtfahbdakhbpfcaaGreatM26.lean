/-
  Ints: WALKS: strongroomkit's lists of ints: markInts, SameInts of two equal lists; a law's sameTries of two equal lists of tries; conditions: lengths at most 100000.
  OrdA: PLAIN LAW: lists of numbers in their order; a permutation sorted by a strict total order is placed by rank; conditions: none.
-/
import Derived.Test.YtfahbdakhbpfcaaGreatM25
import Derived.Shelf.SlSortCmp.NoneTotal
namespace Go.Proofs.YtfahbdakhbpfcaaGreat
open Go.RowKit

def ints (l : List Int) : List Value := l.map (Value.int .i64)
@[simp] theorem ints_length (l : List Int) : (ints l).length = l.length := by simp [ints]
theorem ints_get {l : List Int} {k : Nat} {x : Int} (h : l[k]? = some x) : (ints l)[k]? = some (.int .i64 x) := by simp [ints, h]

theorem Has.lenEq {w : World} {p : Option Addr} {n c : Nat} {xs : List Value} (h : Has w (.slice p n c) xs) : n = xs.length := by
  rcases h with ⟨h, rfl⟩ | ⟨a, c', h, _, _⟩
  · simp only [Value.slice.injEq] at h
    exact h.2.1
  · simp only [Value.slice.injEq] at h
    exact h.2.1
theorem Has.cellAt {w : World} {p : Option Addr} {n c k : Nat} {xs : List Value} {u : Value} (h : Has w (.slice p n c) xs) (hk : xs[k]? = some u) :
    ∃ a, p = some a ∧ w.cell? (a.add k) = some u := by
  rcases h with ⟨_, rfl⟩ | ⟨a, c', h, _, hc⟩
  · simp at hk
  · simp only [Value.slice.injEq] at h
    obtain ⟨rfl, -, -⟩ := h
    exact ⟨a, rfl, hc k _ hk⟩

theorem markint_at (k i : Int) (hk : 0 ≤ k ∧ k ≤ 100000) (hi : 0 ≤ i ∧ i ≤ 1000000) (w : World) : Calls Tryz.prog 23 #[.int .i64 k, .int .i64 i] w fun e w' => e = .returned (.int .i64 (1000003 * (k + 1) + i)) ∧ w = w' := by
  obtain ⟨h1, h2⟩ := hk
  obtain ⟨h3, h4⟩ := hi
  go_enter Tryz.func23, Tryz.ntmps23
  go_wp2_with fail
  go_ret
  exact ⟨rfl, rfl⟩

set_option maxRecDepth 100000 in
set_option maxHeartbeats 1000000 in
theorem sameints_at (n m c d : Nat) (p q : Option Addr) (l : List Int) (w : World) (hn : n ≤ 100100) (hp : Has w (.slice p n c) (ints l)) (hq : Has w (.slice q m d) (ints l)) :
    Calls Tryz.prog 22 #[.slice p n c, .slice q m d] w fun e w' => e = .returned (.bool true) ∧ ∃ k, w' = w.drewN k := by
  have hnl := hp.lenEq
  have hmk := hq.lenEq
  have hmn : m = n := by omega
  subst hmn
  have HN := Lib.hid hnl
  clear hnl hmk
  go_enter Tryz.func22, Tryz.ntmps22
  go_wp2_with fail
  go_loopw [5] (fun i wr => ∃ k : Nat, k ≤ m ∧ i = .int .i64 k ∧ ∃ j, wr = w.drewN j) (fun i _ => m - (intOf i).toNat)
  case atStart => exact ⟨0, Nat.zero_le _, rfl, 0, rfl⟩
  case round =>
    obtain ⟨k, hk, rfl, j, rfl⟩ := hrel
    by_cases hlt : k < m
    · obtain ⟨x, hx⟩ : ∃ x, l[k]? = some x := ⟨l[k]'(by have := HN.out; simp at this; omega), List.getElem?_eq_getElem _⟩
      obtain ⟨a, rfl, h0⟩ := hp.cellAt (ints_get hx)
      obtain ⟨a', rfl, h1⟩ := hq.cellAt (ints_get hx)
      have hki : (k : Int) < (m : Int) := by omega
      have HP := Lib.hid hp
      have HQ := Lib.hid hq
      clear hx hp hq
      go_wp2_with fail
      go_quiet (fail)
      go_wp2_with fail
      go_roundw
      case rel => exact ⟨k + 1, by omega, by go_num, _, rfl⟩
      case measure => simp [intOf]; omega
    · obtain rfl : k = m := by omega
      go_wp2_with fail
      go_ret
      exact ⟨rfl, j, rfl⟩

/-- v is a slice of just these tries -/
def HasT (w : World) (v : Value) (T : List (Int × Value × List Int)) : Prop :=
  (v = .slice none 0 0 ∧ T = []) ∨ ∃ a c, v = .slice (some a) T.length c ∧ T.length ≤ c ∧
    ∀ i x, T[i]? = some x → w.cell? (a.add (i * 2)) = some (.int .i64 x.1) ∧ w.cell? (a.add (i * 2 + 1)) = some x.2.1 ∧ Has w x.2.1 (ints x.2.2)
theorem HasT.lenEq {w : World} {p : Option Addr} {n c : Nat} {T : List (Int × Value × List Int)} (h : HasT w (.slice p n c) T) : n = T.length := by
  rcases h with ⟨h, rfl⟩ | ⟨a, c', h, _, _⟩
  · simp only [Value.slice.injEq] at h
    exact h.2.1
  · simp only [Value.slice.injEq] at h
    exact h.2.1
theorem HasT.cellsAt {w : World} {p : Option Addr} {n c k : Nat} {T : List (Int × Value × List Int)} {x : Int × Value × List Int} (h : HasT w (.slice p n c) T) (hk : T[k]? = some x) :
    ∃ a, p = some a ∧ w.cell? (a.add (k * 2)) = some (.int .i64 x.1) ∧ w.cell? ⟨(a.add (k * 2)).block, (a.add (k * 2)).off + 1, none⟩ = some x.2.1 ∧ Has w x.2.1 (ints x.2.2) := by
  rcases h with ⟨_, rfl⟩ | ⟨a, c', h, _, hc⟩
  · simp at hk
  · simp only [Value.slice.injEq] at h
    obtain ⟨rfl, -, -⟩ := h
    obtain ⟨h0, h1, h2⟩ := hc k _ hk
    refine ⟨a, rfl, h0, ?_, h2⟩
    rw [← Deep.add_add] at h1
    exact h1
theorem HasT.later {w w' : World} {v : Value} {T : List (Int × Value × List Int)} (h : HasT w v T) (hb : Below w.heap.size w w') : HasT w' v T := by
  rcases h with h | ⟨a, c, rfl, hc, h⟩
  · exact .inl h
  · exact .inr ⟨a, c, rfl, hc, fun i x hx => ⟨(hb.cell (block_lt_of_cell (h i x hx).1)).trans (h i x hx).1, (hb.cell (block_lt_of_cell (h i x hx).2.1)).trans (h i x hx).2.1, (h i x hx).2.2.later hb⟩⟩

theorem quiet_ex {P : Program} {f : FuncId} {args : Array Value} {w : World} {n : Nat} {v : Value} (h : Calls P f args (w.drewN n) fun e w' => e = .returned v ∧ ∃ k, w' = (w.drewN n).drewN k) :
    Calls P f args (w.drewN n) fun e w'' => e = .returned v ∧ ∃ m, w'' = w.drewN m :=
  h.mono fun _ _ ⟨he, k, hm⟩ => ⟨he, n + k, by rw [hm, World.drewN_drewN]⟩

set_option maxRecDepth 100000 in
set_option maxHeartbeats 2000000 in
theorem sametries_at (n m c d : Nat) (p q : Option Addr) (T U : List (Int × Value × List Int)) (w : World) (hn : n ≤ 100100) (hT : ∀ x ∈ T, x.2.2.length ≤ 100100) (hp : HasT w (.slice p n c) T) (hq : HasT w (.slice q m d) U)
    (hTU : T.map (fun x => (x.1, x.2.2)) = U.map (fun x => (x.1, x.2.2))) :
    Calls Tryz.prog 9 #[.slice p n c, .slice q m d] w fun e w' => e = .returned (.bool true) ∧ Below w.heap.size w w' := by
  have hnl := hp.lenEq
  have hmk := hq.lenEq
  have hll := congrArg List.length hTU
  simp only [List.length_map] at hll
  have hmn : m = n := by omega
  subst hmn
  have HN := Lib.hid hnl
  have HLL := Lib.hid hll
  have HTU := Lib.hid hTU
  clear hnl hmk hll hTU
  go_enter Tryz.func9, Tryz.ntmps9
  go_wp2_with fail
  go_loopw [5] (fun i wr => ∃ k : Nat, k ≤ m ∧ i = .int .i64 k ∧ Below w.heap.size w wr) (fun i _ => m - (intOf i).toNat)
  case atStart => exact ⟨0, Nat.zero_le _, rfl, Below.refl _ _⟩
  case round =>
    obtain ⟨k, hk, rfl, hb⟩ := hrel
    by_cases hlt : k < m
    · obtain ⟨⟨x, sv, l⟩, hx⟩ : ∃ x, T[k]? = some x := ⟨T[k]'(by have := HN.out; omega), List.getElem?_eq_getElem _⟩
      obtain ⟨⟨x', sv', l'⟩, hx'⟩ : ∃ x, U[k]? = some x := ⟨U[k]'(by have := HN.out; have := HLL.out; omega), List.getElem?_eq_getElem _⟩
      have hk2 := congrArg (fun L => L[k]?) HTU.out
      simp only [List.getElem?_map, hx, hx', Option.map_some, Option.some.injEq, Prod.mk.injEq] at hk2
      obtain ⟨rfl, rfl⟩ := hk2
      have hll : l.length ≤ 100100 := hT (x, sv, l) (List.mem_of_getElem? hx)
      obtain ⟨a, rfl, h0, h1, h2⟩ := (hp.later hb).cellsAt hx
      obtain ⟨a', rfl, h0', h1', h2'⟩ := (hq.later hb).cellsAt hx'
      obtain ⟨ps, ns, cs, rfl⟩ : ∃ ps ns cs, sv = .slice ps ns cs := by
        rcases h2 with ⟨h, _⟩ | ⟨_, _, h, _⟩
        · exact ⟨_, _, _, h⟩
        · exact ⟨_, _, _, h⟩
      obtain ⟨ps', ns', cs', rfl⟩ : ∃ ps ns cs, sv' = .slice ps ns cs := by
        rcases h2' with ⟨h, _⟩ | ⟨_, _, h, _⟩
        · exact ⟨_, _, _, h⟩
        · exact ⟨_, _, _, h⟩
      have hns : ns ≤ 100100 := by have := h2.lenEq; simp at this; omega
      have hki : (k : Int) < (m : Int) := by omega
      have H2 := Lib.hid h2
      have H2' := Lib.hid h2'
      have HP := Lib.hid hp
      have HQ := Lib.hid hq
      have HB := Lib.hid hb
      clear hx hx' hp hq h2 h2' hT hb
      go_wp2_with fail
      go_quiet ((go_at_call 22; exact quiet_ex (sameints_at _ _ _ _ _ _ l _ hns (H2.out.drewN _) (H2'.out.drewN _))))
      go_wp2_with fail
      have hb2 := below_drewN HB.out nq
      go_roundw
      case rel => exact ⟨k + 1, by omega, by go_num, hb2⟩
      case measure => simp [intOf]; omega
    · obtain rfl : k = m := by omega
      go_wp2_with fail
      go_ret
      exact ⟨rfl, hb⟩
end Go.Proofs.YtfahbdakhbpfcaaGreat
namespace Go.Proofs.YtfahbdakhbpfcaaGreat

/-- the first difference of two lists of numbers; 0: none -/
def cmpK : List Nat → List Nat → Int
  | a :: us, b :: vs => if a = b then cmpK us vs else (a : Int) - (b : Int)
  | _, _ => 0
theorem cmpK_self : ∀ a : List Nat, cmpK a a = 0
  | [] => rfl
  | a :: us => by simp [cmpK, cmpK_self us]
theorem cmpK_neg : ∀ a b : List Nat, cmpK b a = -cmpK a b
  | [], [] => rfl
  | [], _ :: _ => rfl
  | _ :: _, [] => rfl
  | a :: us, b :: vs => by
    unfold cmpK
    by_cases h : a = b
    · simp [h, cmpK_neg us vs]
    · have h' : ¬ b = a := fun e => h e.symm
      simp only [h, h', if_false]
      omega
theorem cmpK_trans : ∀ a b c : List Nat, a.length = b.length → b.length = c.length → cmpK a b ≤ 0 → cmpK b c ≤ 0 → cmpK a c ≤ 0 ∧ (cmpK a c = 0 → cmpK a b = 0 ∧ cmpK b c = 0)
  | [], [], [], _, _, _, _ => by simp [cmpK]
  | a :: us, b :: vs, c :: zs, h1, h2, h3, h4 => by
    simp only [List.length_cons, Nat.add_right_cancel_iff] at h1 h2
    unfold cmpK at h3 h4 ⊢
    by_cases hab : a = b
    · subst hab
      by_cases hac : a = c
      · subst hac
        simp only [if_true] at h3 h4 ⊢
        exact cmpK_trans us vs zs h1 h2 h3 h4
      · simp only [hac, if_false, if_true] at h3 h4 ⊢
        omega
    · by_cases hbc : b = c
      · subst hbc
        simp only [hab, if_false, if_true] at h3 h4 ⊢
        omega
      · have hac : ¬ a = c := by
          intro e
          subst e
          simp only [hab, hbc, if_false] at h3 h4
          omega
        simp only [hab, hbc, hac, if_false] at h3 h4 ⊢
        omega
theorem cmpK_zero : ∀ a b : List Nat, a.length = b.length → cmpK a b = 0 → a = b
  | [], [], _, _ => rfl
  | a :: us, b :: vs, h, h0 => by
    simp only [List.length_cons, Nat.add_right_cancel_iff] at h
    unfold cmpK at h0
    by_cases hab : a = b
    · subst hab
      simp only [if_true] at h0
      rw [cmpK_zero us vs h h0]
    · simp only [hab, if_false] at h0
      omega
/-- the lists part at place k -/
theorem cmpK_at : ∀ (a b us vs : List Nat) (k : Nat), a.length = b.length → (∀ j, j < k → a[j]? = b[j]?) → ∀ x y, a[k]? = some x → b[k]? = some y → x ≠ y → cmpK (a ++ us) (b ++ vs) = (x : Int) - (y : Int)
  | [], _, _, _, _, _, _, _, _, hx, _, _ => by simp at hx
  | _ :: _, [], _, _, _, h, _, _, _, _, _, _ => by simp at h
  | a :: a', b :: b', us, vs, k, h, hp, x, y, hx, hy, hne => by
    simp only [List.length_cons, Nat.add_right_cancel_iff] at h
    cases k with
    | zero =>
      obtain rfl : a = x := by simpa using hx
      obtain rfl : b = y := by simpa using hy
      simp only [List.cons_append, cmpK, hne, if_false]
    | succ k =>
      obtain rfl : a = b := by simpa using hp 0 (by omega)
      simp only [List.cons_append, cmpK, if_true]
      exact cmpK_at a' b' us vs k h (fun j hj => by simpa using hp (j + 1) (by omega)) x y (by simpa using hx) (by simpa using hy) hne
theorem cmpK_eq : ∀ (a us vs : List Nat), cmpK (a ++ us) (a ++ vs) = cmpK us vs
  | [], _, _ => rfl
  | a :: a', us, vs => by simp [cmpK, cmpK_eq a' us vs]
theorem cmpK_one (x y : Nat) : cmpK [x] [y] = (x : Int) - (y : Int) := by
  unfold cmpK
  by_cases h : x = y
  · subst h
    simp [cmpK]
  · simp [h]

/-- a strict order that parts whatever two -/
structure Strict (n : Nat) (lt : Nat → Nat → Bool) : Prop where
  irrefl : ∀ x, x < n → lt x x = false
  trans : ∀ x y z, x < n → y < n → z < n → lt x y = true → lt y z = true → lt x z = true
  total : ∀ x y, x < n → y < n → x ≠ y → lt x y = true ∨ lt y x = true
/-- how many stand ahead -/
def rank (n : Nat) (lt : Nat → Nat → Bool) (x : Nat) : Nat := ((List.range n).filter fun t => lt t x).length
theorem filter_pre {lt : Nat → Nat → Bool} {n : Nat} (hs : Strict n lt) (l : List Nat) (hl : ∀ x ∈ l, x < n) (hp : l.Pairwise fun x y => lt x y = true) (j x : Nat) (hj : l[j]? = some x) : (l.filter fun t => lt t x).length = j := by
  induction l generalizing j with
  | nil => simp at hj
  | cons a r ih =>
    obtain ⟨h1, h2⟩ := List.pairwise_cons.1 hp
    cases j with
    | zero =>
      obtain rfl : a = x := by simpa using hj
      have h0 : ∀ t ∈ a :: r, ¬ lt t a = true := by
        intro t ht
        rcases List.mem_cons.1 ht with rfl | ht'
        · simp [hs.irrefl t (hl t (by simp))]
        · intro hlt
          have := hs.trans a t a (hl a (by simp)) (hl t ht) (hl a (by simp)) (h1 t ht') hlt
          rw [hs.irrefl a (hl a (by simp))] at this
          cases this
      rw [List.filter_eq_nil_iff.2 h0]
      rfl
    | succ j =>
      have hj' : r[j]? = some x := by simpa using hj
      have ha : lt a x = true := h1 x (List.mem_of_getElem? hj')
      rw [List.filter_cons_of_pos (by simpa using ha), List.length_cons, ih (fun y hy => hl y (by simp [hy])) h2 j hj']
/-- sorted and placed by rank: the same -/
theorem rank_at {lt : Nat → Nat → Bool} {n : Nat} (hs : Strict n lt) (l : List Nat) (hperm : l.Perm (List.range n)) (hp : l.Pairwise fun x y => lt x y = true) (j x : Nat) (hj : l[j]? = some x) : rank n lt x = j := by
  unfold rank
  rw [← (hperm.filter _).length_eq]
  exact filter_pre hs l (fun y hy => List.mem_range.1 (hperm.mem_iff.1 hy)) hp j x hj
theorem rank_lt {lt : Nat → Nat → Bool} {n x : Nat} (hs : Strict n lt) (hx : x < n) : rank n lt x < n := by
  unfold rank
  have h : ((List.range n).filter fun t => lt t x).length < (List.range n).length := by
    rw [List.length_filter_lt_length_iff_exists]
    exact ⟨x, List.mem_range.2 hx, by simp [hs.irrefl x hx]⟩
  simpa using h
theorem placed {lt : Nat → Nat → Bool} {n : Nat} (hs : Strict n lt) (l out : List Nat) (hperm : l.Perm (List.range n)) (hp : l.Pairwise fun x y => lt x y = true) (ho : out.length = n) (hout : ∀ x, x < n → out[rank n lt x]? = some x) : out = l := by
  have hl : l.length = n := by rw [hperm.length_eq]; simp
  apply List.ext_getElem?
  intro j
  by_cases hj : j < n
  · have hx : l[j]? = some (l[j]'(by omega)) := List.getElem?_eq_getElem _
    have hxn : l[j]'(by omega) < n := List.mem_range.1 (hperm.mem_iff.1 (List.getElem_mem _))
    have hr := rank_at hs l hperm hp j _ hx
    have := hout _ hxn
    rw [hr] at this
    rw [this, hx]
  · rw [List.getElem?_eq_none (by omega), List.getElem?_eq_none (by omega)]
end Go.Proofs.YtfahbdakhbpfcaaGreat
