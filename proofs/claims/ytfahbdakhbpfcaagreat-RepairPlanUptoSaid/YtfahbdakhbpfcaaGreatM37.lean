/-
  PlanA: PLAIN LAW, and the walk of ring.Round: tries in memory of their own; marks taken back at a function's end; what a plan is; conditions: none.
-/
import Derived.Test.YtfahbdakhbpfcaaGreatM32
import Derived.Test.YtfahbdakhbpfcaaGreatM33
import Derived.Test.YtfahbdakhbpfcaaGreatM36
import Derived.Maps.OwnIn
namespace Go.Proofs.YtfahbdakhbpfcaaGreat
open Go.RowKit Go.Shelf Go.Maps

/-- the marks of the ranges over functions that are through -/
def marks (Ds : List Nat) : List Deferred := Ds.map fun D => { target := .collected D, args := #[] }
def MarksOK (w : World) (B : Nat) (Ds : List Nat) : Prop := Ds.Nodup ∧ ∀ D ∈ Ds, B ≤ D ∧ w.heap[D]? = some (.deferred (some []))
theorem MarksOK.nil (w : World) (B : Nat) : MarksOK w B [] := ⟨List.nodup_nil, fun _ h => by cases h⟩
theorem leavesM {F : Fence} {n : Nat} {P : Program} {fn : Func} {tmps : Array Value} {R : Ending → World → Prop} {B : Nat} : ∀ (Ds : List Nat) (w : World), MarksOK w B Ds →
    (∀ w', KC w.heap.size w w' → Below B w w' → LeavesIn F n P fn tmps R [] .returning w') → LeavesInM F n P fn tmps R (marks Ds) .returning w
  | [], w, _, h => h w (KC.refl _ _) (Below.refl _ _)
  | D :: Ds, w, hm, h => by
    obtain ⟨hB, hD⟩ := hm.2 D (by simp)
    have hnd := List.nodup_cons.1 hm.1
    refine ⟨by simp, .inl ⟨D, _, rfl, run_takeDeferred hD, ?_⟩⟩
    have hkc := kc_put w D _ (.deferred none) hD rfl
    have hbl : Below B w (w.putObj D (.deferred none)) := (Below.refl B w).grown (grownBy_putObj' w D _) (by have := (Array.getElem?_eq_some_iff.1 hD).1; omega) (fun k e => by cases e; exact hB)
    refine leavesM Ds _ ⟨hnd.2, fun D' hD' => ⟨(hm.2 D' (by simp [hD'])).1, (World.putObj_heap_other (by rintro rfl; exact hnd.1 hD')).trans (hm.2 D' (by simp [hD'])).2⟩⟩ fun w' h1 h2 => ?_
    exact h w' ((hkc w.heap.size).trans h1.all) (hbl.trans h2)
theorem KC.owns {B : Nat} {a b : World} (h : KC B a b) {base n : Nat} {e : TypeId} {size : Nat} {v : Value} {xs : List Value} (ho : a.ownsRow base e size v n xs) (hB : a.heap.size ≤ B) : b.ownsRow base e size v n xs := by
  refine ⟨ho.1, ?_⟩
  rcases ho.2 with h0 | ⟨g, cap, cur, rfl, hb, hg, rest⟩
  · exact .inl h0
  · exact .inr ⟨g, cap, cur, rfl, hb, h.cells g _ (by have := (Array.getElem?_eq_some_iff.1 hg).1; omega) hg rfl, rest⟩

/-- tries: number, servers' slice, servers -/
abbrev Tr := Int × Value × List Int
def tcells (x : Tr) : List Value := [.int .i64 x.1, x.2.1]
def flatT (T : List Tr) : List Value := T.flatMap tcells
theorem flatT_length (T : List Tr) : (flatT T).length = T.length * 2 := by
  induction T with
  | nil => rfl
  | cons x r ih => simp only [flatT, List.flatMap_cons, List.length_append] at *; rw [ih]; simp [tcells]; omega
theorem flatT_snoc (T : List Tr) (x : Tr) : flatT (T ++ [x]) = flatT T ++ [.int .i64 x.1, x.2.1] := by simp [flatT, tcells]
theorem flatT_get {T : List Tr} : ∀ {i : Nat} {x : Tr}, T[i]? = some x → (flatT T)[i * 2]? = some (.int .i64 x.1) ∧ (flatT T)[i * 2 + 1]? = some x.2.1 := by
  induction T with
  | nil => intro i x h; simp at h
  | cons q l ih =>
    intro i x h
    cases i with
    | zero =>
      obtain rfl : q = x := by simpa using h
      exact ⟨rfl, rfl⟩
    | succ i =>
      have h' := ih (i := i) (x := x) (by simpa using h)
      have e1 : (i + 1) * 2 = i * 2 + 1 + 1 := by omega
      have e2 : (i + 1) * 2 + 1 = i * 2 + 1 + 1 + 1 := by omega
      rw [e2, e1]
      simpa [flatT, tcells] using h'
/-- the servers' rows, each of its own -/
def OwnT (w : World) (base : Nat) (T : List Tr) : Prop :=
  (∀ (i : Nat) (x : Tr), T[i]? = some x → w.ownsRow base 3 1 x.2.1 x.2.2.length (ints x.2.2)) ∧
  ∀ (i j : Nat) (x y : Tr) (b : Nat), T[i]? = some x → T[j]? = some y → x.2.1.ownBlock = some b → y.2.1.ownBlock = some b → i = j
theorem OwnT.nil (w : World) (base : Nat) : OwnT w base [] := ⟨fun i x h => by simp at h, fun i j x y b h => by simp at h⟩
theorem OwnT.map {w w' : World} {base : Nat} {T : List Tr} (h : OwnT w base T) (hm : ∀ (v : Value) (n : Nat) (xs : List Value), w.ownsRow base 3 1 v n xs → w'.ownsRow base 3 1 v n xs) : OwnT w' base T :=
  ⟨fun i x hx => hm _ _ _ (h.1 i x hx), h.2⟩
theorem OwnT.snoc {w : World} {base H : Nat} {T : List Tr} {x : Tr} (h : OwnT w base T) (hT : ∀ y ∈ T, ∀ b, y.2.1.ownBlock = some b → b < H) (hx : w.ownsRow H 3 1 x.2.1 x.2.2.length (ints x.2.2)) (hH : base ≤ H) : OwnT w base (T ++ [x]) := by
  have hnew : ∀ b, x.2.1.ownBlock = some b → H ≤ b := fun b hb => (hx.lt b hb).1
  refine ⟨fun i y hy => ?_, fun i j y z b hy hz h1 h2 => ?_⟩
  · rcases Nat.lt_trichotomy i T.length with hi | hi | hi
    · rw [List.getElem?_append_left hi] at hy
      exact h.1 i y hy
    · subst hi
      simp at hy
      subst hy
      exact owns_mono hx hH
    · rw [List.getElem?_eq_none (by simp; omega)] at hy
      cases hy
  · have hcase : ∀ (i : Nat) (y : Tr), (T ++ [x])[i]? = some y → (i < T.length ∧ T[i]? = some y) ∨ (i = T.length ∧ y = x) := by
      intro i y hy
      rcases Nat.lt_trichotomy i T.length with hi | hi | hi
      · rw [List.getElem?_append_left hi] at hy
        exact .inl ⟨hi, hy⟩
      · subst hi
        simp at hy
        exact .inr ⟨rfl, hy.symm⟩
      · rw [List.getElem?_eq_none (by simp; omega)] at hy
        cases hy
    rcases hcase i y hy with ⟨hi, hy'⟩ | ⟨hi, hye⟩ <;> rcases hcase j z hz with ⟨hj, hz'⟩ | ⟨hj, hze⟩
    · exact h.2 i j y z b hy' hz' h1 h2
    · have := hT y (List.mem_of_getElem? hy') b h1
      rw [hze] at h2
      have := hnew b h2
      omega
    · have := hT z (List.mem_of_getElem? hz') b h2
      rw [hye] at h1
      have := hnew b h1
      omega
    · omega

/-- v is a list of tries of the call's own -/
def Tries (w : World) (base : Nat) (v : Value) (T : List Tr) : Prop := w.ownsRow base 40 2 v T.length (flatT T) ∧ OwnT w base T
theorem Tries.has {w : World} {base : Nat} {v : Value} {T : List Tr} (h : Tries w base v T) : HasT w v T := by
  have hl : (flatT T).length = T.length * 2 := flatT_length T
  rcases h.1.2 with ⟨rfl, hn⟩ | ⟨g, cap, cur, rfl, _, _, hcap, _⟩
  · exact .inl ⟨rfl, List.eq_nil_of_length_eq_zero hn⟩
  · refine .inr ⟨_, cap, rfl, hcap, fun i x hx => ?_⟩
    obtain ⟨h0, h1⟩ := flatT_get hx
    have hc := h.1.cells rfl
    exact ⟨hc _ _ h0, hc _ _ h1, Has.of_owns (h.2.1 i x hx)⟩
theorem Tries.below {w w' : World} {base : Nat} {v : Value} {T : List Tr} (h : Tries w base v T) (hb : Below w.heap.size w w') : Tries w' base v T :=
  ⟨owns_below h.1 hb (Nat.le_refl _), h.2.map fun _ _ _ ho => owns_below ho hb (Nat.le_refl _)⟩

/-- which servers are asked for a number -/
def selS (bad : List (Int × Int)) (i : Int) (l : List Int) : List Int := l.filter fun sv => !decide ((sv, i) ∈ bad)
/-- the tries of the numbers below k -/
def planK (L : List UInt8) (s : Nat) (good bad : List (Int × Int)) (k : Nat) : List (Int × List Int) :=
  (List.range k).filterMap fun i : Nat => if hasNum good (i : Int) then none else some ((i : Int), selS bad (i : Int) ((rnd L s i).map (·.2)))
theorem planK_has {L : List UInt8} {s : Nat} {good bad : List (Int × Int)} {k : Nat} (h : hasNum good (k : Int) = true) : planK L s good bad (k + 1) = planK L s good bad k := by
  simp [planK, List.range_succ, h]
theorem planK_lacks {L : List UInt8} {s : Nat} {good bad : List (Int × Int)} {k : Nat} (h : hasNum good (k : Int) = false) : planK L s good bad (k + 1) = planK L s good bad k ++ [((k : Int), selS bad (k : Int) ((rnd L s k).map (·.2)))] := by
  simp [planK, List.range_succ, h]
def keyT (x : Tr) : Int × List Int := (x.1, x.2.2)

theorem wpListIn_lookup_pair {F : Fence} {nF : Nat} {w : World} {ops : Array Oper} {rest : List Oper} {o : Oper} {a : Act} {Q : Exit → Act → World → Prop}
    (hg : o.guard = none) (m x : Operand) (hop : o.op = Op.lookup 47 m x true) (b n : Nat) (l : List (Int × Int)) (hm : a.eval m = .map (some b)) (hown : w.ownsMap Tryz.prog 3 pairElem b n (setOf (.agg []) (keys l)))
    (k : Int) (hx : a.eval x = .int .i64 k) (h0 : 0 ≤ k) (h1 : k ≤ 1000)
    (hK : ∀ y z : Int, wpListIn F nF Tryz.prog ops Q rest (a.put o.dst (.tuple #[.agg #[.int .i64 y, .int .i64 z], .bool (hasNum l k)])) w) : wpListIn F nF Tryz.prog ops Q (o :: rest) a w :=
  wpListIn_lookup_own_ok w hg m x 47 hop 3 44 law Tryz.underlying47 pairElem (zeroPair w) (.agg []) [] rfl b n _ hm hown (.int .i64 k) (.int .i64 k) hx (keyOf_int_mk Tryz.underlying3 (wf_small h0 h1)) fun v ps hv => by
    obtain ⟨y, z, rfl⟩ := pairElem_inv hv
    rw [has_keys]
    exact hK y z
theorem wpListIn_append_keep {F : Fence} {nF : Nat} {P : Program} {w : World} {ops : Array Oper} {rest : List Oper} {o : Oper} {ac : Act} {Q : Exit → Act → World → Prop} (hgd : o.guard = none) (s x : Operand) (t : TypeId)
    (ho : o.op = .call { callee := .builtin .append, args := #[s, x], argTypes := #[t, t] })
    (base : Nat) (e : TypeId) (i : TypeInfo) (z : Value) (size bytes : Nat) (ht : P.underlying t = some (.slice e)) (hi : P.info? e = some i) (hz : i.zero = some z)
    (hsize : i.size = size) (hby : i.bytes = bytes) (hzs : z.cells.size = size) (hsz : 0 < size)
    (v : Value) (n : Nat) (xs : List Value) (hs : ac.eval s = v) (hown : w.ownsRow base e size v n xs)
    (a : Addr) (m c : Nat) (news : List Value) (hx : ac.eval x = .slice (some a) m c) (hl : news.length = m * size) (hnews : ∀ j u, news[j]? = some u → w.cell? (a.add j) = some u) (h1 : ∀ u ∈ news, u.oneCell' = true)
    (h63 : n + m ≤ maxLen) (hbytes : (n + m) * bytes ≤ 140737488355328) (hbase : base ≤ w.heap.size)
    (h : ∀ v' w', w'.ownsRow base e size v' (n + m) (xs ++ news) →
      ((v'.ownBlock = v.ownBlock ∧ w.grownBy w' v.ownBlock) ∨ (w'.ownsRow w.heap.size e size v' (n + m) (xs ++ news) ∧ w.grownBy w' none)) → wpListIn F nF P ops Q rest (ac.put o.dst v') w') : wpListIn F nF P ops Q (o :: rest) ac w := by
  refine wpListIn_plain hgd fun K hK => ?_
  obtain ⟨v', w', hrun, h2, h3⟩ := run_append_keep (P := P) w base t o.type e i z size bytes ht hi hz hsize hby hzs hsz v n xs hown a m c news hl hnews h1 h63 hbytes hbase
  unfold Oper.wpIn
  refine ⟨by simp [Oper.about, ho, resolve, Target.leads, Sem.run_pure], ?_⟩
  rw [Oper.semAt_plain F _ _ (by rw [ho]; intro c hc'; cases hc')]
  unfold execOp
  simp only [ho, resolve, invoke, builtin, Sem.run_bind, Sem.run_pure, Result.andThen_ok, List.map_toArray, List.map_cons, List.map_nil, hs, hx, hrun]
  exact hK _ _ (h v' w' h2 h3)

set_option maxRecDepth 100000 in
set_option maxHeartbeats 1000000 in
/-- ring.Round: an iterator over boxes of its own -/
theorem ringround_at (cs : Array Value) (s i : Int) (w : World) :
    Calls Tryz.prog 14 #[.agg cs, .int .i64 s, .int .i64 i] w fun e w' =>
      e = .returned (.func (.func 25) #[] #[.pointer (some ⟨w.heap.size, 0, none⟩), .pointer (some ⟨w.heap.size + 1, 0, none⟩), .pointer (some ⟨w.heap.size + 2, 0, none⟩)]) ∧
      w' = ((w.alloc (.cells cs 23)).alloc (.cells #[.int .i64 s] 3)).alloc (.cells #[.int .i64 i] 3) := by
  have hmf : ∀ (fn : Fn) (first cap : Array Value) (w : World), (Instr.makeFunc fn first cap).run Tryz.prog w = .ok (.func fn first cap) w := fun _ _ _ _ => rfl
  go_enter Tryz.func14, Tryz.ntmps14
  go_wp2_with fail
  go_ret
  exact ⟨rfl, rfl⟩
end Go.Proofs.YtfahbdakhbpfcaaGreat
