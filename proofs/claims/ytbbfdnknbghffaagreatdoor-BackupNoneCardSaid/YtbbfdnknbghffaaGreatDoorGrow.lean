/- PLAIN LAW: a region that draws its order, whose operations read, make memory, or call what does no more: whatever the order, each value meets its own word; behind it a forced tail; conditions: none. -/
import Derived.Test.YtbbfdnknbghffaaGreatDoorRegion
namespace Go.Proofs.YtbbfdnknbghffaaGreatDoor
open Go.RowKit

section
variable {P : Program} {ops : Array Oper} {md : Region.Mode}

/-- one operation, its value handed on -/
def stepVUpon (P : Program) (K : Value → World → Prop) : Result Next → Prop
  | .ok (.value v) w' => K v w'
  | .ok .skip w' => K undef w'
  | .ok (.enter f args) w' => Calls P f args w' fun e w'' => ∃ v, e = .returned v ∧ K v w''
  | _ => False
def stepV (P : Program) (o : Oper) (ρ : Operand → Value) (w : World) (K : Value → World → Prop) : Prop := stepVUpon P K ((execOp ρ o).run P w)

theorem stepV_wpOp {Q : Exit → Act → World → Prop} {i : Nat} {o : Oper} (hi : ops[i]? = some o) {a : Act} {w : World} {K : Value → World → Prop} {K' : Act → World → Prop}
    (hK : ∀ v w', K v w' → K' (a.put o.dst v) w')
    (h : if Region.wanted o (yielded ops a.tmps) = true then stepV P o a.eval w K else K undef w) : wpOp P ops Q i K' a w := by
  unfold wpOp
  simp only [hi]
  split
  · rename_i hw
    simp only [hw, if_true] at h
    refine .inl ?_
    unfold stepV at h
    unfold Oper.wp
    generalize (execOp a.eval o).run P w = r at *
    cases r with
    | ok n w' =>
      cases n <;> simp only [stepVUpon] at h <;> simp only [Oper.upon]
      case enter f args =>
        exact h.mono fun e w'' ⟨v, he, hv⟩ => by
          subst he
          exact hK _ _ hv
      all_goals (first | exact hK _ _ h | exact h.elim)
    | halt x w' => exact h.elim
  · rename_i hw
    simp only [hw] at h
    exact hK _ _ h

def dstOf (ops : Array Oper) (i : Nat) : Option Tmp := (ops[i]?).bind (·.dst)
def putL (ops : Array Oper) (f : Nat → Value) (p : Nat → Bool) : List Nat → Act → Act
  | [], a => a
  | i :: l, a => putL ops f p l (if p i then a.put (dstOf ops i) (f i) else a)

theorem putL_congr {f f' : Nat → Value} {p p' : Nat → Bool} : ∀ (l : List Nat) (a : Act), (∀ j ∈ l, p j = p' j ∧ (p j = true → f j = f' j)) → putL ops f p l a = putL ops f' p' l a
  | [], _, _ => rfl
  | i :: l, a, h => by
    obtain ⟨h1, h2⟩ := h i (by simp)
    unfold putL
    rw [putL_congr l _ fun j hj => h j (List.mem_cons_of_mem _ hj), ← h1]
    cases hp : p i with
    | false => rfl
    | true => rw [h2 hp]
theorem putL_put {f : Nat → Value} {p : Nat → Bool} {k : Nat} (v : Value) : ∀ (l : List Nat) (a : Act), (∀ j ∈ l, ∀ d, dstOf ops j = some d → dstOf ops k ≠ some d) →
    (putL ops f p l a).put (dstOf ops k) v = putL ops f p l (a.put (dstOf ops k) v)
  | [], _, _ => rfl
  | i :: l, a, h => by
    unfold putL
    rw [putL_put v l _ fun j hj => h j (List.mem_cons_of_mem _ hj)]
    split
    · rw [Act.put_comm a _ _ (h i (by simp))]
    · rfl
theorem putL_step {f : Nat → Value} {p : Nat → Bool} {k : Nat} (v : Value) : ∀ (l : List Nat) (a : Act), k ∈ l → l.Nodup → p k = false →
    (∀ i ∈ l, ∀ j ∈ l, i ≠ j → ∀ d, dstOf ops i = some d → dstOf ops j ≠ some d) →
    (putL ops f p l a).put (dstOf ops k) v = putL ops (fun j => if j = k then v else f j) (fun j => p j || j == k) l a
  | [], _, hk, _, _, _ => by cases hk
  | i :: l, a, hk, hn, hp, hd => by
    have hn' := List.nodup_cons.1 hn
    by_cases hik : i = k
    · subst hik
      unfold putL
      rw [putL_put v l _ fun j hj d hjd => hd j (List.mem_cons_of_mem _ hj) i (by simp) (fun e => hn'.1 (e ▸ hj)) d hjd]
      simp only [hp, Bool.false_eq_true, if_false, beq_self_eq_true, Bool.or_true, if_true]
      refine putL_congr l _ fun j hj => ?_
      have hne : j ≠ i := fun e => hn'.1 (e ▸ hj)
      simp [hne]
    · have hk' : k ∈ l := by
        rcases List.mem_cons.1 hk with h | h
        · exact absurd h.symm hik
        · exact h
      unfold putL
      rw [putL_step v l _ hk' hn'.2 hp fun a ha b hb => hd a (List.mem_cons_of_mem _ ha) b (List.mem_cons_of_mem _ hb)]
      simp [hik]

/-- two states that agree at the slots looked at -/
theorem putL_agree {f : Nat → Value} {p : Nat → Bool} {L : List Tmp} : ∀ (l : List Nat) (a b : Act), (∀ j ∈ l, p j = false → ∀ d, dstOf ops j = some d → d ∉ L) →
    a.tmps.size = b.tmps.size → (∀ t ∈ L, a.tmps[t]? = b.tmps[t]?) →
    ∀ t ∈ L, (putL ops f p l a).tmps[t]? = (putL ops f (fun _ => true) l b).tmps[t]?
  | [], _, _, _, _, h => h
  | i :: l, a, b, hL, hs, h => by
    unfold putL
    cases hp : p i with
    | true =>
      simp only [if_true]
      refine putL_agree l _ _ (fun j hj => hL j (List.mem_cons_of_mem _ hj)) ?_ ?_
      · cases dstOf ops i <;> simp [Act.put, hs]
      · intro t ht
        cases dstOf ops i with
        | none => exact h t ht
        | some d =>
          simp only [Act.put, Array.getElem?_setIfInBounds, hs, h t ht]
    | false =>
      simp only [Bool.false_eq_true, if_false, if_true]
      refine putL_agree l _ _ (fun j hj => hL j (List.mem_cons_of_mem _ hj)) ?_ ?_
      · cases dstOf ops i <;> simp [Act.put, hs]
      · intro t ht
        cases hd : dstOf ops i with
        | none => exact h t ht
        | some d =>
          have hne : d ≠ t := fun e => hL i (by simp) hp d hd (e ▸ ht)
          simp only [Act.put, Array.getElem?_setIfInBounds_ne hne]
          exact h t ht

theorem eval_agree {o : Oper} {a b : Act} (h : ∀ t ∈ o.looksAt ops, a.tmps[t]? = b.tmps[t]?) : ∀ x ∈ o.op.operands, a.eval x = b.eval x := by
  intro x hx
  cases x with
  | tmp t =>
    have ht : t ∈ o.looksAt ops := List.mem_append_left _ (List.mem_filterMap.2 ⟨.tmp t, by simpa using hx, rfl⟩)
    have := h t ht
    simp [Act.eval, this]
  | _ => rfl
theorem wanted_agree {o : Oper} {a b : Act} (h : ∀ t ∈ o.looksAt ops, a.tmps[t]? = b.tmps[t]?) : Region.wanted o (yielded ops a.tmps) = Region.wanted o (yielded ops b.tmps) := by
  unfold Region.wanted
  cases hg : o.guard with
  | none => rfl
  | some gw =>
    obtain ⟨g, want⟩ := gw
    have hy : yielded ops a.tmps g = yielded ops b.tmps g := by
      unfold yielded
      cases ht : (ops[g]?).bind (·.dst) with
      | none => rfl
      | some t =>
        have : t ∈ o.looksAt ops := by simp [Oper.looksAt, hg, ht]
        simp [h t this]
    simp only [hy]

/-- a word of a value in a world, that stays when nothing that is there turns -/
def Wd := { p : World → Value → Prop // ∀ W W' v, Below W.heap.size W W' → p W v → p W' v }
def Wd.is (x : Value) : Wd := ⟨fun _ v => v = x, fun _ _ _ _ h => h⟩
def Wd.any : Wd := ⟨fun _ _ => True, fun _ _ _ _ h => h⟩

/-- each of these is waited for by a later one of the head, or by the tail's first -/
def sinkH (md : Region.Mode) (ops : Array Oper) (n : Nat) (H : List Nat) : Bool :=
  H.all fun i => (List.range (n + 1)).any fun j => decide (i < j) && Region.waitsFor md ops j i
theorem tail_waitsH {n : Nat} {H : List Nat} {listed : Array Bool} (hs : sinkH md ops n H = true) (hc : Region.chainB md ops n = true) (hn : n < ops.size) (hun' : ∀ i, i < n → listed.getD i false = false → i ∈ H) (inv : HeadInv md ops n listed) :
    ∀ (d i : Nat), n - i = d → i < n → listed.getD i true = false → ∀ t, n ≤ t → t ∉ Region.ready md ops listed := by
  intro d
  induction d using Nat.strongRecOn with
  | _ d ih =>
    intro i hd hi hun t ht hr
    obtain ⟨_, ot, hot, hall⟩ := mem_ready.1 hr
    have htlt : t < ops.size := (Array.getElem?_eq_some_iff.1 hot).1
    by_cases htn : t = n
    · subst htn
      have h1 := List.all_eq_true.1 hs i (hun' i hi (getD_both hun))
      obtain ⟨j, hj, hj2⟩ := List.any_eq_true.1 h1
      simp only [Bool.and_eq_true, decide_eq_true_eq] at hj2
      obtain ⟨oj, hoj, e, he, hb, hon⟩ := Region.waitsFor_spec hj2.2
      have hjle : j ≤ t := by have := List.mem_range.1 hj; omega
      by_cases hjt : j = t
      · subst hjt
        have : oj = ot := Option.some.inj (hoj.symm.trans hot)
        subst this
        have h2 := hall e he hb
        rw [hon, getD_both hun] at h2
        cases h2
      · cases hl : listed.getD j false with
        | true =>
          have h2 := inv.closed j oj hoj hl e he hb
          rw [hon, getD_both hun] at h2
          cases h2
        | false =>
          have hjs : j < listed.size := by rw [inv.size]; omega
          exact ih (t - j) (by omega) j rfl (by omega) (getD_in hjs hl) t (Nat.le_refl _) hr
    · have h1 := List.all_eq_true.1 hc t (List.mem_range.2 htlt)
      simp only [Bool.or_eq_true, decide_eq_true_eq] at h1
      rcases h1 with h1 | h1
      · omega
      · obtain ⟨o', ho', e, he, hb, hon⟩ := Region.waitsFor_spec h1
        have : o' = ot := Option.some.inj (ho'.symm.trans hot)
        subst this
        have h2 := hall e he hb
        rw [hon, getD_both (inv.tail (t - 1) (by omega) (by omega))] at h2
        cases h2

def headB (md : Region.Mode) (ops : Array Oper) (n : Nat) (H : List Nat) (listed : Array Bool) : Bool :=
  Region.noSelect ops && decide (n < ops.size) && sinkH md ops n H && Region.chainB md ops n && decide (listed.size = ops.size) && decide H.Nodup &&
  ((List.range n).all fun i => listed.getD i false != H.contains i) && (H.all fun i => decide (i < n)) && ((List.range ops.size).all fun i => decide (i < n) || !listed.getD i true) &&
  ((List.range ops.size).all fun j => !listed.getD j false || ((ops[j]?).map fun o => o.after.all fun e => !Region.binds md e || listed.getD e.on false).getD true) &&
  ((List.range n).all fun j => ((ops[j]?).map fun o => o.after.all fun e => !Region.binds md e || decide (e.on < j)).getD true) &&
  (H.all fun i => H.all fun j => i == j || (match dstOf ops i, dstOf ops j with | some d, some e => d != e | _, _ => true)) &&
  (H.all fun i => H.all fun j => Region.waitsFor md ops i j || (match ops[i]?, dstOf ops j with | some o, some d => !(o.looksAt ops).contains d | _, _ => true)) &&
  Region.seqB md ops (ops.size - n) n (Array.replicate n true ++ Array.replicate (ops.size - n) false)

/-- what is to be shown of one operation -/
def Obl (P : Program) (md : Region.Mode) (ops : Array Oper) (H : List Nat) (A : (Nat → Value) → Act) (V : Nat → Wd) (w0 : World) (i : Nat) (o : Oper) : Prop :=
  ∀ (f : Nat → Value) (w : World), Below w0.heap.size w0 w → (∀ j, (H.contains j && Region.waitsFor md ops i j) = true → (V j).1 w (f j)) →
    ∀ K : Value → World → Prop, (∀ v w', Below w.heap.size w w' → (V i).1 w' v → K v w') →
      if Region.wanted o (yielded ops (A f).tmps) = true then stepV P o (A f).eval w K else K undef w
def oblAll (F : Nat → Oper → Prop) : List Nat → List Oper → Prop
  | i :: l, o :: os => F i o ∧ oblAll F l os
  | _, _ => True
theorem oblAll_mem {F : Nat → Oper → Prop} : ∀ {l : List Nat} {os : List Oper}, l.map (fun k => ops[k]?) = os.map some → oblAll F l os → ∀ i ∈ l, ∀ o, ops[i]? = some o → F i o
  | [], _, _, _, i, hi, _, _ => by cases hi
  | k :: l, [], hl, _, _, _, _, _ => by simp at hl
  | k :: l, o' :: os, hl, h, i, hi, o, ho => by
    simp only [List.map_cons, List.cons.injEq] at hl
    rcases List.mem_cons.1 hi with rfl | hi
    · obtain rfl : o = o' := Option.some.inj (ho.symm.trans hl.1)
      exact h.1
    · exact oblAll_mem hl.2 h.2 i hi o ho

theorem wpAny_grow {Q : Exit → Act → World → Prop} {n : Nat} {H : List Nat} {listed0 : Array Bool} {a0 : Act} {w0 : World} {fuel : Nat} (os : List Oper) (V : Nat → Wd) (A : (Nat → Value) → Act)
    (hB : headB md ops n H listed0 = true) (hf : fuel = H.length + (ops.size - n)) (hA : ∀ f, putL ops f (fun _ => true) H a0 = A f)
    (hos : H.map (fun k => ops[k]?) = os.map some) (obl : oblAll (Obl P md ops H A V w0) H os)
    (fin : ∀ f w, Below w0.heap.size w0 w → (∀ i ∈ H, (V i).1 w (f i)) → wpList P ops Q (ops.toList.drop n) (A f) w) : wpAny P md ops Q fuel listed0 a0 w0 := by
  subst hf
  simp only [headB, Bool.and_eq_true, decide_eq_true_eq] at hB
  obtain ⟨⟨⟨⟨⟨⟨⟨⟨⟨⟨⟨⟨⟨hsel, hn⟩, hs⟩, hc⟩, hsz⟩, hnd⟩, hH⟩, hHn⟩, htl⟩, hcl⟩, hdn⟩, hds⟩, hlk⟩, hsq⟩ := hB
  have hdist : ∀ i ∈ H, ∀ j ∈ H, i ≠ j → ∀ d, dstOf ops i = some d → dstOf ops j ≠ some d := by
    intro i hi j hj hne d hd hd'
    have h1 := List.all_eq_true.1 (List.all_eq_true.1 hds i hi) j hj
    simp [hd, hd', hne] at h1
  have hlook : ∀ i ∈ H, ∀ j ∈ H, ∀ o, ops[i]? = some o → Region.waitsFor md ops i j = false → ∀ d, dstOf ops j = some d → d ∉ o.looksAt ops := by
    intro i hi j hj o ho hw d hd
    have h1 := List.all_eq_true.1 (List.all_eq_true.1 hlk i hi) j hj
    simpa [hw, ho, hd] using h1
  have hHn' : ∀ i ∈ H, i < n := fun i hi => by simpa using List.all_eq_true.1 hHn i hi
  have hH' : ∀ i, i < n → (listed0.getD i false = false ↔ i ∈ H) := fun i hi => by
    have h1 := List.all_eq_true.1 hH i (List.mem_range.2 hi)
    cases hl : listed0.getD i false <;> simp [hl] at h1 ⊢ <;> simpa using h1
  have inv0 : HeadInv md ops n listed0 := by
    refine ⟨hsz, fun j oj hj hl e he hb => ?_, fun t ht ht' => ?_⟩
    · have hjs : j < ops.size := (Array.getElem?_eq_some_iff.1 hj).1
      have h1 := List.all_eq_true.1 hcl j (List.mem_range.2 hjs)
      simp only [hl, Bool.not_true, Bool.false_or, hj, Option.map_some, Option.getD_some] at h1
      have h2 := Array.all_eq_true_iff_forall_mem.1 h1 e he
      simpa [hb] using h2
    · have h1 := List.all_eq_true.1 htl t (List.mem_range.2 ht')
      simp only [Bool.or_eq_true, decide_eq_true_eq] at h1
      rcases h1 with h1 | h1
      · omega
      · simpa using h1
  -- the induction
  have core : ∀ (m : Nat) (U : List Nat) (listed : Array Bool) (f : Nat → Value) (w : World), U.length = m → U.Nodup → (∀ i, i ∈ U ↔ i ∈ H ∧ listed.getD i false = false) →
      HeadInv md ops n listed → (∀ i, i < n → i ∉ H → listed.getD i false = true) → Below w0.heap.size w0 w → (∀ i ∈ H, listed.getD i false = true → (V i).1 w (f i)) →
      wpAny P md ops Q (m + (ops.size - n)) listed (putL ops f (fun i => listed.getD i false) H a0) w := by
    intro m
    induction m with
    | zero =>
      intro U listed f w hU _ hUi inv hrest hb hV
      have hU0 : U = [] := List.eq_nil_of_length_eq_zero hU
      have hall : ∀ i ∈ H, listed.getD i false = true := fun i hi => by
        cases hl : listed.getD i false with
        | true => rfl
        | false =>
          have := (hUi i).2 ⟨hi, hl⟩
          rw [hU0] at this
          cases this
      have hfull : ∀ i, i < n → listed.getD i false = true := fun i hi => by
        by_cases h : i ∈ H
        · exact hall i h
        · exact hrest i hi h
      have hlist : listed = Array.replicate n true ++ Array.replicate (ops.size - n) false := by
        apply Array.ext
        · simp [inv.size]
          omega
        · intro i h1 h2
          have hi : i < ops.size := by rw [← inv.size]; exact h1
          by_cases hin : i < n
          · have h3 := hfull i hin
            simp only [Array.getD, h1, dif_pos] at h3
            rw [Array.getElem_append_left (by simpa using hin)]
            simpa using h3
          · have h3 := inv.tail i (by omega) hi
            simp only [Array.getD, h1, dif_pos] at h3
            rw [Array.getElem_append_right (by simp; omega)]
            simpa using h3
      have hput : putL ops f (fun i => listed.getD i false) H a0 = A f := by
        rw [← hA]
        exact putL_congr H a0 fun j hj => ⟨hall j hj, fun _ => rfl⟩
      rw [hput, Nat.zero_add]
      have hlen : (ops.toList.drop n).length = ops.size - n := by simp
      have hseq := wpAny_of_seq (md := md) (Q' := Q) (P := P) (ops := ops) (ops.toList.drop n) n listed (A f) w (fun j => by simp [List.getElem?_drop]) (by rw [hlen, hlist]; exact hsq) (fin f w hb fun i hi => hV i hi (hall i hi))
      rwa [hlen] at hseq
    | succ m ih =>
      intro U listed f w hU hUn hUi inv hrest hb hV
      rw [show m + 1 + (ops.size - n) = (m + (ops.size - n)) + 1 by omega]
      -- some operation of the head is still to come: the least one may
      have hex : ∃ i, i ∈ U := by
        cases U with
        | nil => simp at hU
        | cons i _ => exact ⟨i, by simp⟩
      obtain ⟨u, hu⟩ := hex
      have hunl : ∀ i ∈ U, i < n ∧ listed.getD i true = false := fun i hi => by
        obtain ⟨h1, h2⟩ := (hUi i).1 hi
        have := hHn' i h1
        exact ⟨this, getD_in (by rw [inv.size]; omega) h2⟩
      have hready : ∀ k, ∀ i ∈ U, i ≤ k → ∃ j, j ∈ Region.ready md ops listed := by
        intro k
        induction k using Nat.strongRecOn with
        | _ k ihk =>
          intro i hi hik
          obtain ⟨hin, hiu⟩ := hunl i hi
          by_cases hr : i ∈ Region.ready md ops listed
          · exact ⟨i, hr⟩
          · obtain ⟨oi, hoi⟩ : ∃ oi, ops[i]? = some oi := ⟨_, Array.getElem?_eq_getElem (by omega)⟩
            have hnot : ¬ ∀ e ∈ oi.after, Region.binds md e = true → listed.getD e.on false = true := fun hall => hr (mem_ready.2 ⟨hiu, oi, hoi, hall⟩)
            simp only [Classical.not_forall] at hnot
            obtain ⟨e, he, hbd, hl⟩ := hnot
            have hlt : e.on < i := by
              have h1 := List.all_eq_true.1 hdn i (List.mem_range.2 hin)
              simp only [hoi, Option.map_some, Option.getD_some] at h1
              have h2 := Array.all_eq_true_iff_forall_mem.1 h1 e he
              simpa [hbd] using h2
            have hl' : listed.getD e.on false = false := by simpa using hl
            have heU : e.on ∈ U := by
              refine (hUi _).2 ⟨?_, hl'⟩
              by_cases h : e.on ∈ H
              · exact h
              · rw [hrest _ (by omega) h] at hl'
                cases hl'
            exact ihk e.on (by omega) e.on heU (Nat.le_refl _)
      obtain ⟨j0, hj0⟩ := hready u u hu (Nat.le_refl _)
      refine ⟨fun h0 => (by rw [h0] at hj0; cases hj0), fun i hi => ?_⟩
      obtain ⟨hiun, oi, hoi, hafter⟩ := mem_ready.1 hi
      have hin : i < n := by
        rcases Nat.lt_or_ge i n with h | h
        · exact h
        · exact absurd hi (tail_waitsH hs hc hn (fun q hq hqf => by
            by_cases hqH : q ∈ H
            · exact hqH
            · rw [hrest q hq hqH] at hqf
              cases hqf) inv _ u rfl (hunl u hu).1 (hunl u hu).2 i h)
      have hiH : i ∈ H := by
        by_cases h : i ∈ H
        · exact h
        · have h1 := hrest i hin h
          rw [getD_both hiun] at h1
          cases h1
      have hif : listed.getD i false = false := getD_both hiun
      have hob := oblAll_mem hos obl i hiH oi hoi f w hb fun j hw => by
        simp only [Bool.and_eq_true, List.contains_iff_mem] at hw
        obtain ⟨o', ho', e, he, hbd, hon⟩ := Region.waitsFor_spec hw.2
        obtain rfl : o' = oi := Option.some.inj (ho'.symm.trans hoi)
        have hlj := hafter e he hbd
        rw [hon] at hlj
        exact hV j hw.1 hlj
      have hag : ∀ t ∈ oi.looksAt ops, (putL ops f (fun i => listed.getD i false) H a0).tmps[t]? = (A f).tmps[t]? := by
        rw [← hA]
        refine putL_agree H a0 a0 (fun j hj hjl d hd => ?_) rfl (fun _ _ => rfl)
        cases hw : Region.waitsFor md ops i j with
        | false => exact hlook i hiH j hj oi hoi hw d hd
        | true =>
          obtain ⟨o', ho', e, he, hbd, hon⟩ := Region.waitsFor_spec hw
          obtain rfl : o' = oi := Option.some.inj (ho'.symm.trans hoi)
          have hlj := hafter e he hbd
          rw [hon, hjl] at hlj
          cases hlj
      have hil : i < listed.size := by rw [inv.size]; omega
      refine stepV_wpOp hoi (K := fun v w' => Below w.heap.size w w' ∧ (V i).1 w' v) (fun v w' hK => ?_) ?_
      · have hdo : oi.dst = dstOf ops i := by simp [dstOf, hoi]
        rw [hdo, putL_step v H a0 hiH hnd hif hdist]
        have hgd : ∀ j, (listed.setIfInBounds i true).getD j false = (listed.getD j false || j == i) := fun j => by
          by_cases hji : i = j
          · subst hji
            simp [hil]
          · have : ¬ j = i := fun e => hji e.symm
            rw [getD_set_ne false hji]
            simp [this]
        have h := ih (U.erase i) (listed.setIfInBounds i true) (fun j => if j = i then v else f j) w' (by rw [List.length_erase_of_mem ((hUi i).2 ⟨hiH, hif⟩)]; omega) (hUn.erase i)
          (fun j => by
            rw [hUn.mem_erase_iff, hUi, hgd]
            constructor
            · rintro ⟨h1, h2, h3⟩
              exact ⟨h2, by simp [h3, h1]⟩
            · rintro ⟨h2, h3⟩
              simp only [Bool.or_eq_false_iff, beq_eq_false_iff_ne] at h3
              exact ⟨h3.2, h2, h3.1⟩)
          (inv.set hi hin) (fun j hj hjH => by rw [hgd, hrest j hj hjH]; rfl) (hb.trans (hK.1.mono hb.size))
          (fun j hjH hjl => by
            by_cases hji : j = i
            · subst hji
              simpa using hK.2
            · rw [hgd] at hjl
              have hjl' : listed.getD j false = true := by simpa [hji] using hjl
              simp only [hji, if_false]
              exact (V j).2 _ _ _ hK.1 (hV j hjH hjl'))
        have he : putL ops (fun j => if j = i then v else f j) (fun i_1 => (listed.setIfInBounds i true).getD i_1 false) H a0 = putL ops (fun j => if j = i then v else f j) (fun j => listed.getD j false || j == i) H a0 :=
          putL_congr H a0 fun j _ => ⟨hgd j, fun _ => rfl⟩
        rw [he] at h
        exact h
      · have h := hob (fun v w' => Below w.heap.size w w' ∧ (V i).1 w' v) (fun v w' h1 h2 => ⟨h1, h2⟩)
        rw [wanted_agree hag]
        unfold stepV at h ⊢
        rw [execOp_congr oi (fun cs b => Region.noSelect_spec hsel i oi cs b hoi) (eval_agree hag)]
        exact h
  have h0 := core H.length H listed0 (fun _ => undef) w0 rfl hnd (fun i => ?_) inv0 (fun i hi hiH => ?_) (Below.refl _ _) (fun i hi hl => ?_)
  · have he : putL ops (fun _ => undef) (fun i => listed0.getD i false) H a0 = a0 := by
      have : ∀ (l : List Nat), (∀ i ∈ l, listed0.getD i false = false) → putL ops (fun _ => undef) (fun i => listed0.getD i false) l a0 = a0 := by
        intro l
        induction l with
        | nil => intro _; rfl
        | cons i l ih =>
          intro hl
          unfold putL
          simp only [hl i (by simp), Bool.false_eq_true, if_false]
          exact ih fun j hj => hl j (List.mem_cons_of_mem _ hj)
      exact this H fun i hi => (hH' i (hHn' i hi)).2 hi
    rw [he] at h0
    exact h0
  · exact ⟨fun h => ⟨h, (hH' i (hHn' i h)).2 h⟩, fun h => h.1⟩
  · cases hl : listed0.getD i false with
    | true => rfl
    | false => exact absurd ((hH' i hi).1 hl) hiH
  · rw [(hH' i (hHn' i hi)).2 hi] at hl
    cases hl

/-- the frame with the values in their slots -/
def putO (f : Nat → Value) : List Nat → List Oper → Act → Act
  | i :: l, o :: os, a => putO f l os (a.put o.dst (f i))
  | _, _, a => a
theorem putO_eq {f : Nat → Value} : ∀ (l : List Nat) (os : List Oper) (a : Act), l.map (fun k => ops[k]?) = os.map some → putL ops f (fun _ => true) l a = putO f l os a
  | [], [], _, _ => rfl
  | [], _ :: _, _, h => by simp at h
  | _ :: _, [], _, h => by simp at h
  | i :: l, o :: os, a, h => by
    simp only [List.map_cons, List.cons.injEq] at h
    unfold putL putO
    have hd : dstOf ops i = o.dst := by simp [dstOf, h.1]
    rw [hd]
    exact putO_eq l os _ h.2

/-- the same, the region's list written out -/
theorem wpAny_growL {Q : Exit → Act → World → Prop} {l : List Oper} {listed0 : Array Bool} {a0 : Act} {w0 : World} {fuel : Nat} (n : Nat) (H : List Nat) (os : List Oper) (V : Nat → Wd)
    (hB : headB md l.toArray n H listed0 = true) (hf : fuel = H.length + (l.length - n))
    (hos : H.map (fun k => l[k]?) = os.map some) (obl : oblAll (Obl P md l.toArray H (fun f => putO f H os a0) V w0) H os)
    (fin : ∀ f w, Below w0.heap.size w0 w → (∀ i ∈ H, (V i).1 w (f i)) → wpList P l.toArray Q (l.drop n) (putO f H os a0) w) : wpAny P md l.toArray Q fuel listed0 a0 w0 := by
  have hos' : H.map (fun k => l.toArray[k]?) = os.map some := by simpa using hos
  exact wpAny_grow os V (fun f => putO f H os a0) hB (by simpa using hf) (fun f => putO_eq H os a0 hos') hos' obl (by simpa using fin)

/-- a list of two, of one -/
def Wd.two (s t : Value) (n c : Nat) : Wd := ⟨fun w v => ∃ b, v = .slice (some ⟨b, 0, none⟩) n c ∧ w.cell? ⟨b, 0, none⟩ = some s ∧ w.cell? ⟨b, 1, none⟩ = some t,
  fun _ _ _ h ⟨b, e, h0, h1⟩ => ⟨b, e, (h.cell (p := ⟨b, 0, none⟩) (block_lt_of_cell h0)).trans h0, (h.cell (p := ⟨b, 1, none⟩) (block_lt_of_cell h1)).trans h1⟩⟩
def Wd.one (s : Value) (n c : Nat) : Wd := ⟨fun w v => ∃ b, v = .slice (some ⟨b, 0, none⟩) n c ∧ w.cell? ⟨b, 0, none⟩ = some s,
  fun _ _ _ h ⟨b, e, h0⟩ => ⟨b, e, (h.cell (p := ⟨b, 0, none⟩) (block_lt_of_cell h0)).trans h0⟩⟩
end
end Go.Proofs.YtbbfdnknbghffaaGreatDoor
