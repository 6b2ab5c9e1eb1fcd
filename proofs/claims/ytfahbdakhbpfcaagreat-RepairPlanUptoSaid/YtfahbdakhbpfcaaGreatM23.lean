/-
  GrowIn: PLAIN LAW: the growth law inside a round of a range over a function; conditions: none.
-/
import Derived.Test.YtfahbdakhbpfcaaGreatM21
import Derived.Test.YtfahbdakhbpfcaaGreatM22
import Derived.OrdersIn
namespace Go.Proofs.YtfahbdakhbpfcaaGreat
open Go.RowKit Go.Shelf

section
variable {P : Program} {ops : Array Oper} {md : Region.Mode} {ll dn : Nat}

def noDefer (ops : Array Oper) : Bool := ops.all fun (o : Oper) => match o.op with | .defer _ => false | _ => true
theorem noDefer_spec (h : noDefer ops = true) : ∀ (i : Nat) (o : Oper), ops[i]? = some o → ∀ c, o.op ≠ .defer c := by
  intro i o ho c hc
  have hm := Array.all_eq_true_iff_forall_mem.1 h o (Array.mem_of_getElem? ho)
  simp [hc] at hm

theorem stepV_wpOpIn {Q : Exit → Act → World → Prop} {i : Nat} {o : Oper} (hnd' : ∀ c, o.op ≠ .defer c) (hi : ops[i]? = some o) {a : Act} {w : World} {K : Value → World → Prop} {K' : Act → World → Prop}
    (hK : ∀ v w', K v w' → K' (a.put o.dst v) w')
    (h : if Region.wanted o (yielded ops a.tmps) = true then stepV P o a.eval w K else K undef w) : wpOpIn (Fence.wide.inRound ll) dn P ops Q i K' a w := by
  unfold wpOpIn
  simp only [hi]
  split
  · rename_i hw
    simp only [hw, if_true] at h
    unfold stepV at h
    unfold Oper.wpIn
    refine ⟨fun _ _ => trivial, ?_⟩
    rw [Oper.semAt_eq _ _ _ hnd']
    generalize (execOp a.eval o).run P w = r at *
    cases r with
    | ok n w' =>
      cases n <;> simp only [stepVUpon] at h <;> simp only [Oper.uponIn]
      case enter f args =>
        refine ⟨fun hd => (by cases hd), CallsIn.inRound ll (callsIn_wide.2 (h.mono fun e w'' ⟨v, he, hv⟩ => ?_))⟩
        subst he
        exact hK _ _ hv
      all_goals (first | exact hK _ _ h | exact h.elim)
    | halt x w' => exact h.elim
  · rename_i hw
    simp only [hw] at h
    exact ⟨fun _ _ => trivial, hK _ _ h⟩

theorem wpAnyIn_of_seq {Q' : Exit → Act → World → Prop} : ∀ (l : List Oper) (k : Nat) (listed : Array Bool) (a : Act) (w : World), (∀ j, l[j]? = ops[k + j]?) →
    Region.seqB md ops l.length k listed = true → wpListIn (Fence.wide.inRound ll) dn P ops Q' l a w → wpAnyIn (Fence.wide.inRound ll) dn P md ops Q' l.length listed a w
  | [], _, _, _, _, _, hB, h => ⟨by simpa [Region.seqB] using hB, h⟩
  | o :: l, k, listed, a, w, hl, hB, h => by
    have h0 : ops[k]? = some o := by simpa using (hl 0).symm
    simp only [List.length_cons, Region.seqB, Bool.and_eq_true, decide_eq_true_eq] at hB
    refine ⟨fun h1 => (by rw [hB.1] at h1; cases h1), fun i hi => ?_⟩
    rw [hB.1] at hi
    have hik : i = k := by simpa using hi
    subst hik
    have hw : wpOpIn (Fence.wide.inRound ll) dn P ops Q' i (wpListIn (Fence.wide.inRound ll) dn P ops Q' l) a w := by unfold wpOpIn; simp only [h0]; exact h
    exact wpOpIn_mono (fun a' w' h' => wpAnyIn_of_seq l (i + 1) _ a' w' (fun j => by have := hl (j + 1); simpa [Nat.add_assoc, Nat.add_comm 1 j] using this) hB.2 h') hw

theorem wpAnyIn_grow {ll dn : Nat} {Q : Exit → Act → World → Prop} {n : Nat} {H : List Nat} {listed0 : Array Bool} {a0 : Act} {w0 : World} {fuel : Nat} (os : List Oper) (V : Nat → Wd) (A : (Nat → Value) → Act)
    (hB : headB md ops n H listed0 = true) (hD : noDefer ops = true) (hf : fuel = H.length + (ops.size - n)) (hA : ∀ f, putL ops f (fun _ => true) H a0 = A f)
    (hos : H.map (fun k => ops[k]?) = os.map some) (obl : oblAll (Obl P md ops H A V w0) H os)
    (fin : ∀ f w, Below w0.heap.size w0 w → (∀ i ∈ H, (V i).1 w (f i)) → wpListIn (Fence.wide.inRound ll) dn P ops Q (ops.toList.drop n) (A f) w) : wpAnyIn (Fence.wide.inRound ll) dn P md ops Q fuel listed0 a0 w0 := by
  subst hf
  have hnd0 := noDefer_spec hD
  simp only [headB, Bool.and_eq_true, decide_eq_true_eq] at hB
  obtain ⟨⟨⟨⟨⟨⟨⟨⟨⟨⟨⟨⟨⟨hsel, hn⟩, hs⟩, hc⟩, hsz⟩, hnd⟩, hH⟩, hHn⟩, htl⟩, hcl⟩, hdn⟩, hds⟩, hlk⟩, hsq⟩ := hB
  have hdist : ∀ i ∈ H, ∀ j ∈ H, i ≠ j → ∀ d, dstOf ops i = some d → dstOf ops j ≠ some d := by
    intro i hi j hj hne d hd hd'
    have h1 := List.all_eq_true.1 (List.all_eq_true.1 hds i hi) j hj
    simp [hd, hd', hne] at h1
  have hlook : ∀ i ∈ H, ∀ j ∈ H, ∀ o, ops[i]? = some o → Region.waitsFor md ops i j = false → ∀ d, dstOf ops j = some d → d ∉ o.looksAt ops := by
    intro i hi j hj o ho hw d hd
    have h1 := List.all_eq_true.1 (List.all_eq_true.1 hlk i hi) j hj
    simpa [hw, ho, hd] using h1
  have hHn' : ∀ i ∈ H, i < n := fun i hi => by simpa using List.all_eq_true.1 hHn i hi
  have hH' : ∀ i, i < n → (listed0.getD i false = false ↔ i ∈ H) := fun i hi => by
    have h1 := List.all_eq_true.1 hH i (List.mem_range.2 hi)
    cases hl : listed0.getD i false <;> simp [hl] at h1 ⊢ <;> simpa using h1
  have inv0 : HeadInv md ops n listed0 := by
    refine ⟨hsz, fun j oj hj hl e he hb => ?_, fun t ht ht' => ?_⟩
    · have hjs : j < ops.size := (Array.getElem?_eq_some_iff.1 hj).1
      have h1 := List.all_eq_true.1 hcl j (List.mem_range.2 hjs)
      simp only [hl, Bool.not_true, Bool.false_or, hj, Option.map_some, Option.getD_some] at h1
      have h2 := Array.all_eq_true_iff_forall_mem.1 h1 e he
      simpa [hb] using h2
    · have h1 := List.all_eq_true.1 htl t (List.mem_range.2 ht')
      simp only [Bool.or_eq_true, decide_eq_true_eq] at h1
      rcases h1 with h1 | h1
      · omega
      · simpa using h1
  -- the induction
  have core : ∀ (m : Nat) (U : List Nat) (listed : Array Bool) (f : Nat → Value) (w : World), U.length = m → U.Nodup → (∀ i, i ∈ U ↔ i ∈ H ∧ listed.getD i false = false) →
      HeadInv md ops n listed → (∀ i, i < n → i ∉ H → listed.getD i false = true) → Below w0.heap.size w0 w → (∀ i ∈ H, listed.getD i false = true → (V i).1 w (f i)) →
      wpAnyIn (Fence.wide.inRound ll) dn P md ops Q (m + (ops.size - n)) listed (putL ops f (fun i => listed.getD i false) H a0) w := by
    intro m
    induction m with
    | zero =>
      intro U listed f w hU _ hUi inv hrest hb hV
      have hU0 : U = [] := List.eq_nil_of_length_eq_zero hU
      have hall : ∀ i ∈ H, listed.getD i false = true := fun i hi => by
        cases hl : listed.getD i false with
        | true => rfl
        | false =>
          have := (hUi i).2 ⟨hi, hl⟩
          rw [hU0] at this
          cases this
      have hfull : ∀ i, i < n → listed.getD i false = true := fun i hi => by
        by_cases h : i ∈ H
        · exact hall i h
        · exact hrest i hi h
      have hlist : listed = Array.replicate n true ++ Array.replicate (ops.size - n) false := by
        apply Array.ext
        · simp [inv.size]
          omega
        · intro i h1 h2
          have hi : i < ops.size := by rw [← inv.size]; exact h1
          by_cases hin : i < n
          · have h3 := hfull i hin
            simp only [Array.getD, h1, dif_pos] at h3
            rw [Array.getElem_append_left (by simpa using hin)]
            simpa using h3
          · have h3 := inv.tail i (by omega) hi
            simp only [Array.getD, h1, dif_pos] at h3
            rw [Array.getElem_append_right (by simp; omega)]
            simpa using h3
      have hput : putL ops f (fun i => listed.getD i false) H a0 = A f := by
        rw [← hA]
        exact putL_congr H a0 fun j hj => ⟨hall j hj, fun _ => rfl⟩
      rw [hput, Nat.zero_add]
      have hlen : (ops.toList.drop n).length = ops.size - n := by simp
      have hseq := wpAnyIn_of_seq (ll := ll) (dn := dn) (md := md) (Q' := Q) (P := P) (ops := ops) (ops.toList.drop n) n listed (A f) w (fun j => by simp [List.getElem?_drop]) (by rw [hlen, hlist]; exact hsq) (fin f w hb fun i hi => hV i hi (hall i hi))
      rwa [hlen] at hseq
    | succ m ih =>
      intro U listed f w hU hUn hUi inv hrest hb hV
      rw [show m + 1 + (ops.size - n) = (m + (ops.size - n)) + 1 by omega]
      -- some operation of the head is still to come: the least one may
      have hex : ∃ i, i ∈ U := by
        cases U with
        | nil => simp at hU
        | cons i _ => exact ⟨i, by simp⟩
      obtain ⟨u, hu⟩ := hex
      have hunl : ∀ i ∈ U, i < n ∧ listed.getD i true = false := fun i hi => by
        obtain ⟨h1, h2⟩ := (hUi i).1 hi
        have := hHn' i h1
        exact ⟨this, getD_in (by rw [inv.size]; omega) h2⟩
      have hready : ∀ k, ∀ i ∈ U, i ≤ k → ∃ j, j ∈ Region.ready md ops listed := by
        intro k
        induction k using Nat.strongRecOn with
        | _ k ihk =>
          intro i hi hik
          obtain ⟨hin, hiu⟩ := hunl i hi
          by_cases hr : i ∈ Region.ready md ops listed
          · exact ⟨i, hr⟩
          · obtain ⟨oi, hoi⟩ : ∃ oi, ops[i]? = some oi := ⟨_, Array.getElem?_eq_getElem (by omega)⟩
            have hnot : ¬ ∀ e ∈ oi.after, Region.binds md e = true → listed.getD e.on false = true := fun hall => hr (mem_ready.2 ⟨hiu, oi, hoi, hall⟩)
            simp only [Classical.not_forall] at hnot
            obtain ⟨e, he, hbd, hl⟩ := hnot
            have hlt : e.on < i := by
              have h1 := List.all_eq_true.1 hdn i (List.mem_range.2 hin)
              simp only [hoi, Option.map_some, Option.getD_some] at h1
              have h2 := Array.all_eq_true_iff_forall_mem.1 h1 e he
              simpa [hbd] using h2
            have hl' : listed.getD e.on false = false := by simpa using hl
            have heU : e.on ∈ U := by
              refine (hUi _).2 ⟨?_, hl'⟩
              by_cases h : e.on ∈ H
              · exact h
              · rw [hrest _ (by omega) h] at hl'
                cases hl'
            exact ihk e.on (by omega) e.on heU (Nat.le_refl _)
      obtain ⟨j0, hj0⟩ := hready u u hu (Nat.le_refl _)
      refine ⟨fun h0 => (by rw [h0] at hj0; cases hj0), fun i hi => ?_⟩
      obtain ⟨hiun, oi, hoi, hafter⟩ := mem_ready.1 hi
      have hin : i < n := by
        rcases Nat.lt_or_ge i n with h | h
        · exact h
        · exact absurd hi (tail_waitsH hs hc hn (fun q hq hqf => by
            by_cases hqH : q ∈ H
            · exact hqH
            · rw [hrest q hq hqH] at hqf
              cases hqf) inv _ u rfl (hunl u hu).1 (hunl u hu).2 i h)
      have hiH : i ∈ H := by
        by_cases h : i ∈ H
        · exact h
        · have h1 := hrest i hin h
          rw [getD_both hiun] at h1
          cases h1
      have hif : listed.getD i false = false := getD_both hiun
      have hob := oblAll_mem hos obl i hiH oi hoi f w hb fun j hw => by
        simp only [Bool.and_eq_true, List.contains_iff_mem] at hw
        obtain ⟨o', ho', e, he, hbd, hon⟩ := Region.waitsFor_spec hw.2
        obtain rfl : o' = oi := Option.some.inj (ho'.symm.trans hoi)
        have hlj := hafter e he hbd
        rw [hon] at hlj
        exact hV j hw.1 hlj
      have hag : ∀ t ∈ oi.looksAt ops, (putL ops f (fun i => listed.getD i false) H a0).tmps[t]? = (A f).tmps[t]? := by
        rw [← hA]
        refine putL_agree H a0 a0 (fun j hj hjl d hd => ?_) rfl (fun _ _ => rfl)
        cases hw : Region.waitsFor md ops i j with
        | false => exact hlook i hiH j hj oi hoi hw d hd
        | true =>
          obtain ⟨o', ho', e, he, hbd, hon⟩ := Region.waitsFor_spec hw
          obtain rfl : o' = oi := Option.some.inj (ho'.symm.trans hoi)
          have hlj := hafter e he hbd
          rw [hon, hjl] at hlj
          cases hlj
      have hil : i < listed.size := by rw [inv.size]; omega
      refine stepV_wpOpIn (hnd' := hnd0 i oi hoi) hoi (K := fun v w' => Below w.heap.size w w' ∧ (V i).1 w' v) (fun v w' hK => ?_) ?_
      · have hdo : oi.dst = dstOf ops i := by simp [dstOf, hoi]
        rw [hdo, putL_step v H a0 hiH hnd hif hdist]
        have hgd : ∀ j, (listed.setIfInBounds i true).getD j false = (listed.getD j false || j == i) := fun j => by
          by_cases hji : i = j
          · subst hji
            simp [hil]
          · have : ¬ j = i := fun e => hji e.symm
            rw [getD_set_ne false hji]
            simp [this]
        have h := ih (U.erase i) (listed.setIfInBounds i true) (fun j => if j = i then v else f j) w' (by rw [List.length_erase_of_mem ((hUi i).2 ⟨hiH, hif⟩)]; omega) (hUn.erase i)
          (fun j => by
            rw [hUn.mem_erase_iff, hUi, hgd]
            constructor
            · rintro ⟨h1, h2, h3⟩
              exact ⟨h2, by simp [h3, h1]⟩
            · rintro ⟨h2, h3⟩
              simp only [Bool.or_eq_false_iff, beq_eq_false_iff_ne] at h3
              exact ⟨h3.2, h2, h3.1⟩)
          (inv.set hi hin) (fun j hj hjH => by rw [hgd, hrest j hj hjH]; rfl) (hb.trans (hK.1.mono hb.size))
          (fun j hjH hjl => by
            by_cases hji : j = i
            · subst hji
              simpa using hK.2
            · rw [hgd] at hjl
              have hjl' : listed.getD j false = true := by simpa [hji] using hjl
              simp only [hji, if_false]
              exact (V j).2 _ _ _ hK.1 (hV j hjH hjl'))
        have he : putL ops (fun j => if j = i then v else f j) (fun i_1 => (listed.setIfInBounds i true).getD i_1 false) H a0 = putL ops (fun j => if j = i then v else f j) (fun j => listed.getD j false || j == i) H a0 :=
          putL_congr H a0 fun j _ => ⟨hgd j, fun _ => rfl⟩
        rw [he] at h
        exact h
      · have h := hob (fun v w' => Below w.heap.size w w' ∧ (V i).1 w' v) (fun v w' h1 h2 => ⟨h1, h2⟩)
        rw [wanted_agree hag]
        unfold stepV at h ⊢
        rw [execOp_congr oi (fun cs b => Region.noSelect_spec hsel i oi cs b hoi) (eval_agree hag)]
        exact h
  have h0 := core H.length H listed0 (fun _ => undef) w0 rfl hnd (fun i => ?_) inv0 (fun i hi hiH => ?_) (Below.refl _ _) (fun i hi hl => ?_)
  · have he : putL ops (fun _ => undef) (fun i => listed0.getD i false) H a0 = a0 := by
      have : ∀ (l : List Nat), (∀ i ∈ l, listed0.getD i false = false) → putL ops (fun _ => undef) (fun i => listed0.getD i false) l a0 = a0 := by
        intro l
        induction l with
        | nil => intro _; rfl
        | cons i l ih =>
          intro hl
          unfold putL
          simp only [hl i (by simp), Bool.false_eq_true, if_false]
          exact ih fun j hj => hl j (List.mem_cons_of_mem _ hj)
      exact this H fun i hi => (hH' i (hHn' i hi)).2 hi
    rw [he] at h0
    exact h0
  · exact ⟨fun h => ⟨h, (hH' i (hHn' i h)).2 h⟩, fun h => h.1⟩
  · cases hl : listed0.getD i false with
    | true => rfl
    | false => exact absurd ((hH' i hi).1 hl) hiH
  · rw [(hH' i (hHn' i hi)).2 hi] at hl
    cases hl


theorem wpAnyIn_growL {Q : Exit → Act → World → Prop} {l : List Oper} {listed0 : Array Bool} {a0 : Act} {w0 : World} {fuel : Nat} (n : Nat) (H : List Nat) (os : List Oper) (V : Nat → Wd)
    (hB : headB md l.toArray n H listed0 = true) (hD : noDefer l.toArray = true) (hf : fuel = H.length + (l.length - n))
    (hos : H.map (fun k => l[k]?) = os.map some) (obl : oblAll (Obl P md l.toArray H (fun f => putO f H os a0) V w0) H os)
    (fin : ∀ f w, Below w0.heap.size w0 w → (∀ i ∈ H, (V i).1 w (f i)) → wpListIn (Fence.wide.inRound ll) dn P l.toArray Q (l.drop n) (putO f H os a0) w) : wpAnyIn (Fence.wide.inRound ll) dn P md l.toArray Q fuel listed0 a0 w0 := by
  have hos' : H.map (fun k => l.toArray[k]?) = os.map some := by simpa using hos
  exact wpAnyIn_grow os V (fun f => putO f H os a0) hB hD (by simpa using hf) (fun f => putO_eq H os a0 hos') hos' obl (by simpa using fin)
end
end Go.Proofs.YtfahbdakhbpfcaaGreat
