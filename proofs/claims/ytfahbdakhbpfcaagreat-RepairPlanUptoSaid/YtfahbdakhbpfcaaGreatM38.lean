/-
  TryI: PLAIN LAW: what a range over ring.Round keeps while it fills a try's servers; conditions: none.
-/
import Derived.Test.YtfahbdakhbpfcaaGreatM37
namespace Go.Proofs.YtfahbdakhbpfcaaGreat
open Go.RowKit Go.Shelf Go.Maps

def TryI (wR : World) (bt : Nat) (k : Int) (bad : List (Int × Int)) (pre : List (Int × Int)) (W : World) : Prop :=
  wR.grownBy W (some bt) ∧ ∃ p n c, Row W bt 40 #[.int .i64 k, .slice p n c] ∧
    W.ownsRow wR.heap.size 3 1 (.slice p n c) (selS bad k (pre.map (·.2))).length (ints (selS bad k (pre.map (·.2))))
theorem grown_from {a b c : World} {bt : Nat} {row : Option Nat} (h : a.grownBy b (some bt)) (hg : b.grownBy c row) (hr : ∀ r, row = some r → a.heap.size ≤ r ∨ r = bt) : a.grownBy c (some bt) := by
  refine ⟨hg.os.trans h.os, hg.tape.trans h.tape, hg.output.trans h.output, Nat.le_trans h.size hg.size, fun k hk hne => ?_⟩
  refine (hg.block k (Nat.lt_of_lt_of_le hk h.size) ?_).trans (h.block k hk hne)
  intro e
  rcases hr k e.symm with h1 | h1
  · omega
  · exact hne (by rw [h1])
theorem owns_grown {w w' : World} {base n : Nat} {e : TypeId} {size : Nat} {v : Value} {xs : List Value} {row : Option Nat} (h : w.ownsRow base e size v n xs) (hg : w.grownBy w' row)
    (hr : ∀ r, row = some r → v.ownBlock ≠ some r) : w'.ownsRow base e size v n xs := by
  refine ⟨h.1, ?_⟩
  rcases h.2 with h0 | ⟨g, cap, cur, rfl, hb, hw, hrest⟩
  · exact .inl h0
  · refine .inr ⟨g, cap, cur, rfl, hb, (hg.block g (Array.getElem?_eq_some_iff.1 hw).1 fun e => ?_).trans hw, hrest⟩
    exact hr g e.symm rfl
theorem row_grown {w w' : World} {b : Nat} {t : TypeId} {cs : Array Value} {row : Option Nat} (h : Row w b t cs) (hg : w.grownBy w' row) (hr : row ≠ some b) : Row w' b t cs :=
  (hg.block b h.lt fun e => hr e.symm).trans h
theorem owns_other {w w' : World} {b1 b2 n m : Nat} {e1 e2 : TypeId} {z1 z2 : Nat} {v u : Value} {xs ys : List Value} (h : w.ownsRow b1 e1 z1 v n xs) (h' : w.ownsRow b2 e2 z2 u m ys) (hne : e1 ≠ e2) (hg : w.grownBy w' u.ownBlock) : w'.ownsRow b1 e1 z1 v n xs := by
  refine owns_grown h hg fun r hr hv => ?_
  rcases h.2 with ⟨rfl, _⟩ | ⟨g, cap, cur, rfl, _, hw, _⟩
  · cases hv
  · rcases h'.2 with ⟨rfl, _⟩ | ⟨g', cap', cur', rfl, _, hw', _⟩
    · cases hr
    · cases hv
      cases hr
      rw [hw] at hw'
      cases hw'
      exact hne rfl
theorem kp_below {bt : Nat} {A B : World} (hb : Below A.heap.size A B) (h : bt < A.heap.size) : Kp bt A B := by
  refine ⟨hb.size, fun k _ hk _ _ _ => (hb.block k (Array.getElem?_eq_some_iff.1 hk).1).trans hk, .inl ?_⟩
  unfold srv
  rw [World.cell?_of_block (hb.block bt h)]
theorem keeps_below {A B : World} (hb : Below A.heap.size A B) : KeepsOthers A B := ⟨hb.size, fun k _ hk _ => (hb.block k (Array.getElem?_eq_some_iff.1 hk).1).trans hk⟩
theorem below_grown {A B : World} (hb : Below A.heap.size A B) : A.grownBy B none := ⟨hb.os, hb.tape, hb.output, hb.size, fun k hk _ => hb.block k hk⟩

theorem tryI_own {wR : World} {bt : Nat} (hbt : bt < wR.heap.size) (k : Int) (bad : List (Int × Int)) : OwnFrom wR.heap.size (TryI wR bt k bad) := by
  rintro pre A B row ⟨hg, p, n, c, hr, ho⟩ hgr hrow
  refine ⟨grown_from hg hgr fun r e => .inl (hrow r e).1, p, n, c, row_grown hr hgr fun e => ?_, owns_grown ho hgr fun r e hv => ?_⟩
  · have := (hrow bt e).1
    omega
  · obtain ⟨o, ho', hc⟩ := (hrow r e).2
    rcases ho.2 with ⟨h0, _⟩ | ⟨g, cap, cur, h0, _, hw, _⟩
    · rw [h0] at hv; cases hv
    · rw [h0] at hv
      cases hv
      rw [hw] at ho'
      cases ho'
      cases hc
theorem selS_in {bad : List (Int × Int)} {i : Int} {l : List Int} {x : Int} (h : (x, i) ∈ bad) : selS bad i (l ++ [x]) = selS bad i l := by simp [selS, List.filter_append, h]
theorem selS_out {bad : List (Int × Int)} {i : Int} {l : List Int} {x : Int} (h : (x, i) ∉ bad) : selS bad i (l ++ [x]) = selS bad i l ++ [x] := by simp [selS, List.filter_append, h]
theorem tryI_keep {wR W W' : World} {bt : Nat} {k : Int} {bad pre : List (Int × Int)} {x : Int × Int} (hbt : bt < wR.heap.size) (h : TryI wR bt k bad pre W) (hb : Below W.heap.size W W') (hx : (x.2, k) ∈ bad) :
    KeepsOthers W W' ∧ Kp bt W W' ∧ TryI wR bt k bad (pre ++ [x]) W' := by
  obtain ⟨hg, p, n, c, hr, ho⟩ := h
  refine ⟨keeps_below hb, kp_below hb (Nat.lt_of_lt_of_le hbt hg.size), grown_from hg (below_grown hb) (fun r e => by cases e), p, n, c, hr.below hb hr.lt, ?_⟩
  rw [List.map_append, List.map_cons, List.map_nil, selS_in hx]
  exact owns_below ho hb (Nat.le_refl _)
/-- a server appended, and the try's second cell written -/
theorem tryI_add {wR W w1 w2 : World} {bt : Nat} {k : Int} {bad pre : List (Int × Int)} {x : Int × Int} (hbt : bt < wR.heap.size) {p : Option Addr} {n c : Nat} (hg : wR.grownBy W (some bt))
    (hr : Row W bt 40 #[.int .i64 k, .slice p n c]) (ho : W.ownsRow wR.heap.size 3 1 (.slice p n c) (selS bad k (pre.map (·.2))).length (ints (selS bad k (pre.map (·.2)))))
    (hb : Below W.heap.size W w1) (hx : (x.2, k) ∉ bad) {v' : Value}
    (h2 : w2.ownsRow wR.heap.size 3 1 v' ((selS bad k (pre.map (·.2))).length + 1) (ints (selS bad k (pre.map (·.2))) ++ [.int .i64 x.2]))
    (h3 : (v'.ownBlock = (Value.slice p n c).ownBlock ∧ w1.grownBy w2 (Value.slice p n c).ownBlock) ∨ (w2.ownsRow w1.heap.size 3 1 v' ((selS bad k (pre.map (·.2))).length + 1) (ints (selS bad k (pre.map (·.2))) ++ [.int .i64 x.2]) ∧ w1.grownBy w2 none)) :
    KeepsOthers W (w2.putObj bt (.cells #[.int .i64 k, v'] 40)) ∧ Kp bt W (w2.putObj bt (.cells #[.int .i64 k, v'] 40)) ∧ TryI wR bt k bad (pre ++ [x]) (w2.putObj bt (.cells #[.int .i64 k, v'] 40)) := by
  have hbtW : bt < W.heap.size := Nat.lt_of_lt_of_le hbt hg.size
  have hb12 : ∃ row, w1.grownBy w2 row ∧ ∀ q, row = some q → (Value.slice p n c).ownBlock = some q := by
    rcases h3 with ⟨_, h⟩ | ⟨_, h⟩
    · exact ⟨_, h, fun q hq => hq⟩
    · exact ⟨_, h, fun q hq => by cases hq⟩
  obtain ⟨row, hg2, hrow⟩ := hb12
  have hs1 := hb.size
  have hs2 := hg2.size
  have hsrv : srv bt W = (Value.slice p n c).ownBlock := by
    unfold srv
    rw [hr.cell 1]
    rfl
  have key : ∀ q, q < W.heap.size → q ≠ bt → (Value.slice p n c).ownBlock ≠ some q → (w2.putObj bt (.cells #[.int .i64 k, v'] 40)).heap[q]? = W.heap[q]? := fun q hq h1 h4 =>
    (World.putObj_heap_other h1).trans ((hg2.block q (by omega) fun e => h4 (hrow q e.symm)).trans (hb.block q hq))
  have hown : ∀ q, (Value.slice p n c).ownBlock = some q → wR.heap.size ≤ q := fun q hq => (ho.lt q hq).1
  have hcell : ∀ q, (Value.slice p n c).ownBlock = some q → ∃ o : Obj, W.heap[q]? = some o ∧ o.isCells = true := by
    intro q hq
    rcases ho.2 with ⟨h0, _⟩ | ⟨g, cap, cur, h0, _, hw, _⟩
    · rw [h0] at hq; cases hq
    · rw [h0] at hq
      cases hq
      exact ⟨_, hw, rfl⟩
  have hput : Row (w2.putObj bt (.cells #[.int .i64 k, v'] 40)) bt 40 #[.int .i64 k, v'] := by
    have : bt < w2.heap.size := by omega
    unfold Row
    simp [World.putObj, this]
  have hsz : (w2.putObj bt (.cells #[.int .i64 k, v'] 40)).heap.size = w2.heap.size := by simp [World.putObj]
  refine ⟨⟨by omega, fun q o hq hc => ?_⟩, ⟨by omega, fun q o hq _ h1 h4 => ?_, ?_⟩, ⟨?_, ?_, ?_, by have := hg.size; omega, fun q hq hne => ?_⟩, ?_⟩
  · refine (key q (Array.getElem?_eq_some_iff.1 hq).1 ?_ ?_).trans hq
    · rintro rfl
      have hrr : W.heap[q]? = _ := hr
      rw [hq] at hrr
      cases hrr
      cases hc
    · intro h5
      obtain ⟨o', h6, h7⟩ := hcell q h5
      rw [hq] at h6
      cases h6
      rw [hc] at h7
      cases h7
  · exact (key q (Array.getElem?_eq_some_iff.1 hq).1 h1 (hsrv ▸ h4)).trans hq
  · have hs' : srv bt (w2.putObj bt (.cells #[.int .i64 k, v'] 40)) = v'.ownBlock := by
      unfold srv
      rw [hput.cell 1]
      rfl
    rw [hs', hsrv]
    rcases h3 with ⟨h, _⟩ | ⟨h, _⟩
    · exact .inl h
    · exact .inr fun q hq => Nat.le_trans hs1 (h.lt q hq).1
  · exact hg2.os.trans (hb.os.trans hg.os)
  · exact hg2.tape.trans (hb.tape.trans hg.tape)
  · exact hg2.output.trans (hb.output.trans hg.output)
  · refine (key q (Nat.lt_of_lt_of_le hq hg.size) (fun e => hne (by rw [e])) fun h5 => ?_).trans (hg.block q hq hne)
    have := hown q h5
    omega
  · have hlit : ∃ p' n' c', v' = .slice p' n' c' := by
      rcases h2.2 with ⟨h0, _⟩ | ⟨g, cap, cur, h0, _⟩
      · exact ⟨_, _, _, h0⟩
      · exact ⟨_, _, _, h0⟩
    obtain ⟨p', n', c', rfl⟩ := hlit
    refine ⟨p', n', c', hput, ?_⟩
    rw [List.map_append, List.map_cons, List.map_nil, selS_out hx, List.length_append, ints, List.map_append]
    refine owns_grown h2 (grownBy_putObj' w2 bt _) fun q hq hv => ?_
    cases hq
    have := (h2.lt bt hv).1
    omega
theorem setCell_put {w : World} {b : Nat} {t : TypeId} {cs : Array Value} (h : Row w b t cs) (i : Nat) (v : Value) : w.setCell ⟨b, i, none⟩ v = w.putObj b (.cells (cs.setIfInBounds i v) t) := by
  have hr : w.heap[b]? = some (.cells cs t (0, 0)) := h
  have hlt := h.lt
  unfold World.setCell World.putObj
  congr 1
  apply Array.ext_getElem?
  intro k
  rw [Array.getElem?_modify, Array.getElem?_setIfInBounds]
  by_cases hk : b = k
  · subst hk
    rw [if_pos rfl, if_pos rfl, if_pos hlt, hr]
    rfl
  · rw [if_neg hk, if_neg hk]
theorem planK_len (L : List UInt8) (s : Nat) (good bad : List (Int × Int)) (k : Nat) : (planK L s good bad k).length ≤ k := by
  unfold planK
  exact Nat.le_trans (List.length_filterMap_le _ _) (by simp)
theorem obj_grown {w w' : World} {base n : Nat} {e : TypeId} {size : Nat} {v : Value} {xs : List Value} {D : Nat} {o : Obj} (h : w.heap[D]? = some o) (ho : o.isCells = false) (h' : w.ownsRow base e size v n xs) (hg : w.grownBy w' v.ownBlock) : w'.heap[D]? = some o := by
  refine (hg.block D (Array.getElem?_eq_some_iff.1 h).1 fun e => ?_).trans h
  rcases h'.2 with ⟨rfl, _⟩ | ⟨g, cap, cur, rfl, _, hw, _⟩
  · cases e
  · cases e
    rw [h] at hw
    cases hw
    cases ho
theorem OwnT.lt {w : World} {base : Nat} {T : List Tr} (h : OwnT w base T) : ∀ y ∈ T, ∀ b, y.2.1.ownBlock = some b → b < w.heap.size := fun y hy b hb => by
  obtain ⟨i, hi⟩ := List.mem_iff_getElem?.1 hy
  exact ((h.1 i y hi).lt b hb).2
theorem try_info : (Tryz.prog.info? 40).map (fun i => (i.zero, i.size, i.bytes)) = some (some (.agg #[.int .i64 0, .slice none 0 0]), 2, 32) := by kernel_rfl
theorem try_size : (Tryz.prog.info? 40).map (·.size) = some 2 := by kernel_rfl
end Go.Proofs.YtfahbdakhbpfcaaGreat
