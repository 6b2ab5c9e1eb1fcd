/-
  Seq: PLAIN LAW: a range over an iterator that says, of each value that it hands to a round, what lies behind it then; conditions: none.
-/
import Derived.Test.YtfahbdakhbpfcaaGreatM7
import Derived.RangeFuncNested
import Derived.RangeFuncBound
import Derived.RangeFuncCalls
import Derived.RangeFuncLeaves
import Derived.RangeFuncKeeps
import Derived.RangeFuncFrom
import Derived.Shelf.Abstract
import Derived.Shelf.RegionOpen
import Derived.OwnWalkIn
import Derived.TacticsInMore
import Derived.LoopNIn
import Derived.LoopIn
namespace Go.Proofs.YtfahbdakhbpfcaaGreat
open Go.RowKit Go.Shelf

/-- blocks of cells below B lie as they lay -/
structure KC (B : Nat) (w w' : World) : Prop where
  os : w'.os = w.os
  tape : w'.tape = w.tape
  output : w'.output = w.output
  size : w.heap.size ≤ w'.heap.size
  cells : ∀ k o, k < B → w.heap[k]? = some o → o.isCells = true → w'.heap[k]? = some o
theorem KC.refl (B : Nat) (w : World) : KC B w w := ⟨rfl, rfl, rfl, Nat.le_refl _, fun _ _ _ h _ => h⟩
theorem KC.trans {B : Nat} {a b c : World} (h : KC B a b) (k : KC B b c) : KC B a c :=
  ⟨k.os.trans h.os, k.tape.trans h.tape, k.output.trans h.output, Nat.le_trans h.size k.size, fun i o hi ho hc => k.cells i o hi (h.cells i o hi ho hc) hc⟩
theorem KC.mono {B B' : Nat} {a b : World} (h : KC B a b) (hB : B' ≤ B) : KC B' a b := ⟨h.os, h.tape, h.output, h.size, fun k _ hk => h.cells k _ (Nat.lt_of_lt_of_le hk hB)⟩
theorem KC.all {B : Nat} {a b : World} (h : KC a.heap.size a b) : KC B a b :=
  ⟨h.os, h.tape, h.output, h.size, fun k o _ ho hc => h.cells k o (Array.getElem?_eq_some_iff.1 ho).1 ho hc⟩
theorem KC.of_below {B : Nat} {a b : World} (h : Below B a b) : KC B a b := ⟨h.os, h.tape, h.output, h.size, fun k _ hk ho _ => (h.block k hk).trans ho⟩
theorem KC.of_grown {B : Nat} {a b : World} {row : Option Nat} (h : a.grownBy b row) (hr : ∀ r, row = some r → ∃ o : Obj, a.heap[r]? = some o ∧ o.isCells = false) : KC B a b := by
  refine ⟨h.os, h.tape, h.output, h.size, fun k o _ ho hc => ?_⟩
  have hk : k < a.heap.size := (Array.getElem?_eq_some_iff.1 ho).1
  refine (h.block k hk ?_).trans ho
  intro e
  obtain ⟨o', ho', hf⟩ := hr k e.symm
  rw [ho] at ho'
  cases ho'
  rw [hc] at hf
  cases hf
theorem KC.cell {B : Nat} {a b : World} {p : Addr} {v : Value} (h : KC B a b) (hp : p.block < B) (hv : a.cell? p = some v) : b.cell? p = some v := by
  obtain ⟨o, ho, hc⟩ := cells_of_cell hv
  have hb := h.cells _ o hp ho hc
  exact (World.cell?_of_block (w := a) (hb.trans ho.symm)).trans hv
theorem KC.frozen {B : Nat} {a b : World} {p : Addr} {v : Value} (h : KC B a b) (hp : p.block < B) (hv : a.cell? p = some v) : b.frozen? p = a.frozen? p := by
  obtain ⟨o, ho, hc⟩ := cells_of_cell hv
  have hb := h.cells _ o hp ho hc
  exact World.frozen?_of_block (w := a) (hb.trans ho.symm)
theorem KC.row {B : Nat} {a b : World} {g : Nat} {t : TypeId} {cs : Array Value} (h : KC B a b) (hg : g < B) (hr : Row a g t cs) : Row b g t cs := h.cells g _ hg hr rfl
theorem KC.has {a b : World} {v : Value} {xs : List Value} (h : KC a.heap.size a b) (hx : Has a v xs) : Has b v xs := by
  rcases hx with hx | ⟨p, c, rfl, hc, hx⟩
  · exact .inl hx
  · exact .inr ⟨p, c, rfl, hc, fun j u hu => h.cell (block_lt_of_cell (hx j u hu)) (hx j u hu)⟩
theorem kc_own (_B : Nat) (w : World) : Own (fun (_ : Unit) W => KC _B w W) := fun _ A C row hs hg hr => by
  refine hs.trans (KC.of_grown hg hr)
theorem own_abides {β : Type} {I : β → World → Prop} (h : Own I) (B : Nat) : AbidesFrom B I := fun s A C row hs hg hr => h s A C row hs hg fun r e => by
  obtain ⟨_, o, ho, hw⟩ := hr r e
  exact ⟨o, ho, Obj.not_cells_of_walk hw⟩
theorem abides_below {β : Type} {I : β → World → Prop} {B : Nat} (h : AbidesFrom B I) {s : β} {A C : World} (hs : I s A) (hb : Below A.heap.size A C) : I s C :=
  h s A C none hs ⟨hb.os, hb.tape, hb.output, hb.size, fun k hk _ => hb.block k hk⟩ (fun r e => by cases e)

/-- what an iterator does: it hands values on of each of which Ok holds in the world of its round; cells stay -/
def SeqOk {α : Type} (F : Fence) (n : Nat) (P : Program) (g : Nat) (lb : Array Value) (encs : α → Array Value) (Ok : World → α → Prop) (w : World) : Prop :=
  ∀ (l : Nat) (J Jx : Unit → World → Prop) (W : World), KC w.heap.size w W → AbidesFrom W.heap.size J → AbidesFrom W.heap.size Jx →
    (∀ x W1, KC W.heap.size W W1 → J () W1 → Ok W1 x → YieldAt F (n - 1) P l (encs x) W1 fun e W' =>
      (e = .returned (.bool true) ∧ J () W' ∧ KC W1.heap.size W1 W') ∨ (e = .returned (.bool false) ∧ Jx () W')) →
    J () W →
    CallsIn F n P g (#[.func (.yield l) #[] #[]] ++ lb) W fun e W' => (∃ v, e = .returned v) ∧ ((J () W' ∧ KC W.heap.size W W') ∨ Jx () W')

/-- how the body of a round may be left -/
def okPost (I : Unit → World → Prop) (Ix : Code → Unit → World → Prop) (W : World) : Exit → Act → World → Prop
  | .normal, _, W' => KeepsOthers W W' ∧ KC W.heap.size W W' ∧ I () W'
  | .ret, _, W' => KeepsOthers W W' ∧ Ix .ret () W'
  | .exit id, _, W' => KeepsOthers W W' ∧ Ix (.exit id) () W'
  | .goto t, _, W' => KeepsOthers W W' ∧ Ix (.goto t) () W'
  | .panic _, _, _ => False
  | .outgrown, _, _ => False

variable {F : Fence} {n : Nat} {P : Program}

theorem kc_put (W : World) (l : Nat) (o o' : Obj) (h : W.heap[l]? = some o) (hc : o.isCells = false) (B : Nat) : KC B W (W.putObj l o') :=
  KC.of_grown (grownBy_putObj' W l o') (fun r e => by cases e; exact ⟨o, h, hc⟩)

set_option maxHeartbeats 1000000 in
theorem wpIn_rangeFunc_ok {α : Type} {g : Operand} {ps : Array Tmp} {assign body : Code} {Q : Exit → Act → World → Prop} {a : Act} {w : World}
    (hro : F.round = none) (h1 : 1 ≤ n) {gf : Nat} {lb : Array Value} (hg : a.eval g = .func (.func gf) #[] lb) (hFg : F.fn gf) (eg : ∀ args w, (callFunc gf args).run P w = .ok (.enter gf args) w)
    {encs : α → Array Value} {Ok : World → α → Prop} {w0 : World} (hseq : SeqOk F (n - 1) P gf lb encs Ok w0)
    (hb0 : KC w0.heap.size w0 w) (hps : ∀ x, (encs x).size = ps.size)
    (hOk : ∀ (W W' : World) (x : α), KC W.heap.size W W' → Ok W x → Ok W' x)
    (I : Unit → World → Prop) (Ix : Code → Unit → World → Prop) (hI : OwnFrom w.heap.size I) (hIx : ∀ c, OwnFrom w.heap.size (Ix c)) (h0 : I () w) (Ax : α → Act → World → Prop) (hAx : ∀ x a', Own (fun (_ : Unit) W => Ax x a' W))
    (hassign : ∀ (l : Nat) (x : α) (W : World) (K : Act → World → Prop), KC w.heap.size w W → I () W → Ok W x →
      (∀ a' W', KC W.heap.size W W' → KeepsOthers W W' → I () W' → Ax x a' W' → K a' W') →
      assign.wpIn (F.inRound l) (n - 1 - 1) P (Exit.then K (fun _ _ _ => False)) { tmps := (ps.zip (encs x)).foldl (fun t (p, v) => t.setIfInBounds p v) a.tmps, defers := [] } W)
    (hbody : ∀ (l : Nat) (x : α) (a' : Act) (W : World), KC w.heap.size w W → I () W → Ok W x → Ax x a' W → body.wpIn (F.inRound l) (n - 1 - 1) P (okPost I Ix W) a' W)
    (hdone : ∀ (D : Nat) (W : World), w.heap.size ≤ D → KC w.heap.size w W → I () W → W.heap[D]? = some (.deferred (some [])) → Q .normal { a with defers := { target := .collected D, args := #[] } :: a.defers } W)
    (hstop : ∀ (D : Nat) (c : Code) (W : World), w.heap.size ≤ D → Ix c () W → W.heap[D]? = some (.deferred (some [])) → c.wpIn F n P Q { a with defers := { target := .collected D, args := #[] } :: a.defers } W) :
    (Code.rangeFunc g ps assign body).wpIn F n P Q a w := by
  refine wpIn_rangeFunc ?_
  intro fn hfn
  rw [hro]
  obtain ⟨rec, hrec⟩ : ∃ rec : LoopState → Option Code → Loop, rec = fun st pe => { state := st, pending := pe, fn, tmps := a.tmps, params := ps, assign, body, defers := w.heap.size } := ⟨_, rfl⟩
  obtain ⟨W1, hW1⟩ : ∃ W1, (w.alloc (.deferred (some []))).alloc (.loop (rec .ready none)) = W1 := ⟨_, rfl⟩
  have hL1 : W1.heap[w.heap.size + 1]? = some (.loop (rec .ready none)) := by
    rw [← hW1]; have := World.alloc_heap_new (w.alloc (.deferred (some []))) (.loop (rec .ready none)); rwa [World.size_alloc] at this
  have hK1 : W1.heap[w.heap.size]? = some (.deferred (some [])) := by
    rw [← hW1]; exact (Below.heap_alloc _ _ _ (by simp)).trans (World.alloc_heap_new w _)
  have hI1 : I () W1 := by rw [← hW1]; exact hI.alloc _ (hI.alloc _ h0)
  have hsz1 : W1.heap.size = w.heap.size + 2 := by rw [← hW1]; simp
  have hw1 : KC w.heap.size w W1 := by
    rw [← hW1]; exact KC.of_below ((((Below.refl _ w).alloc (Nat.le_refl _) _).alloc (by simp) _))
  have hb1 : KC w0.heap.size w0 W1 := hb0.trans hw1.all
  refine ⟨w.heap.size + 1, [{ target := .collected w.heap.size, args := #[] }], W1, { target := .fn (.func gf) lb, args := #[.func (.yield (w.heap.size + 1)) #[] #[]] }, W1, gf,
    #[.func (.yield (w.heap.size + 1)) #[] #[]] ++ lb, W1, ?_, ?_, ?_, ?_, fun _ => h1, ?_⟩
  · rw [← hW1, hrec]; exact run_enterLoop_outer _ _ _ _ _
  · simp only [resolve, hg]
    simp [go_sem]
  · intro f' hf'; simp [Target.leads] at hf'; subst hf'; exact hFg
  · simp [invoke, go_sem, eg]
  · have hnw : ∀ {A B : World} {row : Option Nat}, (∀ r, row = some r → W1.heap.size ≤ r ∧ ∃ o : Obj, A.heap[r]? = some o ∧ o.isWalk = true) → (∀ r, row = some r → w.heap.size ≤ r ∧ ∃ o : Obj, A.heap[r]? = some o ∧ o.isCells = false) :=
      fun hr r e => by obtain ⟨hB, o, ho, hw⟩ := hr r e; exact ⟨by omega, o, ho, Obj.not_cells_of_walk hw⟩
    refine (hseq (w.heap.size + 1)
      (fun _ W => I () W ∧ W.heap[w.heap.size + 1]? = some (.loop (rec .ready none)) ∧ W.heap[w.heap.size]? = some (.deferred (some [])))
      (fun _ W => ∃ c, Ix c () W ∧ W.heap[w.heap.size + 1]? = some (.loop (rec .done (some c))) ∧ W.heap[w.heap.size]? = some (.deferred (some [])))
      W1 hb1
      (fun s A B row hs hg' hr => ⟨hI () A B row hs.1 hg' (hnw (B := B) hr), (grownBy_keeps hg' (fun r e => (hr r e).2) hs.2.1 rfl).trans hs.2.1, (grownBy_keeps hg' (fun r e => (hr r e).2) hs.2.2 rfl).trans hs.2.2⟩)
      (fun s A B row hs hg' hr => by
        obtain ⟨c, hc, hl, hk⟩ := hs
        exact ⟨c, hIx c () A B row hc hg' (hnw (B := B) hr), (grownBy_keeps hg' (fun r e => (hr r e).2) hl rfl).trans hl, (grownBy_keeps hg' (fun r e => (hr r e).2) hk rfl).trans hk⟩)
      ?_ ⟨hI1, hL1, hK1⟩).mono ?_
    · -- one round
      rintro x W hkW ⟨hi, hl, hk⟩ hok
      have hy := run_yield (P := P) (args := encs x) hl (by rw [hrec]; exact hps x)
      rw [hrec] at hy
      refine ⟨fn, _, assign, body, hy, roundIn_of_wpIn hfn (hassign _ x W _ (hw1.trans hkW.all) hi hok ?_)⟩
      intro a' Wa hka hoa hia hax
      have hl := hoa.same _ _ hl rfl
      have hk := hoa.same _ _ hk rfl
      have hok := hOk _ _ _ hka hok
      refine ⟨_, run_beginRound hl (by rw [hrec]), ?_⟩
      have hlt : w.heap.size + 1 < Wa.heap.size := (Array.getElem?_eq_some_iff.1 hl).1
      have hl2 : (Wa.putObj (w.heap.size + 1) (.loop { rec .ready none with state := .busy })).heap[w.heap.size + 1]? = some (.loop { rec .ready none with state := .busy }) := World.putObj_heap_same hlt
      have hk2 : (Wa.putObj (w.heap.size + 1) (.loop { rec .ready none with state := .busy })).heap[w.heap.size]? = some (.deferred (some [])) := (World.putObj_heap_other (by omega)).trans hk
      have hw2' : KC Wa.heap.size Wa (Wa.putObj (w.heap.size + 1) (.loop { rec .ready none with state := .busy })) := kc_put Wa _ _ _ hl rfl _
      have hw2 : KC W.heap.size W (Wa.putObj (w.heap.size + 1) (.loop { rec .ready none with state := .busy })) := hka.trans hw2'.all
      refine wpIn_mono (hbody _ x a' _ ((hw1.trans hkW.all).trans hw2.all) (hI.putObj _ hia (by omega) hl rfl) (hOk _ _ _ hw2' hok) ((hAx x a').putObj (s := ()) _ hax hl rfl)) ?_
      have fin : ∀ (jump : Option Code) (W3 : World), KeepsOthers (Wa.putObj (w.heap.size + 1) (.loop { rec .ready none with state := .busy })) W3 →
          (Instr.endRound (w.heap.size + 1) jump).run P W3 = .ok (.bool jump.isNone) (W3.putObj (w.heap.size + 1) (.loop (rec (if jump.isNone then .ready else .done) jump))) ∧
          W3.heap[w.heap.size + 1]? = some (.loop { rec .ready none with state := .busy }) ∧
          (W3.putObj (w.heap.size + 1) (.loop (rec (if jump.isNone then .ready else .done) jump))).heap[w.heap.size + 1]? = some (.loop (rec (if jump.isNone then .ready else .done) jump)) ∧
          (W3.putObj (w.heap.size + 1) (.loop (rec (if jump.isNone then .ready else .done) jump))).heap[w.heap.size]? = some (.deferred (some [])) := fun jump W3 hk3 => by
        have hl3 := hk3.same _ _ hl2 rfl
        have := run_endRound (P := P) jump hl3
        rw [hrec] at this ⊢
        exact ⟨this, by rw [hrec] at hl3; exact hl3, World.putObj_heap_same (Array.getElem?_eq_some_iff.1 hl3).1, (World.putObj_heap_other (by omega)).trans (hk3.same _ _ hk2 rfl)⟩
      rintro e a3 W3 hp
      cases e with
      | normal =>
        obtain ⟨hk3, hkp3, hi3⟩ := hp
        obtain ⟨hr, hl3, hl4, hk4⟩ := fin none W3 hk3
        exact ⟨_, _, hr, .inl ⟨rfl, ⟨hI.putObj _ hi3 (by omega) hl3 rfl, hl4, hk4⟩, (hw2.trans (hkp3.mono hw2.size)).trans (kc_put W3 _ _ _ hl3 rfl _)⟩⟩
      | ret =>
        obtain ⟨hk3, hi3⟩ := hp
        obtain ⟨hr, hl3, hl4, hk4⟩ := fin (some .ret) W3 hk3
        exact ⟨_, _, hr, .inr ⟨rfl, .ret, (hIx _).putObj _ hi3 (by omega) hl3 rfl, hl4, hk4⟩⟩
      | exit id =>
        obtain ⟨hk3, hi3⟩ := hp
        obtain ⟨hr, hl3, hl4, hk4⟩ := fin (some (.exit id)) W3 hk3
        exact ⟨_, _, hr, .inr ⟨rfl, .exit id, (hIx _).putObj _ hi3 (by omega) hl3 rfl, hl4, hk4⟩⟩
      | goto t =>
        obtain ⟨hk3, hi3⟩ := hp
        obtain ⟨hr, hl3, hl4, hk4⟩ := fin (some (.goto t)) W3 hk3
        exact ⟨_, _, hr, .inr ⟨rfl, .goto t, (hIx _).putObj _ hi3 (by omega) hl3 rfl, hl4, hk4⟩⟩
      | panic ch => exact hp.elim
      | outgrown => exact hp.elim
    · -- behind the iterator
      rintro e W2 ⟨⟨v, rfl⟩, (⟨⟨hi, hl, hk⟩, hkc⟩ | ⟨c, hi, hl, hk⟩)⟩
      · exact ⟨none, _, by have := run_endLoop (P := P) hl (by rw [hrec]; simp); rw [hrec] at this; exact this, hdone _ _ (Nat.le_refl _) ((hw1.trans hkc.all).trans (kc_put W2 _ _ _ hl rfl _)) (hI.putObj _ hi (by omega) hl rfl) ((World.putObj_heap_other (by omega)).trans hk)⟩
      · exact ⟨some c, _, by have := run_endLoop (P := P) hl (by rw [hrec]; simp); rw [hrec] at this; exact this, hstop _ c _ (Nat.le_refl _) ((hIx c).putObj _ hi (by omega) hl rfl) ((World.putObj_heap_other (by omega)).trans hk)⟩

theorem room_of_none {F : Fence} (hd : F.depth = none) (k : Nat) : F.room k := fun d h => by rw [hd] at h; cases h
theorem RoundIn.anyDepth {F : Fence} (hd : F.depth = none) {m m' : Nat} {P : Program} {l : Nat} {f : FuncId} {tmps : Array Value} {assign body : Code} {w : World} {R : Ending → World → Prop}
    (h : RoundIn F m P l f tmps assign body w R) : RoundIn F m' P l f tmps assign body w R := ⟨h.1, fun c cs _ => h.2 c cs (room_of_none hd _)⟩
theorem YieldAt.anyDepth {F : Fence} (hd : F.depth = none) {m : Nat} (m' : Nat) {P : Program} {l : Nat} {args : Array Value} {W : World} {R : Ending → World → Prop} (h : YieldAt F m P l args W R) : YieldAt F m' P l args W R := by
  obtain ⟨fn, tmps, assign, body, hy, hR⟩ := h
  exact ⟨fn, tmps, assign, body, hy, RoundIn.anyDepth hd hR⟩
end Go.Proofs.YtfahbdakhbpfcaaGreat
