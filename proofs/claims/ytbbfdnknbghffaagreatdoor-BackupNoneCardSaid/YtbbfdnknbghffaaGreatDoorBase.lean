/- PLAIN LAW on memory: blocks of cells known whole, in worlds with new blocks, stores, draws; conditions: none. -/
import Derived.WalkKit
import Derived.ProofKit
import Derived.OpenShut
import Derived.WalkLawsBesides
import Derived.WalkSpells
import Derived.BigQuiet
import Derived.Deep.QuietTactic
import Derived.Deep.RegionWith
import Derived.Deep.WholeRow
import Derived.Handy
import Derived.Lib.Hide
import Derived.Laws.AppendOwnNone
namespace Go.Proofs.YtbbfdnknbghffaaGreatDoor
open Go.RowKit

/-- block b holds just these cells, none frozen -/
def Row (w : World) (b : Nat) (t : TypeId) (cs : Array Value) : Prop := w.heap[b]? = some (.cells cs t (0, 0))

theorem Row.new (w : World) (t : TypeId) (cs : Array Value) : Row (w.alloc (.cells cs t)) w.heap.size t cs := heap_alloc_new w _
theorem Row.lt {w : World} {b : Nat} {t : TypeId} {cs : Array Value} (h : Row w b t cs) : b < w.heap.size := by
  by_cases hlt : b < w.heap.size
  · exact hlt
  · have hn : w.heap[b]? = none := by simp; omega
    unfold Row at h
    rw [hn] at h
    cases h
theorem Row.alloc {w : World} {b : Nat} {t : TypeId} {cs : Array Value} (h : Row w b t cs) (o : Obj) : Row (w.alloc o) b t cs :=
  (Below.heap_alloc w o b h.lt).trans h
theorem Row.drew {w : World} {b : Nat} {t : TypeId} {cs : Array Value} (h : Row w b t cs) : Row w.drew b t cs := h
theorem Row.drewN {w : World} {b : Nat} {t : TypeId} {cs : Array Value} (h : Row w b t cs) (n : Nat) : Row (w.drewN n) b t cs := h
theorem Row.store {w : World} {b : Nat} {t : TypeId} {cs : Array Value} (h : Row w b t cs) (i : Nat) (v : Value) : Row (w.setCell ⟨b, i, none⟩ v) b t (cs.setIfInBounds i v) :=
  heap_setCell_same w b i cs t v h
theorem Row.other {w : World} {b : Nat} {t : TypeId} {cs : Array Value} (h : Row w b t cs) (a : Addr) (v : Value) (hne : b ≠ a.block) : Row (w.setCell a v) b t cs :=
  (heap_setCell_other w a b v hne).trans h
theorem Row.below {w w' : World} {b B : Nat} {t : TypeId} {cs : Array Value} (h : Row w b t cs) (hb : Below B w w') (hlt : b < B) : Row w' b t cs :=
  (hb.block b hlt).trans h
theorem Row.cell {w : World} {b : Nat} {t : TypeId} {cs : Array Value} (h : Row w b t cs) (i : Nat) : w.cell? ⟨b, i, none⟩ = cs[i]? := cell_of_row w b i cs t (0, 0) h
theorem Row.frozen {w : World} {b : Nat} {t : TypeId} {cs : Array Value} (h : Row w b t cs) (i : Nat) : w.frozen? ⟨b, i, none⟩ = false := frozen_of_row w b i cs t h

theorem cell_al {w : World} {a : Addr} {v : Value} (o : Obj) (h : w.cell? a = some v) : (w.alloc o).cell? a = some v :=
  (World.cell?_of_block (w := w) (Below.heap_alloc w o a.block (block_lt_of_cell h))).trans h
theorem frozen_al {w : World} {a : Addr} (o : Obj) (hl : a.block < w.heap.size) : (w.alloc o).frozen? a = w.frozen? a :=
  World.frozen?_of_block (w := w) (Below.heap_alloc w o a.block hl)
theorem bcell {W w1 : World} (hb : Below W.heap.size W w1) : (∀ b o, b < W.heap.size → w1.cell? ⟨b, o, none⟩ = W.cell? ⟨b, o, none⟩) ∧ (∀ b o, b < W.heap.size → w1.frozen? ⟨b, o, none⟩ = W.frozen? ⟨b, o, none⟩) :=
  ⟨fun b o h => hb.cell (p := ⟨b, o, none⟩) h, fun b o h => hb.frozen (p := ⟨b, o, none⟩) h⟩

theorem Row.setRow {w : World} {b : Nat} {t : TypeId} {cs : Array Value} (h : Row w b t cs) (cs' : Array Value) : Row (w.setRow b cs') b t cs' := setRow_heap w b cs cs' t (0, 0) h
theorem Row.setRow_other {w : World} {b g : Nat} {t : TypeId} {cs : Array Value} (h : Row w b t cs) (cs' : Array Value) (hne : b ≠ g) : Row (w.setRow g cs') b t cs :=
  (Go.setRow_other w g b cs' hne).trans h
theorem below_setRow {B : Nat} {a w : World} (h : Below B a w) {b : Nat} (hb : B ≤ b) (cs : Array Value) : Below B a (w.setRow b cs) :=
  h.trans ⟨rfl, rfl, rfl, by simp, fun k hk => Go.setRow_other w b k cs (by omega)⟩
theorem run_storeCells_row {P : Program} {w : World} {b : Nat} {t : TypeId} {cs : Array Value} (cs' : Array Value) (h : Row w b t cs) (hi : (P.info? t).map (·.size) = some cs'.size)
    (ho : cs.size = cs'.size) (h1 : cs'.all (·.oneCell') = true) : (storeCells ⟨b, 0, none⟩ cs'.toList).run P w = .ok () (w.setRow b cs') := by
  have := run_storeVar_row (P := P) w b t t cs cs' h hi ho h1
  cases hq : P.info? t with
  | none => simp [hq] at hi
  | some i =>
    have hs : cs'.size = i.size := by simp [hq] at hi; omega
    simpa [storeVar, sizeOf, typeInfo, hq, Value.cells, hs] using this
theorem results_row_tmp {P : Program} {fn : Func} {p q : Tmp} {ty : TypeId} (h : fn.results = #[.cell p ty, .tmp q]) (tmps : Array Value) (w : World) (b : Nat) (t : TypeId) (cs : Array Value) (d : TypeDesc)
    (hp : tmps.getD p undef = .pointer (some ⟨b, 0, none⟩)) (hg : Row w b t cs)
    (hu : P.underlying ty = some d) (hd : (match d with | .struct _ | .array _ _ => true | _ => false) = true) (hi : (P.info? ty).map (·.size) = some cs.size) :
    (results fn tmps).run P w = .ok (.tuple #[.agg cs, tmps.getD q undef]) w := by
  have hp' : tmps[p]?.getD undef = .pointer (some ⟨b, 0, none⟩) := by simpa using hp
  simp [results, h, hp', asAddr, run_loadVar_row w b t ty cs (0, 0) d hg hu hd hi]

/-- v is a slice of just these one-cell values (nil: of none) -/
def Has (w : World) (v : Value) (xs : List Value) : Prop :=
  (v = .slice none 0 0 ∧ xs = []) ∨ ∃ a c, v = .slice (some a) xs.length c ∧ xs.length ≤ c ∧ ∀ (j : Nat) u, xs[j]? = some u → w.cell? (a.add j) = some u
theorem Has.nil (w : World) : Has w (.slice none 0 0) [] := .inl ⟨rfl, rfl⟩
theorem Has.below {w w' : World} {B : Nat} {v : Value} {xs : List Value} (h : Has w v xs) (hb : Below B w w') (hB : ∀ k, v.ownBlock = some k → k < B) : Has w' v xs := by
  rcases h with h | ⟨a, c, rfl, hc, h⟩
  · exact .inl h
  · refine .inr ⟨a, c, rfl, hc, fun j u hu => ?_⟩
    have e : (a.add j).block = a.block := by unfold Addr.add; split <;> rfl
    rw [hb.cell (by rw [e]; exact hB _ rfl)]
    exact h j u hu
theorem Has.lt {w : World} {v : Value} {xs : List Value} (h : Has w v xs) (hne : xs ≠ []) : ∀ k, v.ownBlock = some k → k < w.heap.size := by
  rcases h with ⟨rfl, h⟩ | ⟨a, c, rfl, hc, h⟩
  · exact absurd h hne
  · intro k hk
    simp only [Value.ownBlock, Option.some.injEq] at hk
    subst hk
    cases xs with
    | nil => exact absurd rfl hne
    | cons x r =>
      have := block_lt_of_cell (h 0 x rfl)
      have e : (a.add 0).block = a.block := by unfold Addr.add; split <;> rfl
      rwa [e] at this
/-- what was there when B blocks were stays, where nothing below B is written -/
theorem Has.later {w w' : World} {v : Value} {xs : List Value} (h : Has w v xs) (hb : Below w.heap.size w w') : Has w' v xs := by
  by_cases hx : xs = []
  · subst hx
    rcases h with h | ⟨a, c, rfl, hc, h⟩
    · exact .inl h
    · exact .inr ⟨a, c, rfl, hc, fun j u hu => by simp at hu⟩
  · exact h.below hb (h.lt hx)
theorem Has.of_owns {w : World} {base n : Nat} {e : TypeId} {v : Value} {xs : List Value} (h : w.ownsRow base e 1 v n xs) : Has w v xs := by
  have hl : xs.length = n := by have := h.1; omega
  rcases h.2 with ⟨rfl, hn⟩ | ⟨g, cap, cur, rfl, hb, hg, hcap, _⟩
  · left
    refine ⟨rfl, ?_⟩
    cases xs with
    | nil => rfl
    | cons x r => simp at hl; omega
  · exact .inr ⟨_, cap, by rw [hl], by omega, h.cells rfl⟩

theorem Has.drewN {w : World} {v : Value} {xs : List Value} (h : Has w v xs) (n : Nat) : Has (w.drewN n) v xs := h
theorem below_drewN {B : Nat} {a w : World} (h : Below B a w) (n : Nat) : Below B a (w.drewN n) := ⟨h.os, h.tape, h.output, h.size, h.block⟩
theorem quiet_same {P : Program} {f : FuncId} {args : Array Value} {w : World} {n : Nat} {v : Value} (h : Calls P f args (w.drewN n) fun e w' => e = .returned v ∧ w.drewN n = w') :
    Calls P f args (w.drewN n) fun e w'' => e = .returned v ∧ ∃ m, w'' = w.drewN m :=
  h.mono fun _ _ ⟨he, hm⟩ => ⟨he, n, hm.symm⟩
theorem owns_mono {w : World} {base base' n : Nat} {e : TypeId} {size : Nat} {v : Value} {xs : List Value} (h : w.ownsRow base e size v n xs) (hb : base' ≤ base) : w.ownsRow base' e size v n xs := by
  refine ⟨h.1, ?_⟩
  rcases h.2 with h | ⟨g, cap, cur, hv, hg, r⟩
  · exact .inl h
  · exact .inr ⟨g, cap, cur, hv, Nat.le_trans hb hg, r⟩
theorem has_new (w : World) (t : TypeId) (xs : List Value) (c : Nat) (hc : xs.length ≤ c) : Has (w.alloc (.cells xs.toArray t)) (.slice (some ⟨w.heap.size, 0, none⟩) xs.length c) xs := by
  refine .inr ⟨_, c, rfl, hc, fun j u hu => ?_⟩
  have h := (Row.new w t xs.toArray).cell j
  have e : (⟨w.heap.size, 0, none⟩ : Addr).add j = ⟨w.heap.size, j, none⟩ := by unfold Addr.add; split <;> simp_all
  rw [e, h]
  simpa using hu
theorem grownBy_refl (w : World) (r : Option Nat) : w.grownBy w r := ⟨rfl, rfl, rfl, Nat.le_refl _, fun _ _ _ => rfl⟩
/-- 'append(out, x...)' on an owned row of one-cell values, from whatever slice -/
theorem wpList_append_has {P : Program} {w : World} {ops : Array Oper} {rest : List Oper} {o : Oper} {a : Act} {Q : Exit → Act → World → Prop} (hgd : o.guard = none) (s x : Operand) (t : TypeId)
    (ho : o.op = .call { callee := .builtin .append, args := #[s, x], argTypes := #[t, t] })
    (base : Nat) (e : TypeId) (i : TypeInfo) (z : Value) (bytes : Nat) (ht : P.underlying t = some (.slice e)) (hi : P.info? e = some i) (hz : i.zero = some z)
    (hsize : i.size = 1) (hby : i.bytes = bytes) (hzs : z.cells.size = 1)
    (v : Value) (n : Nat) (xs : List Value) (hs : a.eval s = v) (hown : w.ownsRow base e 1 v n xs)
    (sv : Value) (news : List Value) (hx : a.eval x = sv) (hh : Has w sv news) (h1 : ∀ u ∈ news, u.oneCell' = true)
    (h63 : n + news.length ≤ maxLen) (hbytes : (n + news.length) * bytes ≤ 140737488355328) (hbase : base ≤ w.heap.size)
    (h : ∀ v' w', w'.ownsRow base e 1 v' (n + news.length) (xs ++ news) → w.grownBy w' v.ownBlock → wpList P ops Q rest (a.put o.dst v') w') : wpList P ops Q (o :: rest) a w := by
  rcases hh with ⟨rfl, rfl⟩ | ⟨ad, c, rfl, _, hc⟩
  · refine wpList_append_own_none hgd s x t ho base e i 1 ht hi v n xs hs hown hx (h v w ?_ (grownBy_refl _ _))
    simpa using hown
  · exact wpList_append_own _ hgd s x t ho base e i z 1 bytes ht hi hz hsize hby hzs (by decide) v n xs hs hown ad news.length c news hx (by simp) hc h1 h63 hbytes hbase fun v' w' h2 h3 _ => h v' w' h2 h3

/-- the array of n values -/
def arr (f : Nat → Value) (n : Nat) : Array Value := Array.ofFn (n := n) fun i => f i
@[simp] theorem arr_size (f : Nat → Value) (n : Nat) : (arr f n).size = n := by simp [arr]
theorem arr_get (f : Nat → Value) (n i : Nat) (h : i < n) : (arr f n)[i]? = some (f i) := by simp [arr, h]
theorem arr_set (f : Nat → Value) (n i : Nat) (v : Value) : (arr f n).setIfInBounds i v = arr (fun j => if j = i then v else f j) n := by
  apply Array.ext_getElem?
  intro j
  by_cases hj : j < n
  · by_cases h : i = j
    · subst h
      simp [arr, hj]
    · have h' : ¬ j = i := fun e => h e.symm
      simp [arr, hj, h, h']
  · simp [arr, hj]
theorem arr_congr {f g : Nat → Value} {n : Nat} (h : ∀ i, i < n → f i = g i) : arr f n = arr g n := by
  apply Array.ext_getElem?
  intro j
  by_cases hj : j < n
  · simp [arr, hj, h j hj]
  · simp [arr, hj]
end Go.Proofs.YtbbfdnknbghffaaGreatDoor
