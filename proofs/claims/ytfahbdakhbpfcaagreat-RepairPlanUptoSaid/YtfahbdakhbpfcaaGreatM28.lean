/-
  RowB: PLAIN LAW: digests laid into a block of bytes; makes of digests and of ints; the sort's world in words of blocks; conditions: none.
-/
import Derived.Test.YtfahbdakhbpfcaaGreatM24
import Derived.Test.YtfahbdakhbpfcaaGreatM27
import Derived.Laws.MakeOwn
import Derived.Lib.SlBuf
namespace Go.Proofs.YtfahbdakhbpfcaaGreat
open Go.RowKit

theorem splice_get_in {α : Type} (L vs : List α) (o i : Nat) (ho : o + vs.length ≤ L.length) (hi : i < vs.length) : (splice L o vs)[o + i]? = vs[i]? := by
  unfold splice
  rw [List.getElem?_append_right (by simp; omega), List.getElem?_append_left (by simp; omega)]
  congr 1
  simp
  omega
theorem splice_get_before {α : Type} (L vs : List α) (o i : Nat) (ho : o + vs.length ≤ L.length) (hi : i < o) : (splice L o vs)[i]? = L[i]? := by
  unfold splice
  rw [List.getElem?_append_left (by simp; omega)]
  simp [hi]
theorem splice_len {α : Type} (L vs : List α) (o : Nat) (ho : o + vs.length ≤ L.length) : (splice L o vs).length = L.length := by
  unfold splice
  simp
  omega
/-- cells laid into a block that is known whole -/
theorem Row.setCells {g : Nat} {t : TypeId} : ∀ (vs : List Value) (o : Nat) {w : World} {L : List Value}, Row w g t L.toArray → o + vs.length ≤ L.length → Row (w.setCells g o vs) g t (splice L o vs).toArray
  | [], o, w, L, h, _ => by simpa [World.setCells, splice] using h
  | v :: vs, o, w, L, h, hle => by
    simp only [List.length_cons] at hle
    have h1 := h.store o v
    rw [show L.toArray.setIfInBounds o v = (L.set o v).toArray by simp] at h1
    have h2 := Row.setCells vs (o + 1) h1 (by simp; omega)
    have e : splice (L.set o v) (o + 1) vs = splice L o (v :: vs) := by
      unfold splice
      have ho : o < L.length := by omega
      rw [List.take_succ_eq_append_getElem (by simpa using ho)]
      simp only [List.getElem_set_self, List.length_cons, List.append_assoc, List.cons_append, List.nil_append]
      rw [List.take_set_of_le (by omega), List.drop_set_of_lt (by omega)]
      rw [show o + 1 + vs.length = o + (vs.length + 1) by omega]
    rw [e] at h2
    exact h2
theorem Row.farCells {g b : Nat} {t : TypeId} (hne : b ≠ g) : ∀ (vs : List Value) (o : Nat) {w : World} {cs : Array Value}, Row w b t cs → Row (w.setCells g o vs) b t cs
  | [], _, _, _, h => h
  | v :: vs, o, _, _, h => Row.farCells hne vs (o + 1) (h.other ⟨g, o, none⟩ v hne)
theorem below_setCells {B g : Nat} (hg : B ≤ g) : ∀ (vs : List Value) (o : Nat) {a w : World}, Below B a w → Below B a (w.setCells g o vs)
  | [], _, _, _, h => h
  | v :: vs, o, _, _, h => below_setCells hg vs (o + 1) (h.setCell (p := ⟨g, o, none⟩) hg v)
/-- a row of bytes, some of them laid anew -/
theorem Row.lay {w : World} {g : Nat} {t : TypeId} {Z : List UInt8} (h : Row w g t (blk Z)) (o : Nat) (D : List UInt8) (hD : o + D.length ≤ Z.length) : Row (w.setCells g o (D.map Sha.bv)) g t (blk (splice Z o D)) := by
  have h1 := Row.setCells (D.map Sha.bv) o (L := Z.map Sha.bv) h (by simpa using hD)
  have e : splice (Z.map Sha.bv) o (D.map Sha.bv) = (splice Z o D).map Sha.bv := by simp [splice]
  rw [e] at h1
  exact h1
theorem Row.thereAt {w : World} {g : Nat} {t : TypeId} {Z : List UInt8} (h : Row w g t (blk Z)) (o n : Nat) (hn : o + n ≤ Z.length) : w.there g o n := fun j hj => by
  refine ⟨?_, h.frozen _⟩
  rw [h.cell]
  have : o + j < (blk Z).size := by simp [blk]; omega
  simp [this]

theorem z32_rep : z32 = Array.replicate 32 (.int .u8 0) := by kernel_rfl
theorem zeros_made (k : Nat) : madeCells z32 (k * 32) = blk (List.replicate (32 * k) 0) := by
  rw [z32_rep]
  apply Array.ext_getElem?
  intro i
  by_cases hi : i < k * 32
  · have hi2 : i < 32 * k := by omega
    have hm : i % 32 < 32 := Nat.mod_lt _ (by omega)
    simp [madeCells, blk, hi, hi2, hm]
  · have hi2 : ¬ i < 32 * k := by omega
    simp [madeCells, blk, hi, hi2]
theorem dig_info_all : (Tryz.prog.info? 25).map (fun i => (i.zero, i.size, i.bytes)) = some (some (.agg z32), 32, 32) := by kernel_rfl
/-- so many digests of noughts -/
theorem make_digests (k : Nat) (hk : k ≤ 2000) (w : World) : (Instr.makeSlice 74 (.int .i64 k) (.int .i64 k)).run Tryz.prog w = .ok (.slice (some ⟨w.heap.size, 0, none⟩) k k) (w.alloc (.cells (blk (List.replicate (32 * k) 0)) 25)) := by
  obtain ⟨i0, hi, hz0, hz1, hz2⟩ := info_parts dig_info_all
  have h := run_make (P := Tryz.prog) w 74 25 i0 (.agg z32) Tryz.underlying74 hi hz0 .i64 .i64 k k (by omega) (by omega) (by rw [hz2]; omega) (by omega)
  simp only [Int.toNat_natCast] at h
  rw [h, hz1]
  exact congrArg (fun c => Result.ok _ (w.alloc (.cells c _))) (zeros_made k)
theorem blk32_info (D : List UInt8) (h : D.length = 32) : (Tryz.prog.info? 25).map (·.size) = some (blk D).size := by
  rw [blk_size, h]
  exact dig_info0
theorem info_int0 : (Tryz.prog.info? 3).map (fun i => (i.zero, i.size, i.bytes)) = some (some (.int .i64 0), 1, 8) := by kernel_rfl
theorem ints_made (k : Nat) : madeCells #[Value.int .i64 0] (k * 1) = arr (fun _ => .int .i64 0) k := by
  apply Array.ext_getElem?
  intro i
  by_cases hi : i < k
  · simp [madeCells, arr, hi, Nat.mod_one]
  · simp [madeCells, arr, hi]
/-- so many noughts -/
theorem make_ints (k : Nat) (hk : k ≤ 2000) (w : World) : (Instr.makeSlice 38 (.int .i64 k) (.int .i64 k)).run Tryz.prog w = .ok (.slice (some ⟨w.heap.size, 0, none⟩) k k) (w.alloc (.cells (arr (fun _ => .int .i64 0) k) 3)) := by
  obtain ⟨i0, hi, hz0, hz1, hz2⟩ := info_parts info_int0
  have h := run_make (P := Tryz.prog) w 38 3 i0 (.int .i64 0) Tryz.underlying38 hi hz0 .i64 .i64 k k (by omega) (by omega) (by rw [hz2]; omega) (by omega)
  simp only [Int.toNat_natCast] at h
  rw [h, hz1]
  exact congrArg (fun c => Result.ok _ (w.alloc (.cells c _))) (ints_made k)

/-- server i's digest for an index -/
def rD (L : List UInt8) (i : Nat) : List UInt8 := Sha.digest (framed [word 9, L, Sha.be (BitVec.ofNat 32 i)])
theorem rD_len (L : List UInt8) (i : Nat) : (rD L i).length = 32 := Sha.digest_length _
theorem uv_nat (i : Nat) (hi : i < 4294967296) : Value.int .u32 (i : Int) = Sha.uv (BitVec.ofNat 32 i) := by
  have e : (BitVec.ofNat 32 i).toNat = i := by
    rw [BitVec.toNat_ofNat]
    exact Nat.mod_eq_of_lt (by omega)
  exact congrArg (fun n : Nat => Value.int .u32 (n : Int)) e.symm
theorem ring_nat (L : List UInt8) (hL : L.length = 16) (i : Nat) (hi : i < 4294967296) (w : World) :
    Calls Tryz.prog 32 #[.agg (blk L), .int .u32 (i : Int)] w fun e w' => e = .returned (.agg (blk (rD L i))) ∧ Below w.heap.size w w' := by
  rw [uv_nat i hi]
  exact ring_at L hL _ w

/-- a whole array read in a drawn region -/
theorem stepV_load {P : Program} {w : World} {op : Oper} {ρ : Operand → Value} {K : Value → World → Prop} (ty : TypeId) (x : Operand) (ho : op.op = .load ty x)
    (ad : Addr) (hx : ρ x = .pointer (some ad)) (cs : Array Value) (d : TypeDesc) (hc : ∀ j v, cs.toList[j]? = some v → w.cell? (ad.add j) = some v)
    (hu : P.underlying ty = some d) (hd : d.isRow = true) (hi : (P.info? ty).map (·.size) = some cs.size) (h : K (.agg cs) w) : stepV P op ρ w K := by
  have hl := run_loadVar_at (P := P) w ad ty cs.toList d hc hu hd (by simpa using hi)
  unfold stepV execOp
  simp only [ho, hx, Instr.loadAt, Instr.sureAddr, Sem.run_bind, Sem.run_pure, Result.andThen_ok, hl, Array.toArray_toList]
  exact h

open Go.Sort Go.Shelf in
theorem putCells_all {α : Type} [Inhabited α] (enc : α → Value) (d : Array α) (c : Array Value) (h : c.size = d.size) : putCells enc 0 d c = d.map enc := by
  unfold putCells
  apply Array.ext_getElem?
  intro k
  rw [Array.getElem?_mapIdx, Array.getElem?_map]
  by_cases hk : k < d.size
  · have hc : k < c.size := by omega
    simp [hk, hc]
  · simp [hk, h]
open Go.Sort Go.Shelf in
theorem sort_row {α : Type} [Inhabited α] (enc : α → Value) {w : World} {b : Nat} {t : TypeId} {cs : Array Value} (h : Row w b t cs) (n : Nat) (d : Array α) (os : Array Obj) (hs : cs.size = d.size) : Row (sortWorld enc w b 0 n d os) b t (d.map enc) := by
  have hlt := h.lt
  unfold Row at h ⊢
  unfold sortWorld
  rw [heap_grow_old _ _ (by simp; exact hlt)]
  unfold putRow mapBlock
  simp [Array.getElem?_modify, h, onCells, putCells_all enc d cs hs]
open Go.Sort Go.Shelf in
theorem sort_below {α : Type} [Inhabited α] (enc : α → Value) {B : Nat} {a w : World} (h : Below B a w) {b : Nat} (hb : B ≤ b) (n : Nat) (d : Array α) (os : Array Obj) (hB : B ≤ w.heap.size) : Below B a (sortWorld enc w b 0 n d os) := by
  refine h.trans ⟨rfl, rfl, rfl, by simp [sortWorld], fun k hk => ?_⟩
  unfold sortWorld
  rw [heap_grow_old _ _ (by simp; omega)]
  unfold putRow mapBlock
  have : b ≠ k := by omega
  simp [Array.getElem?_modify, this]
open Go.Sort Go.Shelf in
theorem sort_other {α : Type} [Inhabited α] (enc : α → Value) {w : World} {b : Nat} {ad : Addr} {v : Value} (h : w.cell? ad = some v) (hne : ad.block ≠ b) (n : Nat) (d : Array α) (os : Array Obj) : (sortWorld enc w b 0 n d os).cell? ad = some v := by
  have hlt := block_lt_of_cell h
  unfold sortWorld
  rw [cell?_grow _ _ _ (by simp; exact hlt), cell?_putRow_other _ _ _ _ _ _ (Or.inl hne)]
  exact h
end Go.Proofs.YtfahbdakhbpfcaaGreat
