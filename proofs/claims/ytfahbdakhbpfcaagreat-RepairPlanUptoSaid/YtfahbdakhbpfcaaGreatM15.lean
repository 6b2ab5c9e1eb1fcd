/-
  Eq: PLAIN LAW: '==' on arrays of integers; conditions: none.
  Concat: WALKS: slices.Grow and slices.Concat at lists of lists of bytes, as tag.Bytes uses them; condition: few lists.
-/
import Derived.Test.YtfahbdakhbpfcaaGreatM7
import Derived.Test.YtfahbdakhbpfcaaGreatM10
import Derived.Test.YtfahbdakhbpfcaaGreatM14
import Derived.Laws.StructEq
import Derived.Lib.AppendZerosOnto
import Derived.Lib.SliceRun
namespace Go.Proofs.YtfahbdakhbpfcaaGreat
open Go.RowKit

theorem all_range_eqZ : ∀ (xs ys : List Int), xs.length = ys.length → ((List.range xs.length).all fun i => xs.getD i 0 == ys.getD i 0) = (xs == ys)
  | [], [], _ => rfl
  | x :: xs, y :: ys, h => by
    have ih := all_range_eqZ xs ys (by simpa using h)
    rw [List.length_cons, List.range_succ_eq_map, List.all_cons, List.all_map]
    simp only [List.getD_cons_zero, Function.comp_def, List.getD_cons_succ, ih]
    simp [List.cons_beq_cons]
  | [], _ :: _, h => by simp at h
  | _ :: _, [], h => by simp at h

theorem run_equalIn_ints {P : Program} (w : World) (d : Nat) (t e : TypeId) (n : Nat) (k : IntKind) (ht : P.underlying t = some (.array n e)) (he : P.underlying e = some (.int k)) (hsz : ∀ w, (sizeOf e).run P w = .ok 1 w)
    (xs ys : List Int) (hx : xs.length = n) (hy : ys.length = n) :
    (Op.equalIn (d + 2) t (.agg (xs.map (Value.int k)).toArray) (.agg (ys.map (Value.int k)).toArray)).run P w = .ok (xs == ys) w := by
  rw [← all_range_eqZ xs ys (hx.trans hy.symm), hx, List.range_eq_range', Op.equalIn]
  simp only [Sem.run_bind, run_underlying ht, Result.andThen_ok, hsz, Std.Legacy.Range.forIn_eq_forIn_range', Std.Legacy.Range.size, Nat.sub_zero, Nat.add_sub_cancel, Nat.div_one]
  have hl : ∀ i ∈ List.range' 0 n 1, i < n := fun i hi => by simpa using (List.mem_range'_1.1 hi).2
  generalize List.range' 0 n 1 = l at hl ⊢
  induction l with
  | nil => simp
  | cons i l ih =>
    have hi : i < n := hl i (by simp)
    have px : (part e (xs.map (Value.int k)).toArray (i * 1)).run P w = .ok (.int k (xs.getD i 0)) w := by
      simp [part, isAgg, run_underlying he, List.getD, List.getElem?_eq_getElem (show i < xs.length by omega)]
    have py : (part e (ys.map (Value.int k)).toArray (i * 1)).run P w = .ok (.int k (ys.getD i 0)) w := by
      simp [part, isAgg, run_underlying he, List.getD, List.getElem?_eq_getElem (show i < ys.length by omega)]
    have pe : (Op.equalIn (d + 1) e (.int k (xs.getD i 0)) (.int k (ys.getD i 0))).run P w = .ok (xs.getD i 0 == ys.getD i 0) w := by
      rw [run_equalIn_int w d e k k _ _ he]
    simp only [List.forIn_cons, Sem.run_bind, px, py, pe, Result.andThen_ok, List.all_cons]
    cases hb : (xs.getD i 0 == ys.getD i 0)
    · simp
    · simp only [Bool.not_true, Bool.false_eq_true, if_false, Sem.run_pure, Result.andThen_ok, Bool.true_and]
      exact ih fun j hj => hl j (by simp [hj])
theorem run_eql_ints {P : Program} (w : World) (t e : TypeId) (n : Nat) (k : IntKind) (ht : P.underlying t = some (.array n e)) (he : P.underlying e = some (.int k)) (hsz : ∀ w, (sizeOf e).run P w = .ok 1 w)
    (xs ys : List Int) (hx : xs.length = n) (hy : ys.length = n) :
    (binOp .eql t (.agg (xs.map (Value.int k)).toArray) (.agg (ys.map (Value.int k)).toArray)).run P w = .ok (.bool (xs == ys)) w := by
  rw [run_eql_struct, run_equalIn_ints w 9998 t e n k ht he hsz xs ys hx hy]
  rfl

theorem size_u32 (w : World) : (sizeOf 76).run Tryz.prog w = .ok 1 w := by kernel_rfl
theorem size_u8 (w : World) : (sizeOf 5).run Tryz.prog w = .ok 1 w := by kernel_rfl
def stZero : Sha.St := ⟨0, 0, 0, 0, 0, 0, 0, 0⟩
def St.ints (s : Sha.St) : List Int := [s.a.toNat, s.b.toNat, s.c.toNat, s.d.toNat, s.e.toNat, s.f.toNat, s.g.toNat, s.h.toNat]
theorem cells_ints (s : Sha.St) : s.cells = ((St.ints s).map (Value.int .u32)).toArray := rfl
theorem z8_ints : z8 = ((St.ints stZero).map (Value.int .u32)).toArray := rfl
theorem ints_inj {s x : Sha.St} (h : St.ints s = St.ints x) : s = x := by
  simp only [St.ints, List.cons.injEq, Int.natCast_inj, BitVec.toNat_inj, and_true] at h
  obtain ⟨h1, h2, h3, h4, h5, h6, h7, h8⟩ := h
  cases s
  cases x
  simp_all
/-- the words against none: whether all are nought -/
def isZero (s : Sha.St) : Bool := St.ints s == St.ints stZero
theorem isZero_spec {s : Sha.St} (h : isZero s = true) : s = stZero := ints_inj (by simpa [isZero] using h)
theorem words_eql (s : Sha.St) (w : World) : (binOp .eql 139 (.agg #[Sha.uv s.a, Sha.uv s.b, Sha.uv s.c, Sha.uv s.d, Sha.uv s.e, Sha.uv s.f, Sha.uv s.g, Sha.uv s.h]) (.agg #[.int .u32 0, .int .u32 0, .int .u32 0, .int .u32 0, .int .u32 0, .int .u32 0, .int .u32 0, .int .u32 0])).run Tryz.prog w = .ok (.bool (isZero s)) w := by
  have h := run_eql_ints (P := Tryz.prog) w 139 76 8 .u32 Tryz.underlying139 Tryz.underlying76 size_u32 (St.ints s) (St.ints stZero) rfl rfl
  exact h

/-- digests: alike, or not -/
theorem digest_eql (x y : List UInt8) (w : World) : (binOp .eql 25 (dval x) (dval y)).run Tryz.prog w = .ok (.bool (Sha.digest x == Sha.digest y)) w := by
  have h := run_eql_ints (P := Tryz.prog) w 25 5 32 .u8 Tryz.underlying25 Tryz.underlying5 size_u8 ((Sha.digest x).map fun b => (b.toNat : Int)) ((Sha.digest y).map fun b => (b.toNat : Int))
    (by simp [Sha.digest_length]) (by simp [Sha.digest_length])
  have e : ∀ z : List UInt8, ((z.map fun b => (b.toNat : Int)).map (Value.int .u8)).toArray = blk z := fun z => by simp [blk, Sha.bv]
  rw [e, e] at h
  have e2 : (((Sha.digest x).map fun b => (b.toNat : Int)) == ((Sha.digest y).map fun b => (b.toNat : Int))) = (Sha.digest x == Sha.digest y) := by
    rw [Bool.eq_iff_iff]
    simp only [beq_iff_eq]
    constructor
    · intro h
      exact List.map_inj_right (fun a b hab => by
        have : a.toNat = b.toNat := by omega
        exact UInt8.toNat_inj.1 this) |>.1 h
    · intro h
      rw [h]
  rw [e2] at h
  exact h
end Go.Proofs.YtfahbdakhbpfcaaGreat
namespace Go.Proofs.YtfahbdakhbpfcaaGreat
open Go.RowKit

theorem info_sl : (Tryz.prog.info? 70).map (fun i => (i.zero, i.size, i.bytes)) = some (some (.slice none 0 0), 1, 24) := by kernel_rfl

set_option maxRecDepth 100000 in
set_option maxHeartbeats 1000000 in
theorem growParts (n : Nat) (h1 : 1 ≤ n) (h2 : n ≤ 1000) (w : World) :
    Calls Tryz.prog 84 #[.slice none 0 0, .int .i64 n] w fun e w' =>
      ∃ v, e = .returned v ∧ w'.ownsRow w.heap.size 70 1 v 0 [] ∧ Below w.heap.size w w' := by
  obtain ⟨i0, hi, hz0, hz1, hz2⟩ := info_parts info_sl
  have hold : (Builtin.firstCells i0.size 0 (.slice none 0 0)).run Tryz.prog w.drew = .ok [].toArray w.drew := run_firstCells_none w.drew i0.size 0 0 0
  have hrz := fun ty => Lib.run_append_grow_zeros (P := Tryz.prog) w 87 3 ty 70 i0 (.slice none 0 0) .i64 .i64 Tryz.underlying87 Tryz.underlying3 hi hz0 none 0 0 [] hold n (by omega) (by omega) (by omega) (by omega) (by rw [hz2]; omega)
    (growslice_fits (by omega) (by rw [hz2]; omega))
  simp only [Nat.zero_add] at hrz
  have hGn : n ≤ grownCap w n 0 70 := grownCap_ge w _ _ _
  have hGm : grownCap w n 0 70 ≤ maxLen := grownCap_le_maxLen w n 0 70 (by unfold maxLen; omega)
  have hsz : ([].toArray ++ Builtin.zeroCells (Value.slice none 0 0).cells n ++ Builtin.zeroCells (Value.slice none 0 0).cells (grownCap w n 0 70 - n)).size = grownCap w n 0 70 := by
    simp [Builtin.zeroCells, Value.cells]
    omega
  generalize grownCap w n 0 70 = G at *
  generalize [].toArray ++ Builtin.zeroCells (Value.slice none 0 0).cells n ++ Builtin.zeroCells (Value.slice none 0 0).cells (G - n) = cur at *
  have HZ := Lib.hid hsz
  have hG63 : G ≤ 9223372036854775807 := by unfold maxLen at hGm; omega
  have HM := Lib.hid hGm
  clear hsz hGm hold
  go_enter Tryz.func84, Tryz.ntmps84
  go_wp2_with (at_builtin; refine Lib.wpList_append_run _ rfl _ _ _ _ rfl _ _ rfl rfl _ _ (hrz _) ?_)
  go_ret
  exact ⟨_, rfl, World.ownsRow_made w cur G (Nat.le_refl _) HM.out (by rw [HZ.out]; simp), ((Below.refl _ _).alloc (Nat.le_refl _) _).drew⟩

set_option maxRecDepth 100000 in
set_option maxHeartbeats 1000000 in
theorem concatParts (b n0 n1 c0 c1 cp : Nat) (p0 p1 : Option Addr) (xs0 xs1 : List Value) (w : World) (h0 : w.cell? ⟨b, 0, none⟩ = some (.slice p0 n0 c0)) (h1 : w.cell? ⟨b, 1, none⟩ = some (.slice p1 n1 c1))
    (hx0 : Has w (.slice p0 n0 c0) xs0) (hx1 : Has w (.slice p1 n1 c1) xs1) (hl0 : xs0.length = n0) (hl1 : xs1.length = n1) (hp : 1 ≤ n0 + n1) (hm : n0 + n1 ≤ 1000)
    (ho0 : ∀ u ∈ xs0, u.oneCell' = true) (ho1 : ∀ u ∈ xs1, u.oneCell' = true) :
    Calls Tryz.prog 71 #[.slice (some ⟨b, 0, none⟩) 2 cp] w fun e w' =>
      ∃ v, e = .returned v ∧ w'.ownsRow w.heap.size 70 1 v (n0 + n1) (xs0 ++ xs1) ∧ Below w.heap.size w w' := by
  obtain ⟨i0, hi, hz0, hz1, hz2⟩ := info_parts info_sl
  have H0 := Lib.hid hl0
  have H1 := Lib.hid hl1
  clear hl0 hl1
  go_enter Tryz.func71, Tryz.ntmps71
  go_wp2
  refine wp_loop_rounds 3 ?_
  rw [rounds_succ]
  go_wp2_with fail
  rw [rounds_succ]
  go_wp2_with fail
  rw [rounds_succ]
  go_wp2_with fail
  have hg := growParts (n0 + n1) hp hm w
  rw [Int.natCast_add] at hg
  refine hg.mono ?_
  clear hg
  rintro e w1 ⟨v, rfl, hown, hb⟩
  have hx0' := hx0.later hb
  have hc := bcell hb
  have h0' : w1.cell? ⟨b, 0, none⟩ = some (.slice p0 n0 c0) := (hc.1 b 0 (block_lt_of_cell h0)).trans h0
  have h1' : w1.cell? ⟨b, 1, none⟩ = some (.slice p1 n1 c1) := (hc.1 b 1 (block_lt_of_cell h1)).trans h1
  clear hc
  go_wp2_with fail
  refine wp_loop_rounds 3 ?_
  rw [rounds_succ]
  go_wp2_with (at_builtin; refine wpList_append_has rfl _ _ 87 rfl w.heap.size 70 i0 (.slice none 0 0) 24 Tryz.underlying87 hi hz0 hz1 hz2 rfl _ _ _ rfl hown _ xs0 rfl ?a1 ?a2 ?a3 ?a4 ?a5 ?_)
  case a1 => exact hx0'
  case a2 => exact ho0
  case a3 => have := H0.out; unfold maxLen; omega
  case a4 => have := H0.out; omega
  case a5 => exact hb.size
  intro v1 w2 hown1 hgrow1
  have hb2 : Below w.heap.size w w2 := hb.grown hgrow1 hb.size (fun k hk => (hown.lt k hk).1)
  have hx1' := hx1.later hb2
  have hc := bcell hb2
  have h1'' : w2.cell? ⟨b, 1, none⟩ = some (.slice p1 n1 c1) := (hc.1 b 1 (block_lt_of_cell h1)).trans h1
  clear hc hgrow1 hown hb hx0' h0' h1'
  go_wp2_with fail
  rw [rounds_succ]
  go_wp2_with (at_builtin; refine wpList_append_has rfl _ _ 87 rfl w.heap.size 70 i0 (.slice none 0 0) 24 Tryz.underlying87 hi hz0 hz1 hz2 rfl _ _ _ rfl hown1 _ xs1 rfl ?b1 ?b2 ?b3 ?b4 ?b5 ?_)
  case b1 => exact hx1'
  case b2 => exact ho1
  case b3 => have := H0.out; have := H1.out; unfold maxLen; omega
  case b4 => have := H0.out; have := H1.out; omega
  case b5 => exact hb2.size
  intro v2 w3 hown2 hgrow2
  have hb3 : Below w.heap.size w w3 := hb2.grown hgrow2 hb2.size (fun k hk => (hown1.lt k hk).1)
  have hown3 : w3.ownsRow w.heap.size 70 1 v2 (n0 + n1) (xs0 ++ xs1) := by
    have := hown2
    rw [H0.out, H1.out] at this
    simpa using this
  clear hgrow2 hown1 hb2 hx1' h1'' hown2
  go_wp2_with fail
  rw [rounds_succ]
  go_wp2_with fail
  go_ret
  exact ⟨_, rfl, hown3, hb3⟩
end Go.Proofs.YtfahbdakhbpfcaaGreat
