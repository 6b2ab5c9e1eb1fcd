/- PLAIN LAW: '==' on arrays of integers; conditions: none. -/
import Derived.Test.YtafichokaofngaaGreatDoorWrite
import Derived.Test.YtafichokaofngaaGreatDoorSum02
import Derived.Laws.StructEq
namespace Go.Proofs.YtafichokaofngaaGreatDoor
open Go.RowKit

theorem all_range_eqZ : ∀ (xs ys : List Int), xs.length = ys.length → ((List.range xs.length).all fun i => xs.getD i 0 == ys.getD i 0) = (xs == ys)
  | [], [], _ => rfl
  | x :: xs, y :: ys, h => by
    have ih := all_range_eqZ xs ys (by simpa using h)
    rw [List.length_cons, List.range_succ_eq_map, List.all_cons, List.all_map]
    simp only [List.getD_cons_zero, Function.comp_def, List.getD_cons_succ, ih]
    simp [List.cons_beq_cons]
  | [], _ :: _, h => by simp at h
  | _ :: _, [], h => by simp at h

theorem run_equalIn_ints {P : Program} (w : World) (d : Nat) (t e : TypeId) (n : Nat) (k : IntKind) (ht : P.underlying t = some (.array n e)) (he : P.underlying e = some (.int k)) (hsz : ∀ w, (sizeOf e).run P w = .ok 1 w)
    (xs ys : List Int) (hx : xs.length = n) (hy : ys.length = n) :
    (Op.equalIn (d + 2) t (.agg (xs.map (Value.int k)).toArray) (.agg (ys.map (Value.int k)).toArray)).run P w = .ok (xs == ys) w := by
  rw [← all_range_eqZ xs ys (hx.trans hy.symm), hx, List.range_eq_range', Op.equalIn]
  simp only [Sem.run_bind, run_underlying ht, Result.andThen_ok, hsz, Std.Legacy.Range.forIn_eq_forIn_range', Std.Legacy.Range.size, Nat.sub_zero, Nat.add_sub_cancel, Nat.div_one]
  have hl : ∀ i ∈ List.range' 0 n 1, i < n := fun i hi => by simpa using (List.mem_range'_1.1 hi).2
  generalize List.range' 0 n 1 = l at hl ⊢
  induction l with
  | nil => simp
  | cons i l ih =>
    have hi : i < n := hl i (by simp)
    have px : (part e (xs.map (Value.int k)).toArray (i * 1)).run P w = .ok (.int k (xs.getD i 0)) w := by
      simp [part, isAgg, run_underlying he, List.getD, List.getElem?_eq_getElem (show i < xs.length by omega)]
    have py : (part e (ys.map (Value.int k)).toArray (i * 1)).run P w = .ok (.int k (ys.getD i 0)) w := by
      simp [part, isAgg, run_underlying he, List.getD, List.getElem?_eq_getElem (show i < ys.length by omega)]
    have pe : (Op.equalIn (d + 1) e (.int k (xs.getD i 0)) (.int k (ys.getD i 0))).run P w = .ok (xs.getD i 0 == ys.getD i 0) w := by
      rw [run_equalIn_int w d e k k _ _ he]
    simp only [List.forIn_cons, Sem.run_bind, px, py, pe, Result.andThen_ok, List.all_cons]
    cases hb : (xs.getD i 0 == ys.getD i 0)
    · simp
    · simp only [Bool.not_true, Bool.false_eq_true, if_false, Sem.run_pure, Result.andThen_ok, Bool.true_and]
      exact ih fun j hj => hl j (by simp [hj])
theorem run_eql_ints {P : Program} (w : World) (t e : TypeId) (n : Nat) (k : IntKind) (ht : P.underlying t = some (.array n e)) (he : P.underlying e = some (.int k)) (hsz : ∀ w, (sizeOf e).run P w = .ok 1 w)
    (xs ys : List Int) (hx : xs.length = n) (hy : ys.length = n) :
    (binOp .eql t (.agg (xs.map (Value.int k)).toArray) (.agg (ys.map (Value.int k)).toArray)).run P w = .ok (.bool (xs == ys)) w := by
  rw [run_eql_struct, run_equalIn_ints w 9998 t e n k ht he hsz xs ys hx hy]
  rfl

theorem size_u32 (w : World) : (sizeOf 129).run Tryz.prog w = .ok 1 w := by kernel_rfl
theorem size_u8 (w : World) : (sizeOf 5).run Tryz.prog w = .ok 1 w := by kernel_rfl
def stZero : Sha.St := ⟨0, 0, 0, 0, 0, 0, 0, 0⟩
def St.ints (s : Sha.St) : List Int := [s.a.toNat, s.b.toNat, s.c.toNat, s.d.toNat, s.e.toNat, s.f.toNat, s.g.toNat, s.h.toNat]
theorem cells_ints (s : Sha.St) : s.cells = ((St.ints s).map (Value.int .u32)).toArray := rfl
theorem z8_ints : z8 = ((St.ints stZero).map (Value.int .u32)).toArray := rfl
theorem ints_inj {s x : Sha.St} (h : St.ints s = St.ints x) : s = x := by
  simp only [St.ints, List.cons.injEq, Int.natCast_inj, BitVec.toNat_inj, and_true] at h
  obtain ⟨h1, h2, h3, h4, h5, h6, h7, h8⟩ := h
  cases s
  cases x
  simp_all
/-- the words against none: whether all are nought -/
def isZero (s : Sha.St) : Bool := St.ints s == St.ints stZero
theorem isZero_spec {s : Sha.St} (h : isZero s = true) : s = stZero := ints_inj (by simpa [isZero] using h)
theorem words_eql (s : Sha.St) (w : World) : (binOp .eql 216 (.agg #[Sha.uv s.a, Sha.uv s.b, Sha.uv s.c, Sha.uv s.d, Sha.uv s.e, Sha.uv s.f, Sha.uv s.g, Sha.uv s.h]) (.agg #[.int .u32 0, .int .u32 0, .int .u32 0, .int .u32 0, .int .u32 0, .int .u32 0, .int .u32 0, .int .u32 0])).run Tryz.prog w = .ok (.bool (isZero s)) w := by
  have h := run_eql_ints (P := Tryz.prog) w 216 129 8 .u32 Tryz.underlying216 Tryz.underlying129 size_u32 (St.ints s) (St.ints stZero) rfl rfl
  exact h

/-- digests: alike, or not -/
theorem digest_eql (x y : List UInt8) (w : World) : (binOp .eql 29 (dval x) (dval y)).run Tryz.prog w = .ok (.bool (Sha.digest x == Sha.digest y)) w := by
  have h := run_eql_ints (P := Tryz.prog) w 29 5 32 .u8 Tryz.underlying29 Tryz.underlying5 size_u8 ((Sha.digest x).map fun b => (b.toNat : Int)) ((Sha.digest y).map fun b => (b.toNat : Int))
    (by simp [Sha.digest_length]) (by simp [Sha.digest_length])
  have e : ∀ z : List UInt8, ((z.map fun b => (b.toNat : Int)).map (Value.int .u8)).toArray = blk z := fun z => by simp [blk, Sha.bv]
  rw [e, e] at h
  have e2 : (((Sha.digest x).map fun b => (b.toNat : Int)) == ((Sha.digest y).map fun b => (b.toNat : Int))) = (Sha.digest x == Sha.digest y) := by
    rw [Bool.eq_iff_iff]
    simp only [beq_iff_eq]
    constructor
    · intro h
      exact List.map_inj_right (fun a b hab => by
        have : a.toNat = b.toNat := by omega
        exact UInt8.toNat_inj.1 this) |>.1 h
    · intro h
      rw [h]
  rw [e2] at h
  exact h
end Go.Proofs.YtafichokaofngaaGreatDoor
