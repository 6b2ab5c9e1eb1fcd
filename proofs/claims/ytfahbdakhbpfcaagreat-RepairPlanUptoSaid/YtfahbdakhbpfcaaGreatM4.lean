/-
  Round: WALK: sha.round: one round of SHA-256; conditions: none.
  Const: WALK: the 64 constants of SHA-256, the program's and the document's; conditions: none.
-/
import Derived.Test.YtfahbdakhbpfcaaGreatM3
namespace Go.Proofs.YtfahbdakhbpfcaaGreat
open Go.RowKit

theorem quiet_same2 {P : Program} {f : FuncId} {args : Array Value} {w : World} {n m : Nat} {v : Value} (h : Calls P f args (w.drewN (n + m)) fun e w' => e = .returned v ∧ w.drewN (n + m) = w') :
    Calls P f args (w.drewN (n + m)) fun e w'' => e = .returned v ∧ ∃ k, w'' = w.drewN (n + k) :=
  h.mono fun _ _ ⟨he, hm⟩ => ⟨he, m, hm.symm⟩

theorem not_w (x : Sha.U) : bits .xor .u32 IntKind.u32.max (x.toNat : Int) = ((~~~x).toNat : Int) := by
  have h : IntKind.u32.max = (((4294967295 : Sha.U).toNat : Nat) : Int) := by kernel_rfl
  rw [h, Sha.xor_w]
  congr 2
theorem not_w2 (x : Sha.U) : bits .xor .u32 4294967295 (x.toNat : Int) = ((~~~x).toNat : Int) := by
  have h : IntKind.u32.max = 4294967295 := by kernel_rfl
  rw [← h, not_w]
theorem sum42 (a b c d e f : Sha.U) : ((a.toNat : Int) + b.toNat + c.toNat + d.toNat + (e.toNat + f.toNat)) % 4294967296 = (((a + b + c + d) + (e + f)).toNat : Int) := by
  simp only [BitVec.toNat_add]
  omega
theorem sum14 (z a b c d : Sha.U) : ((z.toNat : Int) + (a.toNat + b.toNat + c.toNat + d.toNat)) % 4294967296 = ((z + (a + b + c + d)).toNat : Int) := by
  simp only [BitVec.toNat_add]
  omega
theorem words_size : (Tryz.prog.info? 139).map (·.size) = some 8 := by kernel_rfl

set_option maxRecDepth 100000 in
set_option maxHeartbeats 4000000 in
theorem round_at (s : Sha.St) (kw : Sha.U) (w : World) : Calls Tryz.prog 99 #[.agg #[Sha.uv s.a, Sha.uv s.b, Sha.uv s.c, Sha.uv s.d, Sha.uv s.e, Sha.uv s.f, Sha.uv s.g, Sha.uv s.h], Sha.uv kw] w fun e w' => e = .returned (.agg (Sha.step s kw).cells) ∧ Below w.heap.size w w' := by
  go_enter Tryz.func99, Tryz.ntmps99
  go_wp2_with fail
  go_quiet (fail)
  go_wp2_with fail
  go_quiet ((go_at_call 103; exact quiet_same2 (rotk _ _ (by decide) _)))
  go_wp2_with fail
  go_quiet ((go_at_call 103; exact quiet_same2 (rotk _ _ (by decide) _)))
  go_wp2_with fail
  have hr : ∀ n, Row (((w.alloc (.cells #[Sha.uv s.a, Sha.uv s.b, Sha.uv s.c, Sha.uv s.d, Sha.uv s.e, Sha.uv s.f, Sha.uv s.g, Sha.uv s.h] 139)).alloc (.cells #[.int .u32 0, .int .u32 0, .int .u32 0, .int .u32 0, .int .u32 0, .int .u32 0, .int .u32 0, .int .u32 0] 139)).drewN n) (w.heap.size + 1) 139 #[.int .u32 0, .int .u32 0, .int .u32 0, .int .u32 0, .int .u32 0, .int .u32 0, .int .u32 0, .int .u32 0] := fun n => by
    have h := Row.new (w.alloc (.cells #[Sha.uv s.a, Sha.uv s.b, Sha.uv s.c, Sha.uv s.d, Sha.uv s.e, Sha.uv s.f, Sha.uv s.g, Sha.uv s.h] 139)) 139 #[.int .u32 0, .int .u32 0, .int .u32 0, .int .u32 0, .int .u32 0, .int .u32 0, .int .u32 0, .int .u32 0]
    simp only [World.size_alloc] at h
    exact h.drewN n
  simp only [Sha.xor_w, Sha.and_w, not_w, sum42, sum14]
  refine bodyPost_ret (results_cell_row Tryz.results99 _ _ _ _ _ _ _ rfl ((((((((( hr _).store 0 _).store 1 _).store 2 _).store 3 _).store 4 _).store 5 _).store 6 _).store 7 _) Tryz.underlying139 rfl words_size) rfl ⟨rfl, ?_⟩
  refine ((((((((((((Below.refl w.heap.size w).alloc (Nat.le_refl _) _).alloc (by simp) _) |> fun h => below_drewN h _).setCell (p := ⟨w.heap.size + 1, 0, none⟩) (by simp) _).setCell (p := ⟨w.heap.size + 1, 1, none⟩) (by simp) _).setCell (p := ⟨w.heap.size + 1, 2, none⟩) (by simp) _).setCell (p := ⟨w.heap.size + 1, 3, none⟩) (by simp) _).setCell (p := ⟨w.heap.size + 1, 4, none⟩) (by simp) _).setCell (p := ⟨w.heap.size + 1, 5, none⟩) (by simp) _).setCell (p := ⟨w.heap.size + 1, 6, none⟩) (by simp) _).setCell (p := ⟨w.heap.size + 1, 7, none⟩) (by simp) _)
end Go.Proofs.YtfahbdakhbpfcaaGreat
namespace Go.Proofs.YtfahbdakhbpfcaaGreat
open Go.RowKit

theorem arr64_size : (Tryz.prog.info? 143).map (·.size) = some 64 := by kernel_rfl
def kCells : Array Value := #[.int .u32 1116352408, .int .u32 1899447441, .int .u32 3049323471, .int .u32 3921009573, .int .u32 961987163, .int .u32 1508970993, .int .u32 2453635748, .int .u32 2870763221, .int .u32 3624381080, .int .u32 310598401, .int .u32 607225278, .int .u32 1426881987, .int .u32 1925078388, .int .u32 2162078206, .int .u32 2614888103, .int .u32 3248222580, .int .u32 3835390401, .int .u32 4022224774, .int .u32 264347078, .int .u32 604807628, .int .u32 770255983, .int .u32 1249150122, .int .u32 1555081692, .int .u32 1996064986, .int .u32 2554220882, .int .u32 2821834349, .int .u32 2952996808, .int .u32 3210313671, .int .u32 3336571891, .int .u32 3584528711, .int .u32 113926993, .int .u32 338241895, .int .u32 666307205, .int .u32 773529912, .int .u32 1294757372, .int .u32 1396182291, .int .u32 1695183700, .int .u32 1986661051, .int .u32 2177026350, .int .u32 2456956037, .int .u32 2730485921, .int .u32 2820302411, .int .u32 3259730800, .int .u32 3345764771, .int .u32 3516065817, .int .u32 3600352804, .int .u32 4094571909, .int .u32 275423344, .int .u32 430227734, .int .u32 506948616, .int .u32 659060556, .int .u32 883997877, .int .u32 958139571, .int .u32 1322822218, .int .u32 1537002063, .int .u32 1747873779, .int .u32 1955562222, .int .u32 2024104815, .int .u32 2227730452, .int .u32 2361852424, .int .u32 2428436474, .int .u32 2756734187, .int .u32 3204031479, .int .u32 3329325298]

theorem wpList_value {P : Program} {ops : Array Oper} {Q : Exit → Act → World → Prop} {o : Oper} {rest : List Oper} {a : Act} {w : World} (hgd : o.guard = none) (v : Value) (hb : (execOp a.eval o).run P w = .ok (.value v) w) (h : wpList P ops Q rest (a.put o.dst v) w) :
    wpList P ops Q (o :: rest) a w :=
  wpList_plain hgd fun K hK => by
    unfold Oper.wp
    rw [hb, Oper.upon_value]
    exact hK _ _ h

set_option maxRecDepth 100000 in
set_option maxHeartbeats 4000000 in
theorem constants_at (w : World) : Calls Tryz.prog 98 #[] w fun e w' => e = .returned (.agg kCells) ∧ Below w.heap.size w w' := by
  go_enter Tryz.func98, Tryz.ntmps98
  iterate 11 go_step
  refine wpList_value rfl (.agg kCells) (by kernel_rfl) ?_
  refine wpList_store_row rfl _ _ _ rfl w.heap.size kCells rfl rfl 143 _ (Row.new w _ _) arr64_size rfl (by kernel_rfl) ?_
  rw [World.setRow_alloc_new]
  go_wp2_with fail
  exact bodyPost_ret (results_cell_row Tryz.results98 _ _ _ _ _ _ _ rfl (Row.new _ _ _) Tryz.underlying143 rfl arr64_size) rfl ⟨rfl, (Below.refl _ _).alloc (Nat.le_refl _) _⟩

set_option maxRecDepth 100000 in
set_option maxHeartbeats 4000000 in
theorem constants02_at (w : World) : Calls Tryz.prog 91 #[] w fun e w' => e = .returned (.agg kCells) ∧ Below w.heap.size w w' := by
  go_enter Tryz.func91, Tryz.ntmps91
  iterate 11 go_step
  refine wpList_value rfl (.agg kCells) (by kernel_rfl) ?_
  refine wpList_store_row rfl _ _ _ rfl w.heap.size kCells rfl rfl 143 _ (Row.new w _ _) arr64_size rfl (by kernel_rfl) ?_
  rw [World.setRow_alloc_new]
  go_wp2_with fail
  exact bodyPost_ret (results_cell_row Tryz.results91 _ _ _ _ _ _ _ rfl (Row.new _ _ _) Tryz.underlying143 rfl arr64_size) rfl ⟨rfl, (Below.refl _ _).alloc (Nat.le_refl _) _⟩

theorem kCells_eq : kCells = arr (fun t => Sha.uv (Sha.K t)) 64 := by kernel_rfl
theorem arr8_size : (Tryz.prog.info? 128).map (·.size) = some 8 := by kernel_rfl

set_option maxRecDepth 100000 in
theorem initial_at (w : World) : Calls Tryz.prog 85 #[] w fun e w' => e = .returned (.agg Sha.init.cells) ∧ Below w.heap.size w w' := by
  go_enter Tryz.func85, Tryz.ntmps85
  go_wp2_with fail
  exact bodyPost_ret (results_cell_row Tryz.results85 _ _ _ _ _ _ _ rfl (Row.new _ _ _) Tryz.underlying128 rfl arr8_size) rfl ⟨rfl, (Below.refl _ _).alloc (Nat.le_refl _) _⟩
set_option maxRecDepth 100000 in
theorem initial02_at (w : World) : Calls Tryz.prog 80 #[] w fun e w' => e = .returned (.agg Sha.init.cells) ∧ Below w.heap.size w w' := by
  go_enter Tryz.func80, Tryz.ntmps80
  go_wp2_with fail
  exact bodyPost_ret (results_cell_row Tryz.results80 _ _ _ _ _ _ _ rfl (Row.new _ _ _) Tryz.underlying128 rfl arr8_size) rfl ⟨rfl, (Below.refl _ _).alloc (Nat.le_refl _) _⟩
end Go.Proofs.YtfahbdakhbpfcaaGreat
