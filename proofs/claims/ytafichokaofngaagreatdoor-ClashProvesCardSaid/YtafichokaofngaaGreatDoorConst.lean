/- WALK: the 64 constants of SHA-256, the program's and the document's; conditions: none. -/
import Derived.Test.YtafichokaofngaaGreatDoorRound
namespace Go.Proofs.YtafichokaofngaaGreatDoor
open Go.RowKit

theorem arr64_size : (Tryz.prog.info? 212).map (·.size) = some 64 := by kernel_rfl
def kCells : Array Value := #[.int .u32 1116352408, .int .u32 1899447441, .int .u32 3049323471, .int .u32 3921009573, .int .u32 961987163, .int .u32 1508970993, .int .u32 2453635748, .int .u32 2870763221, .int .u32 3624381080, .int .u32 310598401, .int .u32 607225278, .int .u32 1426881987, .int .u32 1925078388, .int .u32 2162078206, .int .u32 2614888103, .int .u32 3248222580, .int .u32 3835390401, .int .u32 4022224774, .int .u32 264347078, .int .u32 604807628, .int .u32 770255983, .int .u32 1249150122, .int .u32 1555081692, .int .u32 1996064986, .int .u32 2554220882, .int .u32 2821834349, .int .u32 2952996808, .int .u32 3210313671, .int .u32 3336571891, .int .u32 3584528711, .int .u32 113926993, .int .u32 338241895, .int .u32 666307205, .int .u32 773529912, .int .u32 1294757372, .int .u32 1396182291, .int .u32 1695183700, .int .u32 1986661051, .int .u32 2177026350, .int .u32 2456956037, .int .u32 2730485921, .int .u32 2820302411, .int .u32 3259730800, .int .u32 3345764771, .int .u32 3516065817, .int .u32 3600352804, .int .u32 4094571909, .int .u32 275423344, .int .u32 430227734, .int .u32 506948616, .int .u32 659060556, .int .u32 883997877, .int .u32 958139571, .int .u32 1322822218, .int .u32 1537002063, .int .u32 1747873779, .int .u32 1955562222, .int .u32 2024104815, .int .u32 2227730452, .int .u32 2361852424, .int .u32 2428436474, .int .u32 2756734187, .int .u32 3204031479, .int .u32 3329325298]

theorem wpList_value {P : Program} {ops : Array Oper} {Q : Exit → Act → World → Prop} {o : Oper} {rest : List Oper} {a : Act} {w : World} (hgd : o.guard = none) (v : Value) (hb : (execOp a.eval o).run P w = .ok (.value v) w) (h : wpList P ops Q rest (a.put o.dst v) w) :
    wpList P ops Q (o :: rest) a w :=
  wpList_plain hgd fun K hK => by
    unfold Oper.wp
    rw [hb, Oper.upon_value]
    exact hK _ _ h

set_option maxRecDepth 100000 in
set_option maxHeartbeats 4000000 in
theorem constants_at (w : World) : Calls Tryz.prog 201 #[] w fun e w' => e = .returned (.agg kCells) ∧ Below w.heap.size w w' := by
  go_enter Tryz.func201, Tryz.ntmps201
  iterate 11 go_step
  refine wpList_value rfl (.agg kCells) (by kernel_rfl) ?_
  refine wpList_store_row rfl _ _ _ rfl w.heap.size kCells rfl rfl 212 _ (Row.new w _ _) arr64_size rfl (by kernel_rfl) ?_
  rw [World.setRow_alloc_new]
  go_wp2_with fail
  exact bodyPost_ret (results_cell_row Tryz.results201 _ _ _ _ _ _ _ rfl (Row.new _ _ _) Tryz.underlying212 rfl arr64_size) rfl ⟨rfl, (Below.refl _ _).alloc (Nat.le_refl _) _⟩

set_option maxRecDepth 100000 in
set_option maxHeartbeats 4000000 in
theorem constants02_at (w : World) : Calls Tryz.prog 154 #[] w fun e w' => e = .returned (.agg kCells) ∧ Below w.heap.size w w' := by
  go_enter Tryz.func154, Tryz.ntmps154
  iterate 11 go_step
  refine wpList_value rfl (.agg kCells) (by kernel_rfl) ?_
  refine wpList_store_row rfl _ _ _ rfl w.heap.size kCells rfl rfl 212 _ (Row.new w _ _) arr64_size rfl (by kernel_rfl) ?_
  rw [World.setRow_alloc_new]
  go_wp2_with fail
  exact bodyPost_ret (results_cell_row Tryz.results154 _ _ _ _ _ _ _ rfl (Row.new _ _ _) Tryz.underlying212 rfl arr64_size) rfl ⟨rfl, (Below.refl _ _).alloc (Nat.le_refl _) _⟩

theorem kCells_eq : kCells = arr (fun t => Sha.uv (Sha.K t)) 64 := by kernel_rfl
theorem arr8_size : (Tryz.prog.info? 157).map (·.size) = some 8 := by kernel_rfl

set_option maxRecDepth 100000 in
theorem initial_at (w : World) : Calls Tryz.prog 156 #[] w fun e w' => e = .returned (.agg Sha.init.cells) ∧ Below w.heap.size w w' := by
  go_enter Tryz.func156, Tryz.ntmps156
  go_wp2_with fail
  exact bodyPost_ret (results_cell_row Tryz.results156 _ _ _ _ _ _ _ rfl (Row.new _ _ _) Tryz.underlying157 rfl arr8_size) rfl ⟨rfl, (Below.refl _ _).alloc (Nat.le_refl _) _⟩
set_option maxRecDepth 100000 in
theorem initial02_at (w : World) : Calls Tryz.prog 94 #[] w fun e w' => e = .returned (.agg Sha.init.cells) ∧ Below w.heap.size w w' := by
  go_enter Tryz.func94, Tryz.ntmps94
  go_wp2_with fail
  exact bodyPost_ret (results_cell_row Tryz.results94 _ _ _ _ _ _ _ rfl (Row.new _ _ _) Tryz.underlying157 rfl arr8_size) rfl ⟨rfl, (Below.refl _ _).alloc (Nat.le_refl _) _⟩
end Go.Proofs.YtafichokaofngaaGreatDoor
