/- WALK: sha.round: one round of SHA-256; conditions: none. -/
import Derived.Test.YtafichokaofngaaGreatDoorRot
namespace Go.Proofs.YtafichokaofngaaGreatDoor
open Go.RowKit

theorem quiet_same2 {P : Program} {f : FuncId} {args : Array Value} {w : World} {n m : Nat} {v : Value} (h : Calls P f args (w.drewN (n + m)) fun e w' => e = .returned v ∧ w.drewN (n + m) = w') :
    Calls P f args (w.drewN (n + m)) fun e w'' => e = .returned v ∧ ∃ k, w'' = w.drewN (n + k) :=
  h.mono fun _ _ ⟨he, hm⟩ => ⟨he, m, hm.symm⟩

theorem not_w (x : Sha.U) : bits .xor .u32 IntKind.u32.max (x.toNat : Int) = ((~~~x).toNat : Int) := by
  have h : IntKind.u32.max = (((4294967295 : Sha.U).toNat : Nat) : Int) := by kernel_rfl
  rw [h, Sha.xor_w]
  congr 2
theorem not_w2 (x : Sha.U) : bits .xor .u32 4294967295 (x.toNat : Int) = ((~~~x).toNat : Int) := by
  have h : IntKind.u32.max = 4294967295 := by kernel_rfl
  rw [← h, not_w]
theorem sum42 (a b c d e f : Sha.U) : ((a.toNat : Int) + b.toNat + c.toNat + d.toNat + (e.toNat + f.toNat)) % 4294967296 = (((a + b + c + d) + (e + f)).toNat : Int) := by
  simp only [BitVec.toNat_add]
  omega
theorem sum14 (z a b c d : Sha.U) : ((z.toNat : Int) + (a.toNat + b.toNat + c.toNat + d.toNat)) % 4294967296 = ((z + (a + b + c + d)).toNat : Int) := by
  simp only [BitVec.toNat_add]
  omega
theorem words_size : (Tryz.prog.info? 216).map (·.size) = some 8 := by kernel_rfl

set_option maxRecDepth 100000 in
set_option maxHeartbeats 4000000 in
theorem round_at (s : Sha.St) (kw : Sha.U) (w : World) : Calls Tryz.prog 202 #[.agg #[Sha.uv s.a, Sha.uv s.b, Sha.uv s.c, Sha.uv s.d, Sha.uv s.e, Sha.uv s.f, Sha.uv s.g, Sha.uv s.h], Sha.uv kw] w fun e w' => e = .returned (.agg (Sha.step s kw).cells) ∧ Below w.heap.size w w' := by
  go_enter Tryz.func202, Tryz.ntmps202
  go_wp2_with fail
  go_quiet (fail)
  go_wp2_with fail
  go_quiet ((go_at_call 234; exact quiet_same2 (rotk _ _ (by decide) _)))
  go_wp2_with fail
  go_quiet ((go_at_call 234; exact quiet_same2 (rotk _ _ (by decide) _)))
  go_wp2_with fail
  have hr : ∀ n, Row (((w.alloc (.cells #[Sha.uv s.a, Sha.uv s.b, Sha.uv s.c, Sha.uv s.d, Sha.uv s.e, Sha.uv s.f, Sha.uv s.g, Sha.uv s.h] 216)).alloc (.cells #[.int .u32 0, .int .u32 0, .int .u32 0, .int .u32 0, .int .u32 0, .int .u32 0, .int .u32 0, .int .u32 0] 216)).drewN n) (w.heap.size + 1) 216 #[.int .u32 0, .int .u32 0, .int .u32 0, .int .u32 0, .int .u32 0, .int .u32 0, .int .u32 0, .int .u32 0] := fun n => by
    have h := Row.new (w.alloc (.cells #[Sha.uv s.a, Sha.uv s.b, Sha.uv s.c, Sha.uv s.d, Sha.uv s.e, Sha.uv s.f, Sha.uv s.g, Sha.uv s.h] 216)) 216 #[.int .u32 0, .int .u32 0, .int .u32 0, .int .u32 0, .int .u32 0, .int .u32 0, .int .u32 0, .int .u32 0]
    simp only [World.size_alloc] at h
    exact h.drewN n
  simp only [Sha.xor_w, Sha.and_w, not_w, sum42, sum14]
  refine bodyPost_ret (results_cell_row Tryz.results202 _ _ _ _ _ _ _ rfl ((((((((( hr _).store 0 _).store 1 _).store 2 _).store 3 _).store 4 _).store 5 _).store 6 _).store 7 _) Tryz.underlying216 rfl words_size) rfl ⟨rfl, ?_⟩
  refine ((((((((((((Below.refl w.heap.size w).alloc (Nat.le_refl _) _).alloc (by simp) _) |> fun h => below_drewN h _).setCell (p := ⟨w.heap.size + 1, 0, none⟩) (by simp) _).setCell (p := ⟨w.heap.size + 1, 1, none⟩) (by simp) _).setCell (p := ⟨w.heap.size + 1, 2, none⟩) (by simp) _).setCell (p := ⟨w.heap.size + 1, 3, none⟩) (by simp) _).setCell (p := ⟨w.heap.size + 1, 4, none⟩) (by simp) _).setCell (p := ⟨w.heap.size + 1, 5, none⟩) (by simp) _).setCell (p := ⟨w.heap.size + 1, 6, none⟩) (by simp) _).setCell (p := ⟨w.heap.size + 1, 7, none⟩) (by simp) _)
end Go.Proofs.YtafichokaofngaaGreatDoor
