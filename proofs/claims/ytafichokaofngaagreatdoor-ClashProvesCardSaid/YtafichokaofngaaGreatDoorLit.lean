/- WALKS: the road of recipe.Make for a file of no bytes under K = N = Seg = 1: every function on it, with its closed arguments; conditions: none. -/
import Derived.Test.YtafichokaofngaaGreatDoorProg
import Derived.Test.YtafichokaofngaaGreatDoorBase
import Derived.Defers
import Derived.Recover
import Derived.KernelRfl
namespace Go.Proofs.YtafichokaofngaaGreatDoor
open Go.RowKit

theorem must_ok (w : World) : Calls Tryz.prog 176 #[.int .i64 0] w fun e w' => e = .returned (.tuple #[]) ∧ w = w' := by
  go_enter Tryz.func176, Tryz.ntmps176
  go_wp2
  go_end0
  exact ⟨rfl, rfl⟩

theorem literal0 (w : World) : Calls Tryz.prog 209 #[.int .i64 0] w fun e w' => e = .returned (.bool true) ∧ w = w' := by
  go_enter Tryz.func209, Tryz.ntmps209
  go_wp2
  go_ret
  exact ⟨rfl, rfl⟩

abbrev p111 : Value := .agg #[.int .i64 1, .int .i64 1, .int .i64 1, .int .i64 0, .slice none 0 0]

set_option maxHeartbeats 400000 in
theorem check111 (w : World) : Calls Tryz.prog 208 #[p111] w fun e w' => e = .returned (.int .i64 0) ∧ Below w.heap.size w w' := by
  go_enter Tryz.func208, Tryz.ntmps208
  go_wp2
  go_ret
  exact ⟨rfl, (Below.refl _ _).alloc (Nat.le_refl _) _⟩

/-- what a step inside gives up with -/
abbrev gave (k : Int) : List PanicEntry := [{ v := .iface 188 (.agg #[.int .i64 k]), recovered := false }]

set_option maxHeartbeats 400000 in
theorem shape_lit (w : World) : Calls Tryz.prog 173 #[.slice none 0 0, p111] w fun e w' => e = .panicked (gave 160) ∧ Below w.heap.size w w' := by
  go_enter Tryz.func173, Tryz.ntmps173
  go_wp2_with fail
  refine (check111 _).mono ?_
  rintro e w1 ⟨rfl, hb⟩
  obtain ⟨hc, hf⟩ := bcell hb
  go_wp2_with fail
  refine (must_ok _).mono ?_
  rintro e w2 ⟨rfl, rfl⟩
  go_wp2_with fail
  refine (literal0 _).mono ?_
  rintro e w2 ⟨rfl, rfl⟩
  go_wp2
  exact ⟨rfl, rfl, (((Below.refl _ _).alloc (Nat.le_refl _) _).alloc (by simp) _).trans (hb.mono (by simp; omega))⟩

set_option maxHeartbeats 400000 in
theorem key_lit (w : World) : Calls Tryz.prog 120 #[.slice none 0 0, p111] w fun e w' => e = .panicked (gave 160) ∧ Below w.heap.size w w' := by
  go_enter Tryz.func120, Tryz.ntmps120
  go_wp2_with fail
  refine (shape_lit _).mono ?_
  rintro e w1 ⟨rfl, hb⟩
  go_wp2_with fail
  exact ⟨rfl, rfl, ((((Below.refl _ _).alloc (Nat.le_refl _) _).alloc (by simp) _).alloc (by simp; omega) _).trans (hb.mono (by simp; omega))⟩

set_option maxHeartbeats 400000 in
theorem made_lit (f : Value) (w : World) : Calls Tryz.prog 72 #[.slice none 0 0, p111, f] w fun e w' => e = .panicked (gave 160) ∧ Below w.heap.size w w' := by
  go_enter Tryz.func72, Tryz.ntmps72
  go_wp2_with fail
  refine (key_lit _).mono ?_
  rintro e w1 ⟨rfl, hb⟩
  go_wp2_with fail
  exact ⟨rfl, rfl, (((Below.refl _ _).alloc (Nat.le_refl _) _).alloc (by simp) _).trans (hb.mono (by simp; omega))⟩

set_option maxHeartbeats 400000 in
theorem make1_lit (b p m : Nat) (w : World) (hb : w.cell? ⟨b, 0, none⟩ = some (.slice none 0 0)) (h0 : w.cell? ⟨p, 0, none⟩ = some (.int .i64 1)) (h1 : w.cell? ⟨p, 1, none⟩ = some (.int .i64 1))
    (h2 : w.cell? ⟨p, 2, none⟩ = some (.int .i64 1)) (h3 : w.cell? ⟨p, 3, none⟩ = some (.int .i64 0)) (h4 : w.cell? ⟨p, 4, none⟩ = some (.slice none 0 0)) :
    Calls Tryz.prog 71 #[.pointer (some ⟨b, 0, none⟩), .pointer (some ⟨p, 0, none⟩), .pointer (some ⟨m, 0, none⟩)] w fun e w' => e = .panicked (gave 160) ∧ Below w.heap.size w w' := by
  go_enter Tryz.func71, Tryz.ntmps71
  go_wp2_with fail
  refine (made_lit _ _).mono ?_
  rintro e w1 ⟨rfl, hb⟩
  go_wp2_with fail
  exact ⟨rfl, rfl, hb⟩

theorem is_refusal (k : Int) (w : World) : (Instr.typeAssert (.iface 188 (.agg #[.int .i64 k])) 20 188 true).run Tryz.prog w = .ok (.tuple #[.agg #[.int .i64 k], .bool true]) w := by kernel_rfl

set_option maxRecDepth 100000 in
theorem catch_gave (r : Nat) (k x : Int) (older : List PanicEntry) (w : World) (hc : w.cell? ⟨r, 0, none⟩ = some (.int .i64 x)) (hz : w.frozen? ⟨r, 0, none⟩ = false) (hr : r < w.heap.size) :
    CallsD Tryz.prog 119 #[.pointer (some ⟨r, 0, none⟩)] (.panicking ({ v := .iface 188 (.agg #[.int .i64 k]), recovered := false } :: older)) w fun e u' w' =>
      e = .returned (.tuple #[]) ∧ u' = .panicking ({ v := .iface 188 (.agg #[.int .i64 k]), recovered := true } :: older) ∧ w' = (w.setCell ⟨r, 0, none⟩ (.int .i64 k)).alloc (.cells #[.int .i64 k] 188) := by
  have hta := is_refusal k
  refine callsD_of_wpS Tryz.func119 rfl fun c₀ cs hu => ?_
  apply wpS_seq
  apply wpS_region
  simp [wpOpsS, go_sem, recoverD, hu, Tryz.ntmps119, Exit.thenS]
  refine wpS_of_wp ?_
  generalize hQ : (fun (e : Exit) (a' : Act) (w' : World) => bodyPostS _ _ _ _ _ e a' _ w') = Q
  have HQ := Lib.hid hQ
  clear hu hQ
  change Code.wp _ _ Q { tmps := #[.pointer (some ⟨r, 0, none⟩), undef, undef, undef, .iface 188 (.agg #[.int .i64 k]), undef, undef, undef, undef, undef, undef, undef], defers := [] } w
  go_wp2
  rw [← HQ.out]
  exact ⟨rfl, _, rfl, .tuple #[], by simp [results, Tryz.results119], rfl, rfl, rfl⟩

set_option maxHeartbeats 400000 in
theorem tried_lit (b p m : Nat) (w : World) (hb : w.cell? ⟨b, 0, none⟩ = some (.slice none 0 0)) (h0 : w.cell? ⟨p, 0, none⟩ = some (.int .i64 1)) (h1 : w.cell? ⟨p, 1, none⟩ = some (.int .i64 1))
    (h2 : w.cell? ⟨p, 2, none⟩ = some (.int .i64 1)) (h3 : w.cell? ⟨p, 3, none⟩ = some (.int .i64 0)) (h4 : w.cell? ⟨p, 4, none⟩ = some (.slice none 0 0)) :
    Calls Tryz.prog 70 #[.func (.func 71) #[] #[.pointer (some ⟨b, 0, none⟩), .pointer (some ⟨p, 0, none⟩), .pointer (some ⟨m, 0, none⟩)]] w fun e w' => e = .returned (.int .i64 160) ∧ Below w.heap.size w w' := by
  have hmf : ∀ (fn : Fn) (first cap : Array Value) (w : World), (Instr.makeFunc fn first cap).run Tryz.prog w = .ok (.func fn first cap) w := fun _ _ _ _ => rfl
  have lb := block_lt_of_cell hb
  have lp := block_lt_of_cell h0
  go_enter_defers Tryz.func70, Tryz.ntmps70
  go_wp2_with fail
  refine (make1_lit b p m _ (cell_al _ hb) (cell_al _ h0) (cell_al _ h1) (cell_al _ h2) (cell_al _ h3) (cell_al _ h4)).mono ?_
  rintro e w1 ⟨rfl, hbl⟩
  have hc1 : w1.cell? ⟨w.heap.size, 0, none⟩ = some (.int .i64 0) := (hbl.cell (p := ⟨w.heap.size, 0, none⟩) (by simp)).trans (by simp [go_sem])
  have hz1 : w1.frozen? ⟨w.heap.size, 0, none⟩ = false := (hbl.frozen (p := ⟨w.heap.size, 0, none⟩) (by simp)).trans (by simp [go_sem])
  have hs1 := hbl.size
  go_wp2_with fail
  refine leaves_cons (f := 119) (args := #[.pointer (some ⟨w.heap.size, 0, none⟩)]) (by simp) (by simp [go_sem]) ?_
  refine (catch_gave w.heap.size 160 0 [] _ hc1 hz1 (by simp at hs1; omega)).mono ?_
  rintro e u' w2 ⟨rfl, rfl, rfl⟩
  have hb2 : Below w.heap.size w ((w1.setCell ⟨w.heap.size, 0, none⟩ (.int .i64 160)).alloc (.cells #[.int .i64 160] 188)) :=
    (((((Below.refl _ _).alloc (Nat.le_refl _) _).trans (hbl.mono (by simp)))).setCell (p := ⟨w.heap.size, 0, none⟩) (Nat.le_refl _) _).alloc (by simp at hs1 ⊢; omega) _
  have hcf : ((w1.setCell ⟨w.heap.size, 0, none⟩ (.int .i64 160)).alloc (.cells #[.int .i64 160] 188)).cell? ⟨w.heap.size, 0, none⟩ = some (.int .i64 160) :=
    cell_al _ (World.cell?_setCell_same _ _ _ hc1)
  generalize (w1.setCell ⟨w.heap.size, 0, none⟩ (.int .i64 160)).alloc (.cells #[.int .i64 160] 188) = w3 at hb2 hcf ⊢
  simp [Leaves, settle, results, Tryz.results70, go_sem, hcf]
  exact hb2

theorem made_size : (Tryz.prog.info? 39).map (·.size) = some Tryz.zeroCells39.size := by kernel_rfl
theorem made_one : Tryz.zeroCells39.all (·.oneCell') = true := by kernel_rfl
theorem made_desc : Tryz.prog.underlying 39 = some (.struct (Tryz.prog.fieldsOf 39)) := by kernel_rfl

set_option maxRecDepth 100000 in
set_option maxHeartbeats 400000 in
theorem make_lit (w : World) : Calls Tryz.prog 31 #[.slice none 0 0, p111] w fun e w' => e = .returned (.tuple #[.agg Tryz.zeroCells39, .int .i64 160]) ∧ Below w.heap.size w w' := by
  have hmf : ∀ (fn : Fn) (first cap : Array Value) (w : World), (Instr.makeFunc fn first cap).run Tryz.prog w = .ok (.func fn first cap) w := fun _ _ _ _ => rfl
  go_enter Tryz.func31, Tryz.ntmps31
  go_wp2_with fail
  refine (tried_lit _ _ _ _ ?_ ?_ ?_ ?_ ?_ ?_).mono ?_
  iterate 6 (simp [go_sem])
  rintro e w1 ⟨rfl, hb1⟩
  have hr : Row w1 (w.heap.size + 1 + 1) 39 Tryz.zeroCells39 := by
    have h0 := Row.new ((w.alloc (.cells #[.slice none 0 0] 22)).alloc (.cells #[.int .i64 1, .int .i64 1, .int .i64 1, .int .i64 0, .slice none 0 0] 24)) 39 Tryz.zeroCells39
    simp only [World.size_alloc] at h0
    exact h0.below hb1 (by simp)
  have hs1 := hb1.size
  have hst := run_storeCells_row (P := Tryz.prog) Tryz.zeroCells39 hr made_size rfl made_one
  go_wp2
  refine bodyPost_ret (v := .tuple #[.agg Tryz.zeroCells39, .int .i64 160]) (results_row_tmp Tryz.results31 _ _ _ _ _ _ rfl (hr.setRow _) made_desc rfl made_size) rfl ⟨rfl, ?_⟩
  exact below_setRow (((((Below.refl _ _).alloc (Nat.le_refl _) _).alloc (by simp) _).alloc (by simp; omega) _).trans (hb1.mono (by simp; omega))) (by omega) _

theorem clash_size : (Tryz.prog.info? 54).map (·.size) = some 2 := by kernel_rfl
theorem clash_desc : Tryz.prog.underlying 54 = some (.struct (Tryz.prog.fieldsOf 54)) := by kernel_rfl

set_option maxRecDepth 100000 in
set_option maxHeartbeats 400000 in
theorem findShare_lit (w : World) : Calls Tryz.prog 11 #[.slice none 0 0, .agg #[.int .i64 1, .int .i64 1, .int .i64 1, .int .i64 0, .slice none 0 0], .slice none 0 0] w fun e w' =>
    e = .returned (.tuple #[.agg #[.slice none 0 0, .slice none 0 0], .int .i64 160]) ∧ Below w.heap.size w w' := by
  go_enter Tryz.func11, Tryz.ntmps11
  go_wp2_with fail
  refine (make_lit _).mono ?_
  rintro e w1 ⟨rfl, hb1⟩
  have hs1 := hb1.size
  obtain ⟨hc, hf⟩ := bcell hb1
  have hst := fun W => run_storeCells_new (P := Tryz.prog) W 39 Tryz.zeroCells39 Tryz.zeroCells39 made_size rfl made_one
  have hlt : w.heap.size + 1 < w1.heap.size := by simp at hs1; omega
  have hr : Row w1 (w.heap.size + 1) 54 #[.slice none 0 0, .slice none 0 0] := by
    have h0 := Row.new (w.alloc (.cells #[.int .i64 1, .int .i64 1, .int .i64 1, .int .i64 0, .slice none 0 0] 24)) 54 #[.slice none 0 0, .slice none 0 0]
    simp only [World.size_alloc] at h0
    exact h0.below hb1 (by simp)
  go_wp2
  refine bodyPost_ret (v := .tuple #[.agg #[.slice none 0 0, .slice none 0 0], .int .i64 160]) (results_row_tmp Tryz.results11 _ _ _ _ _ _ rfl (((hr.store 0 _).store 1 _).alloc _) clash_desc rfl clash_size) rfl ⟨rfl, ?_⟩
  exact ((((((Below.refl _ _).alloc (Nat.le_refl _) _).alloc (by simp) _).trans (hb1.mono (by simp; omega))).setCell (p := ⟨w.heap.size + 1, 0, none⟩) (by simp) _).setCell (p := ⟨w.heap.size + 1, 1, none⟩) (by simp) _).alloc (by simp; omega) _
end Go.Proofs.YtafichokaofngaaGreatDoor
