/- ClashProves returns true, whatever is handed in: its card; conditions: the row's own (the listed variables hold what the program's text lays). -/
import Derived.Test.YtafichokaofngaaGreatDoorOpen
import Derived.Test.YtafichokaofngaaGreatDoorClosed
import Derived.Test.YtafichokaofngaaGreatDoorLives
import Derived.Test.YtafichokaofngaaGreatDoorPost
import Derived.Test.YtafichokaofngaaGreatDoorCards
import Derived.Test.YtafichokaofngaaGreatDoorTie
import Derived.LaidMore
import Derived.SevenTiedAt
import Derived.Stop.Joined
import Derived.Leaving
import Derived.Carry
namespace Go.Proofs.YtafichokaofngaaGreatDoor
open Go.ChangeShapes Go.WideShapes Go.ChangeAt Go.RowKit Go.Deep

theorem own : ownKnob Tryz.prog.godebug = none := by kernel_rfl
theorem lays_out : laidOutB Tryz.prog = true := j02
theorem five {α : Type} {l : List α} (h : l.length = 5) : ∃ a b c d e, l = [a, b, c, d, e] := by
  rcases l with _ | ⟨a, _ | ⟨b, _ | ⟨c, _ | ⟨d, _ | ⟨e, _ | ⟨f, l⟩⟩⟩⟩⟩⟩ <;> simp at h
  exact ⟨a, b, c, d, e, rfl⟩
theorem two {α : Type} {l : List α} (h : l.length = 2) : ∃ a b, l = [a, b] := by
  rcases l with _ | ⟨a, _ | ⟨b, _ | ⟨f, l⟩⟩⟩ <;> simp at h
  exact ⟨a, b, rfl⟩

section
variable {H : Type} {enc : TypeId × Value → H} {w : World} {base : Nat} {held : Bool}

theorem cells_got : Tryz.prog.cellsOf 61 = 5 := by kernel_rfl
theorem cells_clash : Tryz.prog.cellsOf 54 = 2 := by kernel_rfl
theorem cells_rows : Tryz.prog.cellsOf 37 = 1 := by kernel_rfl
theorem cells_int : Tryz.prog.cellsOf 3 = 1 := by kernel_rfl

theorem field_at {spare : Nat → Bool} {fs : Array Field} {m : Nat} {cs : List Value} {xs : List (DataW H × List MemPlace)}
    (hf : ∀ (i : Nat) (f : Field), fs[i]? = some f → DataW.trod enc Tryz.prog w base spare held m f.type ((cs.drop f.offset).take (Tryz.prog.cellsOf f.type)) = xs[i]?)
    (i : Nat) (t : TypeId) {f : Field} {v : Value} {r : List Value} {x : DataW H × List MemPlace} (hi : fs[i]? = some f) (ht : f.type = t) (hc : Tryz.prog.cellsOf t = 1) (hd : cs.drop f.offset = v :: r) (hx : xs[i]? = some x) :
    DataW.trod enc Tryz.prog w base spare held m t [v] = some x := by
  subst ht
  have := hf i f hi
  rw [hc, hd, hx] at this
  exact this

/-- a read's answer, opened -/
theorem open_got {v : Value} {d : DataW H} {ps : List MemPlace} {cs : Array Value} (hv : v = .agg cs) (h : DataW.Trod enc Tryz.prog w base (fun _ => true) held 61 v d ps) :
    ∃ (p : Option Addr) (n c : Nat) (f : Int) (pa : Option Addr) (nA cA : Nat) (pf : Option Addr) (nf cf : Nat) (r : Int) (X : List UInt8) (ls : List (List UInt8)),
      cs = gotV p n c f pa nA cA pf nf cf r ∧ Has w (.slice p n c) (X.map Sha.bv) ∧ Segs w pa nA ls ∧
      ∀ R, (∀ k ∈ d.weights Tryz.prog 61, k ≤ R) → X.length ≤ R ∧ nA ≤ R ∧ ∀ l ∈ ls, l.length ≤ R := by
  subst hv
  obtain ⟨fuel, h⟩ := h
  obtain ⟨xs, m, rfl, hd, hlen, hxs, hf⟩ := DataW.trod_struct Tryz.underlying61 h
  obtain rfl : d = .agg (xs.map (·.1)) := congrArg Prod.fst hd
  rw [cells_got] at hlen
  obtain ⟨l⟩ := cs
  change l.length = 5 at hlen
  obtain ⟨v0, v1, v2, v3, v4, rfl⟩ := five hlen
  obtain ⟨x0, x1, x2, x3, x4, rfl⟩ := five hxs
  have f0 := field_at hf 0 22 (v := v0) rfl rfl ccells_row rfl rfl
  have f1 := field_at hf 1 3 (v := v1) rfl rfl cells_int rfl rfl
  have f2 := field_at hf 2 37 (v := v2) rfl rfl cells_rows rfl rfl
  have f3 := field_at hf 3 22 (v := v3) rfl rfl ccells_row rfl rfl
  have f4 := field_at hf 4 3 (v := v4) rfl rfl cells_int rfl rfl
  obtain ⟨p, n, c, X, e0, hX, lX, bX⟩ := open_bytes f0
  obtain ⟨z1, e1, _, _⟩ := DataW.trod_int Tryz.underlying3 f1
  obtain ⟨pa, nA, cA, ls, e2, hS, bS⟩ := open_segs f2
  obtain ⟨pf, nf, cf, F, e3, _, _, _⟩ := open_bytes f3
  obtain ⟨z4, e4, _, _⟩ := DataW.trod_int Tryz.underlying3 f4
  obtain rfl := (List.cons.inj e0).1
  obtain rfl := (List.cons.inj e1).1
  obtain rfl := (List.cons.inj e2).1
  obtain rfl := (List.cons.inj e3).1
  obtain rfl := (List.cons.inj e4).1
  refine ⟨p, n, c, z1, pa, nA, cA, pf, nf, cf, z4, X, ls, rfl, hX, hS, fun R hR => ?_⟩
  simp only [DataW.weights, Tryz.underlying61, List.map_cons, List.map_nil] at hR
  have r0 := bX R (fun k hk => hR k (DataW.weights_mem_each (j := 0) rfl rfl k hk))
  have r2 := bS R (fun k hk => hR k (DataW.weights_mem_each (j := 2) rfl rfl k hk))
  exact ⟨by omega, r2.1, r2.2⟩

/-- a clash, opened -/
theorem open_clash {v : Value} {d : DataW H} {ps : List MemPlace} {cs : Array Value} (hv : v = .agg cs) (h : DataW.Trod enc Tryz.prog w base (fun _ => true) held 54 v d ps) :
    ∃ (s1 s2 : Option Addr) (n1 n2 c1 c2 : Nat) (x y : List UInt8), cs = #[.slice s1 n1 c1, .slice s2 n2 c2] ∧ Has w (.slice s1 n1 c1) (x.map Sha.bv) ∧ Has w (.slice s2 n2 c2) (y.map Sha.bv) ∧
      ∀ R, (∀ k ∈ d.weights Tryz.prog 54, k ≤ R) → n1 ≤ R ∧ n2 ≤ R := by
  subst hv
  obtain ⟨fuel, h⟩ := h
  obtain ⟨xs, m, rfl, hd, hlen, hxs, hf⟩ := DataW.trod_struct Tryz.underlying54 h
  obtain rfl : d = .agg (xs.map (·.1)) := congrArg Prod.fst hd
  rw [cells_clash] at hlen
  obtain ⟨l⟩ := cs
  change l.length = 2 at hlen
  obtain ⟨v0, v1, rfl⟩ := two hlen
  obtain ⟨x0, x1, rfl⟩ := two hxs
  have f0 := field_at hf 0 22 (v := v0) rfl rfl ccells_row rfl rfl
  have f1 := field_at hf 1 22 (v := v1) rfl rfl ccells_row rfl rfl
  obtain ⟨s1, n1, c1, x, e0, hX, _, bX⟩ := open_bytes f0
  obtain ⟨s2, n2, c2, y, e1, hY, _, bY⟩ := open_bytes f1
  obtain rfl := (List.cons.inj e0).1
  obtain rfl := (List.cons.inj e1).1
  refine ⟨s1, s2, n1, n2, c1, c2, x, y, rfl, hX, hY, fun R hR => ?_⟩
  simp only [DataW.weights, Tryz.underlying54, List.map_cons, List.map_nil] at hR
  exact ⟨bX R (fun k hk => hR k (DataW.weights_mem_each (j := 0) rfl rfl k hk)), bY R (fun k hk => hR k (DataW.weights_mem_each (j := 1) rfl rfl k hk))⟩

end

/-- the heap that the initialisers' own run leaves meets the condition -/
theorem door_met (os : Os) (args : Array Value) : laidMetH Tryz.prog Rows.clashProvesRow.laid ((World.doorLaid Tryz.prog 62 os).forCall (fun _ _ => 0) ⟨#[], args, []⟩).memory :=
  laidMetH_of_parts3 (fuel := 8) (laidMet_of_run' 8 (by kernel_rfl) (by kernel_rfl)) (by kernel_rfl) (by kernel_rfl)

/-- an input for the witness: three structs, all nought -/
noncomputable def inputs : Array Value := #[((Tryz.prog.info? 61).bind (·.zero)).getD undef, ((Tryz.prog.info? 61).bind (·.zero)).getD undef, ((Tryz.prog.info? 54).bind (·.zero)).getD undef]

theorem reach_val : reachBytes = 140737488351232 := by decide

set_option maxRecDepth 100000 in
theorem proves_lifted (os : Os) (started : os.Started) (H : Type) (enc : TypeId × Value → H) :
    ReturnsInHanded {} Tryz.checked os 4 .any (fun w args => (Rows.clashProvesSpec.pre enc Tryz.prog Tryz.f4 [] false w args ∧ laidMetH Tryz.prog Rows.clashProvesRow.laid w) ∧ sizedMet enc Tryz.prog Tryz.f4 (OpenSpec.ofChange Rows.clashProvesSpec) false w args)
      (Rows.clashProvesSpec.post enc Tryz.prog Tryz.f4 false true false false) := by
  refine returnsInHanded_of_change_and (C := Tryz.checked) (X := fun w _ => laidMetH Tryz.prog Rows.clashProvesRow.laid w) (fun _ _ _ hh h => h.of_heap hh) own started (by kernel_rfl) Tryz.func4
    (ChangeSpec.witness_shaped (enc := enc) (C := Tryz.checked) (os := os) (X := fun w _ => laidMetH Tryz.prog Rows.clashProvesRow.laid w) false (World.doorLaid Tryz.prog 62 os) inputs 8 rfl (World.shaped_of_RefB (by kernel_rfl) (by kernel_rfl)) (by kernel_rfl) (by kernel_rfl) (by kernel_rfl) (door_met os _)) ?_
  intro W base args ds gs before hval0 hW _ hR _ _
  have hval : ∀ (j : Nat) t v, Tryz.f4.params[j]? = some t → args[j]? = some v → Value.okWide Tryz.prog W .any base t v := hval0
  have hW' := hW
  obtain ⟨p, q, hA0, hV, rfl, hfz, hnd⟩ := hW
  have hA : DataW.TrodAll enc Tryz.prog W 0 (fun _ => true) true Tryz.f4.params.toList args.toList ds p := hA0
  have hR' : (DataW.weightsEach Tryz.prog (Tryz.f4.params.toList ++ Rows.clashProvesSpec.plain.varTypes Tryz.prog) (ds ++ gs)).all (· ≤ reachBytes) = true := hR
  rw [Tryz.params4] at hA hval hR'
  obtain ⟨v0, v1, v2, d0, d1, d2, p0, p1, p2, rfl, rfl, rfl, h0, h1, h2⟩ := trodAll_three hA
  obtain ⟨rfl, rfl⟩ := trodVars_none hV
  have hR2 : ∀ k ∈ DataW.weightsEach Tryz.prog [61, 61, 54] [d0, d1, d2], k ≤ 140737488351232 := fun k hk => by
    have := List.all_eq_true.1 hR' k (by rw [show Rows.clashProvesSpec.plain.varTypes Tryz.prog = [] from rfl]; exact hk)
    rw [reach_val] at this
    simpa using this
  obtain ⟨c0, e0, _⟩ := okWide_struct Tryz.underlying61 (hval 0 _ v0 rfl rfl)
  obtain ⟨c1, e1, _⟩ := okWide_struct Tryz.underlying61 (hval 1 _ v1 rfl rfl)
  obtain ⟨c2, e2, _⟩ := okWide_struct Tryz.underlying54 (hval 2 _ v2 rfl rfl)
  obtain ⟨pu, n, c, fa, pa, nA, cA, pf, nf, cf, ra, X, lsA, rfl, hX, sA, bA⟩ := open_got e0 h0
  obtain ⟨qu, m, d, fb, pb, nB, cB, pg, ng, cg, rb, Y, lsB, rfl, hY, sB, bB⟩ := open_got e1 h1
  obtain ⟨s1, s2, n1, n2, k1, k2, x, y, rfl, hx, hy, bC⟩ := open_clash e2 h2
  subst e0 e1 e2
  simp only [List.append_nil] at hW'
  have hlt : ∀ z ∈ p0 ++ p1 ++ p2, z.block < W.heap.size := fun z hz => hW'.lt z hz
  obtain ⟨a1, a2, a3⟩ := bA _ (fun k hk => hR2 k (DataW.weights_mem_each (j := 0) rfl rfl k hk))
  obtain ⟨b1, b2, b3⟩ := bB _ (fun k hk => hR2 k (DataW.weights_mem_each (j := 1) rfl rfl k hk))
  obtain ⟨g1, g2⟩ := bC _ (fun k hk => hR2 k (DataW.weights_mem_each (j := 2) rfl rfl k hk))
  refine (clashProves_true pu qu n m c d X Y pa pb pf pg nA nB cA cB nf cf ng cg fa fb ra rb lsA lsB s1 s2 n1 n2 k1 k2 x y W hX a1 sA a3 (by omega) hY b1 sB b3 (by omega) hx (by omega) hy (by omega)).mono fun e W' ⟨he, hb⟩ => ?_
  subst he
  exact ⟨_, rfl, [d0, d1, d2], [], p0 ++ p1 ++ p2, [], p0 ++ (p1 ++ p2), [], hW', trodAll_mk1 (shut_bool Tryz.underlying4 _),
    trodAll_mk3 (Below.trod lays_out (by kernel_rfl) (of_decide_eq_true (by kernel_rfl)) h0 hb (fun x hx => hlt x (by simp [hx]))) (Below.trod lays_out (by kernel_rfl) (of_decide_eq_true (by kernel_rfl)) h1 hb (fun x hx => hlt x (by simp [hx])))
      (Below.trod lays_out (by kernel_rfl) (of_decide_eq_true (by kernel_rfl)) h2 hb (fun x hx => hlt x (by simp [hx]))),
    rfl, hb.frame _, fun h => by cases h⟩

theorem proves_inst : Tryz.f4.isInstance Tryz.pinned.checked.prog Rows.clashProvesRow.origin Rows.clashProvesRow.targs := of_decide_eq_true (by kernel_rfl)
theorem proves_wrap : Tryz.f4.isWrapper Tryz.pinned.checked.prog Rows.clashProvesRow.wrapper Rows.clashProvesRow.mainSum := by
  unfold Func.isWrapper; first | (rw [if_pos (by decide +kernel)]; kernel_rfl) | (rw [if_neg (by decide +kernel)]; exact ⟨rfl, rfl⟩)

theorem clashProves_said : Rows.ClashProvesSaid :=
  OpenClaim.holds_of_wide 4 Tryz.f4 rfl rfl rfl rfl rfl rfl rfl ⟨rfl, rfl, rfl, rfl, rfl⟩ rfl rfl rfl rfl rfl j11 Tryz.func4 closed
    proves_inst proves_wrap
    (fun os started H enc _ => proves_lifted os started H enc)

theorem proves_plain (f : FuncId) (fn : Func) (hf : Tryz.pinned.checked.prog.funcNamed "strongroom/strongroomlaw29.ClashProves" = some f) (hfn : Tryz.pinned.checked.prog.funcs[f]? = some fn) :
    true = Tryz.pinned.checked.prog.looks [] ∧ ∀ (j : Nat) t, fn.params[j]? = some t → Tryz.pinned.checked.prog.wantsStandIn t = false := by
  obtain rfl : f = 4 := Option.some.inj (j11.symm.trans hf) |>.symm
  obtain rfl : fn = Tryz.f4 := (Option.some.inj (Tryz.func4.symm.trans hfn)).symm
  refine ⟨by kernel_rfl, fun j t ht => ?_⟩
  rw [Tryz.params4] at ht
  have hm := Array.mem_of_getElem? ht
  simp only [List.mem_toArray, List.mem_cons, List.not_mem_nil, or_false] at hm
  rcases hm with rfl | rfl | rfl
  · exact (show Tryz.prog.wantsStandIn 61 = false by kernel_rfl)
  · exact (show Tryz.prog.wantsStandIn 61 = false by kernel_rfl)
  · exact (show Tryz.prog.wantsStandIn 54 = false by kernel_rfl)

theorem clashProves_card : Rows.ClashProvesCardSaid :=
  Claim7.holds_tied_plain_at .later [] _ _ _ _ clashProves_said (fun _ h => by cases h) (by kernel_rfl) (fun _ h => by cases h) clashProves_row_tie rfl ⟨rfl, rfl⟩ (by kernel_rfl) rfl proves_plain (by kernel_rfl)
#print axioms clashProves_card
end Go.Proofs.YtafichokaofngaaGreatDoor
