/- BackupNone returns true, whatever the act: its card; conditions: the row's own (the listed variables hold what the program's text lays). -/
import Derived.Test.YtbbfdnknbghffaaGreatDoorNoneL
import Derived.Test.YtbbfdnknbghffaaGreatDoorFactsB
import Derived.Test.YtbbfdnknbghffaaGreatDoorCards
import Derived.Test.YtbbfdnknbghffaaGreatDoorTieC
import Derived.Test.YtbbfdnknbghffaaGreatDoorNoneW
import Derived.LaidMore
import Derived.SevenTiedAt
import Derived.Conc.Holds
import Derived.Leaving
import Derived.Carry
namespace Go.Proofs.YtbbfdnknbghffaaGreatDoor
open Go.ChangeShapes Go.WideShapes Go.ChangeAt Go.RowKit

theorem own : ownKnob Tryz.prog.godebug = none := by kernel_rfl
theorem lays_out : laidOutB Tryz.prog = true := j02

/-- a call that starts no goroutine leaves none behind -/
theorem leaving_of_handed {a : Assume} {C : Checked} {os : Os} {f : FuncId} {r : Reach} {Pre : World → Array Value → Prop} {Post : World → Array Value → Value → World → Prop} (h : ReturnsInHanded a C os f r Pre Post) :
    ReturnsInLeavingWide a C os f r Pre Post := fun enter => by
  obtain ⟨g0, g1, g2, g3, all⟩ := h enter
  refine ⟨g0, g1, g2, g3, fun w tape i hf => ?_⟩
  obtain ⟨n, v, w', hn, hc, hr, hp, ⟨j, last, hj, hs, hq, hh, he⟩, ha⟩ := all w tape i hf
  exact ⟨n, v, w', hn, hc, hr, hp, ⟨j, last, hj, hs, hh, onlyLeaving_of_quiet hq, he⟩, ha⟩

/-- a tied card without a companion, of a row whose program can start goroutines -/
theorem holds_tied_goes (Lk : Looks) {p : Pinned} {s : OpenSpec} {c : OpenClaim} (al : List (List PathCond)) (kinds : List LaidKind) (tests : Bool) (har : Bool × String) (lk : Bool)
    (hc : c.holds p s) (hal : ∀ D ∈ al, (c.withDomain D).holds p s) (hw : c.wfByText s = true) (hwal : ∀ D ∈ al, (c.withDomain D).wfByText s = true)
    (htie : c.laidByTextAt Lk p kinds tests)
    (hst : c.start = .entering) (hnb : c.noBlocks = false ∧ c.again = false) (hm : p.checked.prog.mainIs = some (har.1, har.2.toList)) (hn : (!har.1 && har.2.isEmpty && !lk) = false)
    (hl : ∀ f fn, p.checked.prog.funcNamed c.func = some f → p.checked.prog.funcs[f]? = some fn → lk = p.checked.prog.looks [] ∧ ∀ (j : Nat) t, fn.params[j]? = some t → p.checked.prog.wantsStandIn t = false)
    (hg : true = c.goesBy p.checked.prog) :
    Claim7.holds p (.plain s) { stood := { row := c, standIns := [], harness := har, looks := lk }, kinds := [], alts := al, laidByText := true, laidKinds := kinds, laidTests := tests, laidLooks := Lk, goes := true } := by
  have h6 : ∀ r : OpenClaim, Claim7.isSixth { stood := { row := r, standIns := [], harness := har, looks := lk }, kinds := [] } = false := fun r => by simpa [Claim7.isSixth] using hn
  refine ⟨Claim7.tied_new_at Lk kinds tests (Claim7.new_of_sixth hc har lk hst hnb hm (h6 c) hl) hw, fun D hD => ?_, htie, (fun h => by cases h), hg⟩
  exact Claim7.tied_new_at Lk kinds tests (Claim7.new_of_sixth (hal D hD) har lk hst hnb hm (h6 _) hl) (hwal D hD)

/-- an input for the witness: an act that is all nought -/
noncomputable def inputs : Array Value := #[((Tryz.prog.info? 31).bind (·.zero)).getD undef]

theorem cells_act : Tryz.prog.cellsOf 31 = 13 := by kernel_rfl
theorem cells_string : Tryz.prog.cellsOf 9 = 1 := by kernel_rfl
theorem size_params : (Tryz.prog.info? 25).map (·.size) = some 5 := by kernel_rfl
theorem size_lease : (Tryz.prog.info? 28).map (·.size) = some 2 := by kernel_rfl

theorem field_at {H : Type} {enc : TypeId × Value → H} {w : World} {base : Nat} {held : Bool} {spare : Nat → Bool} {fs : Array Field} {m : Nat} {cs : List Value} {xs : List (DataW H × List MemPlace)}
    (hf : ∀ (i : Nat) (f : Field), fs[i]? = some f → DataW.trod enc Tryz.prog w base spare held m f.type ((cs.drop f.offset).take (Tryz.prog.cellsOf f.type)) = xs[i]?)
    (i o : Nat) (t : TypeId) {f : Field} (hi : fs[i]? = some f) (ht : f.type = t) (ho : f.offset = o) :
    DataW.trod enc Tryz.prog w base spare held m t ((cs.drop o).take (Tryz.prog.cellsOf t)) = xs[i]? := by
  subst ht ho
  exact hf i f hi
theorem one_cell {cs : List Value} {o : Nat} {v : Value} (h : (cs.drop o).take 1 = [v]) : cs[o]? = some v := by
  have := congrArg (fun l => l[0]?) h
  simpa using this
theorem open_act {H : Type} {enc : TypeId × Value → H} {w : World} {base : Nat} {held : Bool} {d : DataW H} {ps : List MemPlace} {cs : Array Value} (h : DataW.Trod enc Tryz.prog w base (fun _ => true) held 31 (.agg cs) d ps) :
    ∃ s : ByteArray, cs[11]? = some (.string s) := by
  obtain ⟨fuel, h⟩ := h
  change DataW.trod enc Tryz.prog w base (fun _ => true) held fuel 31 cs.toList = some (d, ps) at h
  obtain ⟨xs, m, rfl, hd, hlen, hxs, hf⟩ := DataW.trod_struct Tryz.underlying31 h
  have hx8 : xs.length = 8 := hxs
  have f6 := field_at hf 6 11 9 rfl rfl rfl
  rw [List.getElem?_eq_getElem (by omega)] at f6
  obtain ⟨s, hs, _⟩ := DataW.trod_string Tryz.underlying9 f6
  rw [cells_string] at hs
  exact ⟨s, by simpa using one_cell hs⟩
theorem part_get {cs : Array Value} {o n : Nat} : ∀ (j : Nat) v, ((cs.toList.drop o).take n).toArray.toList[j]? = some v → cs[o + j]? = some v := fun j v h => by
  simp only [List.getElem?_take] at h
  split at h
  · simpa using h
  · cases h

set_option maxRecDepth 100000 in
theorem none_lifted (os : Os) (started : os.Started) (H : Type) (enc : TypeId × Value → H) :
    ReturnsInHanded {} Tryz.checked os 3 .any (fun w args => (Rows.backupNoneSpec.pre enc Tryz.prog Tryz.f3 [] false w args ∧ laidMetH Tryz.prog Rows.backupNoneRow.laid w) ∧ sizedMet enc Tryz.prog Tryz.f3 (OpenSpec.ofChange Rows.backupNoneSpec) false w args)
      (Rows.backupNoneSpec.post enc Tryz.prog Tryz.f3 false true false false) := by
  refine returnsInHanded_of_change_and (C := Tryz.checked) (X := fun w _ => laidMetH Tryz.prog Rows.backupNoneRow.laid w) (fun _ _ _ hh h => h.of_heap hh) own started (by kernel_rfl) Tryz.func3
    (ChangeSpec.witness_shaped (enc := enc) (C := Tryz.checked) (os := os) (X := fun w _ => laidMetH Tryz.prog Rows.backupNoneRow.laid w) false (wit os) inputs 8 (wit_os os) (wit_shaped os _) (by kernel_rfl) (by kernel_rfl) (by kernel_rfl) (door_met os _)) ?_
  intro W base args ds gs before hval0 hW _ _ hL _
  have hval : ∀ (j : Nat) t v, Tryz.f3.params[j]? = some t → args[j]? = some v → Value.okWide Tryz.prog W .any base t v := hval0
  have hW' := hW
  obtain ⟨p, q, hA0, hV, rfl, hfz, hnd⟩ := hW
  have hA : DataW.TrodAll enc Tryz.prog W 0 (fun _ => true) true Tryz.f3.params.toList args.toList ds p := hA0
  rw [Tryz.params3] at hA hval
  obtain ⟨v0, d0, rfl, rfl, h0⟩ := trodAll_one hA
  obtain ⟨rfl, rfl⟩ := trodVars_none hV
  obtain ⟨cs, rfl, hcs⟩ := okWide_struct Tryz.underlying31 (hval 0 _ v0 rfl rfl)
  rw [cells_act] at hcs
  obtain ⟨s, hs⟩ := open_act h0
  simp only [List.append_nil] at hW'
  have hlt : ∀ x ∈ p, x.block < W.heap.size := fun x hx => hW'.lt x hx
  refine (law_true cs ((cs.toList.drop 2).take 5).toArray ((cs.toList.drop 7).take 2).toArray _ _ s (Array.getElem?_eq_getElem (by omega)) (Array.getElem?_eq_getElem (by omega)) hs part_get part_get
    (by rw [size_params]; simp [hcs]) (by rw [size_lease]; simp [hcs]) W).mono fun e W' ⟨he, hb⟩ => ?_
  subst he
  exact ⟨_, rfl, [d0], [], p, [], p, [], hW', trodAll_mk1 (shut_bool Tryz.underlying4 _),
    trodAll_mk1 (Below.trod lays_out read_act (of_decide_eq_true (by kernel_rfl)) h0 hb (fun x hx => hlt x hx)),
    rfl, hb.frame _, fun h => by cases h⟩

theorem backupNone_said : Rows.BackupNoneSaid :=
  OpenClaim.holds_of_wide_leaving 3 Tryz.f3 rfl rfl rfl rfl rfl rfl rfl ⟨rfl, rfl, rfl, rfl, rfl⟩ rfl rfl rfl rfl rfl j11 Tryz.func3 closed
    (of_decide_eq_true (by kernel_rfl)) (by unfold Func.isWrapper; first | (rw [if_pos (by decide +kernel)]; kernel_rfl) | (rw [if_neg (by decide +kernel)]; exact ⟨rfl, rfl⟩))
    (fun os started H enc _ => leaving_of_handed (none_lifted os started H enc))

theorem none_plain (f : FuncId) (fn : Func) (hf : Tryz.pinned.checked.prog.funcNamed "strongroom/strongroomlaw31.BackupNone" = some f) (hfn : Tryz.pinned.checked.prog.funcs[f]? = some fn) :
    true = Tryz.pinned.checked.prog.looks [] ∧ ∀ (j : Nat) t, fn.params[j]? = some t → Tryz.pinned.checked.prog.wantsStandIn t = false := by
  obtain rfl : f = 3 := Option.some.inj (j11.symm.trans hf) |>.symm
  obtain rfl : fn = Tryz.f3 := (Option.some.inj (Tryz.func3.symm.trans hfn)).symm
  refine ⟨by kernel_rfl, fun j t ht => ?_⟩
  rw [Tryz.params3] at ht
  have hm := Array.mem_of_getElem? ht
  simp only [List.mem_toArray, List.mem_cons, List.not_mem_nil, or_false] at hm
  subst hm
  exact (show Tryz.prog.wantsStandIn 31 = false by kernel_rfl)

theorem k_wf : Rows.backupNoneRow.wfByText (OpenSpec.ofChange Rows.backupNoneSpec) = true := by kernel_rfl
theorem k_main : Tryz.pinned.checked.prog.mainIs = some (true, "90eb06d993bfd1519a83ff52b5cd53185bef1f933d20a2163656ddf71b282210".toList) := by kernel_rfl
theorem through_goes : Func.goes Tryz.f87 = true := by kernel_rfl
theorem k_any : Tryz.pinned.checked.prog.funcs.any Func.goes = true :=
  Array.any_eq_true'.2 ⟨_, Array.mem_of_getElem? Tryz.func87, through_goes⟩
theorem k_unf : Tryz.pinned.checked.prog.unfollowed 3 = true := (eq_of_beq j07).symm
theorem goes_of {P : Program} {c : OpenClaim} {f : FuncId} (hn : P.funcNamed c.func = some f) (hu : P.unfollowed f = true) (ha : P.funcs.any Func.goes = true) : true = c.goesBy P := by
  unfold OpenClaim.goesBy Program.goesAt Program.goesFrom
  rw [hn]
  simp [Program.goes, hu, ha]
theorem k_goes : true = Rows.backupNoneRow.goesBy Tryz.pinned.checked.prog := goes_of j11 k_unf k_any
theorem backupNone_card : Rows.BackupNoneCardSaid :=
  holds_tied_goes .later [] _ _ _ _ backupNone_said (fun _ h => by cases h) k_wf (fun _ h => by cases h) backupNone_row_tie rfl ⟨rfl, rfl⟩ k_main rfl none_plain k_goes
#print axioms backupNone_card
end Go.Proofs.YtbbfdnknbghffaaGreatDoor
