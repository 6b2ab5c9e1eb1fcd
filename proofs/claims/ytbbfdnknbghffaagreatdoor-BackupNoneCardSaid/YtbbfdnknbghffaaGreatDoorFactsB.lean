/- FACTS: the closed facts on the row of BackupNone, one by one; conditions: none. -/
import Derived.Test.YtbbfdnknbghffaaGreatDoorFactsA
import Derived.Test.YtbbfdnknbghffaaGreatDoorFactsJ
namespace Go.Proofs.YtbbfdnknbghffaaGreatDoor

theorem facts_of {P : Program} {f : FuncId} {fn : Func} {s : ChangeSpec} {c : OpenClaim}
    (h2 : laidOutB P = true) (h3 : mapsRowed P = true) (h4 : fn.params.all (P.readableRec ·) = true) (h6 : (c.inPlace == P.inPlace f) = true) (h7 : (c.unfollowed == P.unfollowed f) = true) (h8 : (c.recurses == P.recurses f) = true) (h9 : (c.named == P.varsNamed f) = true)
    (h14 : (c.maps == (fn.params.toList ++ s.plain.varTypes P).any (P.mapsRec ·)) = true) (h15 : (c.ifaces == (fn.params.toList ++ s.plain.varTypes P).any (P.ifacesRec ·)) = true)
    (h17 : (c.loops == (fn.params.toList ++ s.plain.varTypes P).any (P.loopsFrom ·)) = true) (h18 : (c.wideKeys == (fn.params.toList ++ s.plain.varTypes P ++ fn.resultTypes.toList).any (P.wideKeysFrom ·)) = true)
    (h20 : fn.resultTypes.all (fun t => P.readableRec t && decide (t < P.types.size)) = true) (h21 : (c.ifacesOut == fn.resultTypes.toList.any (P.ifacesRec ·)) = true) (h22 : (c.loopsOut == fn.resultTypes.toList.any (P.loopsFrom ·)) = true)
    (h31 : (c.veiled == (fn.params.toList ++ s.plain.varTypes P ++ fn.resultTypes.toList).any (P.veiledRec ·)) = true) (h32 : c.veiledFits P fn.params.toList (fn.params.toList ++ s.plain.varTypes P ++ fn.resultTypes.toList) = true)
    (rest : (c.wf (OpenSpec.ofChange s) && namedTie P c.named s.vars && (c.stops == []) && (P.stops == []) && (c.knobs == []) && (P.stopKnobs == []) &&
      (c.mapsOut == P.mapsAmong fn.resultTypes.toList) &&
      s.vars.all (P.varReadable ·) && (c.plainKeys == P.plainKeys) && c.shortTexts.isNone && P.stopsHeard && P.mayEnter && (c.lifted == P.liftsFinal) && (P.make == some c.make) && (c.kinds == (if c.domain.isEmpty then [] else fn.params.toList.map fun t => match P.underlying t with | some (.int k) => some k | _ => none)) && (c.pinned == c.pinnedBy)) = true) :
    joinedFacts P f fn s c = true := by
  simp only [Bool.and_eq_true] at rest
  obtain ⟨⟨⟨⟨⟨⟨⟨⟨⟨⟨⟨⟨⟨⟨⟨r1, r2⟩, r3⟩, r4⟩, r5⟩, r6⟩, r7⟩, r8⟩, r9⟩, r10⟩, r11⟩, r12⟩, r13⟩, r14⟩, r15⟩, r16⟩ := rest
  simp only [joinedFacts, Bool.and_eq_true]
  repeat' (first | assumption | apply And.intro)

theorem fits_of {P : Program} {c : OpenClaim} {ps ts : List TypeId} (hs : c.start = .entering) (h : ((ts ++ c.laid.filterMap fun x => (P.globalNamed x.1).bind fun g => (P.globals[g]?).map (·.type)).all (P.veiledOwn ·)) = true) : c.veiledFits P ps ts = true := by
  unfold OpenClaim.veiledFits
  rw [hs, h]
  rfl
noncomputable abbrev PB : Program := Tryz.pinned.checked.prog
noncomputable abbrev FB : Func := Tryz.f3
theorem ts_eq : (FB.params.toList ++ Rows.backupNoneSpec.plain.varTypes PB) = [31] := by kernel_rfl
theorem rs_eq : FB.resultTypes.toList = [4] := by kernel_rfl
theorem ps_eq : FB.params = #[31] := by kernel_rfl
theorem rt_eq : FB.resultTypes = #[4] := by kernel_rfl
theorem stA : stableAllB PB 8 31 = true := by kernel_rfl
theorem stB : stableAllB PB 8 4 = true := by kernel_rfl
theorem st_of {t : TypeId} (h : stableAllB PB 8 t = true) : stableB PB 8 t = true := by
  simp only [stableAllB, Bool.and_eq_true] at h
  exact h.1
theorem read_act : PB.readableRec 31 = true := (read_k (st_of stA)).trans (by kernel_rfl)
theorem read_bool : PB.readableRec 4 = true := (read_k (st_of stB)).trans (by kernel_rfl)
theorem j04 : FB.params.all (PB.readableRec ·) = true := by
  rw [ps_eq]
  simp [read_act]
theorem j14 : (Rows.backupNoneRow.maps == (FB.params.toList ++ Rows.backupNoneSpec.plain.varTypes PB).any (PB.mapsRec ·)) = true := by
  rw [ts_eq]
  simp only [List.any_cons, List.any_nil, maps_k (st_of stA)]
  kernel_rfl
theorem j15 : (Rows.backupNoneRow.ifaces == (FB.params.toList ++ Rows.backupNoneSpec.plain.varTypes PB).any (PB.ifacesRec ·)) = true := by
  rw [ts_eq]
  simp only [List.any_cons, List.any_nil, ifaces_k (st_of stA)]
  kernel_rfl
theorem j17 : (Rows.backupNoneRow.loops == (FB.params.toList ++ Rows.backupNoneSpec.plain.varTypes PB).any (PB.loopsFrom ·)) = true := by
  rw [ts_eq]
  simp only [List.any_cons, List.any_nil, loops_k stA]
  kernel_rfl
theorem j18 : (Rows.backupNoneRow.wideKeys == (FB.params.toList ++ Rows.backupNoneSpec.plain.varTypes PB ++ FB.resultTypes.toList).any (PB.wideKeysFrom ·)) = true := by
  rw [ts_eq, rs_eq]
  simp only [List.cons_append, List.nil_append, List.any_cons, List.any_nil, wide_k (st_of stA), wide_k (st_of stB)]
  kernel_rfl
theorem j20 : FB.resultTypes.all (fun t => PB.readableRec t && decide (t < PB.types.size)) = true := by
  have h : decide (4 < PB.types.size) = true := by kernel_rfl
  have hb : (PB.readableRec 4 && decide (4 < PB.types.size)) = true := by rw [read_bool, h]; rfl
  rw [rt_eq]
  show (#[4] : Array TypeId).all (fun t => PB.readableRec t && decide (t < PB.types.size)) = true
  rw [Array.all_eq_true]
  intro i hi
  have e : i = 0 := by simp at hi; omega
  subst e
  exact hb
theorem j21 : (Rows.backupNoneRow.ifacesOut == FB.resultTypes.toList.any (PB.ifacesRec ·)) = true := by
  rw [rs_eq]
  simp only [List.any_cons, List.any_nil, ifaces_k (st_of stB)]
  kernel_rfl
theorem j22 : (Rows.backupNoneRow.loopsOut == FB.resultTypes.toList.any (PB.loopsFrom ·)) = true := by
  rw [rs_eq]
  simp only [List.any_cons, List.any_nil, loops_k stB]
  kernel_rfl
theorem j31 : (Rows.backupNoneRow.veiled == (FB.params.toList ++ Rows.backupNoneSpec.plain.varTypes PB ++ FB.resultTypes.toList).any (PB.veiledRec ·)) = true := by
  rw [ts_eq, rs_eq]
  simp only [List.cons_append, List.nil_append, List.any_cons, List.any_nil, veiled_k (st_of stA), veiled_k (st_of stB)]
  kernel_rfl
theorem own_all : (((FB.params.toList ++ Rows.backupNoneSpec.plain.varTypes PB ++ FB.resultTypes.toList) ++ Rows.backupNoneRow.laid.filterMap fun x => (PB.globalNamed x.1).bind fun g => (PB.globals[g]?).map (·.type)).all fun t => stableB PB 8 t && !veiledK PB 8 t) = true := by kernel_rfl
theorem j32 : Rows.backupNoneRow.veiledFits PB FB.params.toList (FB.params.toList ++ Rows.backupNoneSpec.plain.varTypes PB ++ FB.resultTypes.toList) = true := by
  refine fits_of rfl ?_
  have h := own_all
  simp only [List.all_eq_true, Bool.and_eq_true, Bool.not_eq_true'] at h ⊢
  exact fun t ht => own_no (h t ht).1 (h t ht).2
theorem closed : joinedFacts PB 3 FB Rows.backupNoneSpec Rows.backupNoneRow = true :=
  facts_of j02 j03 j04 j06 j07 j08 j09 j14 j15 j17 j18 j20 j21 j22 j31 j32 (by kernel_rfl)
end Go.Proofs.YtbbfdnknbghffaaGreatDoor
