/- FACTS: the closed facts on the row of ClashProves, the heavy ones one by one; conditions: none. -/
import Derived.Test.YtafichokaofngaaGreatDoorRows
import Derived.JoinedOf
import Derived.LaidMore
import Derived.Seven
namespace Go.Proofs.YtafichokaofngaaGreatDoor

theorem facts_of {P : Program} {f : FuncId} {fn : Func} {s : ChangeSpec} {c : OpenClaim}
    (h2 : laidOutB P = true) (h3 : mapsRowed P = true) (h6 : (c.inPlace == P.inPlace f) = true) (h7 : (c.unfollowed == P.unfollowed f) = true) (h8 : (c.recurses == P.recurses f) = true) (h9 : (c.named == P.varsNamed f) = true)
    (rest : (c.wf (OpenSpec.ofChange s) && fn.params.all (P.readableRec ·) && namedTie P c.named s.vars && (c.stops == []) && (P.stops == []) && (c.knobs == []) && (P.stopKnobs == []) &&
      (c.maps == (fn.params.toList ++ s.plain.varTypes P).any (P.mapsRec ·)) && (c.ifaces == (fn.params.toList ++ s.plain.varTypes P).any (P.ifacesRec ·)) && (c.mapsOut == P.mapsAmong fn.resultTypes.toList) &&
      (c.loops == (fn.params.toList ++ s.plain.varTypes P).any (P.loopsFrom ·)) && (c.wideKeys == (fn.params.toList ++ s.plain.varTypes P ++ fn.resultTypes.toList).any (P.wideKeysFrom ·)) &&
      s.vars.all (P.varReadable ·) && fn.resultTypes.all (fun t => P.readableRec t && decide (t < P.types.size)) && (c.ifacesOut == fn.resultTypes.toList.any (P.ifacesRec ·)) && (c.loopsOut == fn.resultTypes.toList.any (P.loopsFrom ·)) && (c.plainKeys == P.plainKeys) && c.shortTexts.isNone && P.stopsHeard && P.mayEnter && (c.lifted == P.liftsFinal) && (P.make == some c.make) && (c.kinds == (if c.domain.isEmpty then [] else fn.params.toList.map fun t => match P.underlying t with | some (.int k) => some k | _ => none)) && (c.pinned == c.pinnedBy) &&
      (c.veiled == (fn.params.toList ++ s.plain.varTypes P ++ fn.resultTypes.toList).any (P.veiledRec ·)) && c.veiledFits P fn.params.toList (fn.params.toList ++ s.plain.varTypes P ++ fn.resultTypes.toList)) = true) :
    joinedFacts P f fn s c = true := by
  simp only [joinedFacts, h2, h3, h6, h7, h8, h9, Bool.and_true]
  exact rest

theorem j02 : laidOutB Tryz.pinned.checked.prog = true := by kernel_rfl
theorem j03 : mapsRowed Tryz.pinned.checked.prog = true := by kernel_rfl
theorem j06 : (Rows.clashProvesRow.inPlace == Tryz.pinned.checked.prog.inPlace 4) = true := by kernel_rfl
theorem j07 : (Rows.clashProvesRow.unfollowed == Tryz.pinned.checked.prog.unfollowed 4) = true := by kernel_rfl
theorem j08 : (Rows.clashProvesRow.recurses == Tryz.pinned.checked.prog.recurses 4) = true := by kernel_rfl
theorem j09 : (Rows.clashProvesRow.named == Tryz.pinned.checked.prog.varsNamed 4) = true := by kernel_rfl
theorem j11 : Tryz.pinned.checked.prog.funcNamed "strongroom/strongroomlaw29.ClashProves" = some 4 := by kernel_rfl
theorem closed : joinedFacts Tryz.pinned.checked.prog 4 Tryz.f4 Rows.clashProvesSpec Rows.clashProvesRow = true :=
  facts_of j02 j03 j06 j07 j08 j09 (by kernel_rfl)
end Go.Proofs.YtafichokaofngaaGreatDoor
