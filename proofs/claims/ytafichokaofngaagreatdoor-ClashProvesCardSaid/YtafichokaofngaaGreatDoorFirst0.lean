/- WALK: clash.first over pairs of one text each: none is a clash; conditions: none. -/
import Derived.Test.YtafichokaofngaaGreatDoorOfA
import Derived.Test.YtafichokaofngaaGreatDoorLit
namespace Go.Proofs.YtafichokaofngaaGreatDoor
open Go.RowKit Go.Shelf
attribute [local go_sem] Oper.semAt_some

theorem keepsOthers_below {W W' : World} (h : Below W.heap.size W W') : KeepsOthers W W' := ⟨h.size, fun k _ hk _ => (h.block k (Array.getElem?_eq_some_iff.1 hk).1).trans hk⟩
theorem results_row_cell {P : Program} {fn : Func} {p q : Tmp} {ty ty2 : TypeId} (h : fn.results = #[.cell p ty, .cell q ty2]) (tmps : Array Value) (w : World) (b b2 : Nat) (t t2 : TypeId) (cs : Array Value) (v : Int) {d : TypeDesc} {k : IntKind}
    (hp : tmps.getD p undef = .pointer (some ⟨b, 0, none⟩)) (hq : tmps.getD q undef = .pointer (some ⟨b2, 0, none⟩)) (hg : Row w b t cs) (hg2 : Row w b2 t2 #[.int k v])
    (hu : P.underlying ty = some d) (hd : (match d with | .struct _ | .array _ _ => true | _ => false) = true) (hi : (P.info? ty).map (·.size) = some cs.size) (hu2 : P.underlying ty2 = some (.int k)) :
    (results fn tmps).run P w = .ok (.tuple #[.agg cs, .int k v]) w := by
  have hp' : tmps[p]?.getD undef = .pointer (some ⟨b, 0, none⟩) := by simpa using hp
  have hq' : tmps[q]?.getD undef = .pointer (some ⟨b2, 0, none⟩) := by simpa using hq
  have hc := hg2.cell 0
  simp at hc
  simp [results, h, hp', hq', asAddr, run_loadVar_row w b t ty cs (0, 0) d hg hu hd hi]
  simp [loadVar, isAgg, underlying, hu2, hc, go_sem]

set_option maxRecDepth 100000 in
set_option maxHeartbeats 1000000 in
theorem first_same (lb : Array Value) (w : World) (Z : List UInt8)
    (hseq : ∀ W, KC w.heap.size w W → SeqOk Fence.wide 8 Tryz.prog 88 lb (fun x : Value × Value => #[.agg #[x.1, x.2]]) (fun W x => Has W x.1 (Z.map Sha.bv) ∧ Has W x.2 (Z.map Sha.bv)) W) :
    Calls Tryz.prog 36 #[.func (.func 88) #[] lb] w fun e w' => e = .returned (.tuple #[.agg #[.slice none 0 0, .slice none 0 0], .int .i64 290]) ∧ Below w.heap.size w w' := by
  have HS := Lib.hid hseq
  clear hseq
  refine (callsIn_wide (n := 9)).1 ?_
  refine callsIn_of_wp_marks Tryz.func36 rfl trivial ?_ rfl
  simp only [Tryz.ntmps36, List.size_toArray, List.length_cons, List.length_nil, Nat.reduceAdd, Nat.reduceSub, Array.replicate_succ, Array.replicate_zero, List.push_toArray, List.append_toArray, List.nil_append, List.cons_append]
  gi_wp2_with fail
  have hb2 : Below w.heap.size w ((w.alloc (.cells #[.slice none 0 0, .slice none 0 0] 54)).alloc (.cells #[.int .i64 0] 40)) := ((Below.refl _ w).alloc (Nat.le_refl _) _).alloc (by simp) _
  have r2 := (Row.new w 54 #[.slice none 0 0, .slice none 0 0]).alloc (.cells #[.int .i64 0] 40)
  have r3 := Row.new (w.alloc (.cells #[.slice none 0 0, .slice none 0 0] 54)) 40 #[.int .i64 0]
  simp only [World.size_alloc] at r3
  have hsz : ((w.alloc (.cells #[.slice none 0 0, .slice none 0 0] 54)).alloc (.cells #[.int .i64 0] 40)).heap.size = w.heap.size + 2 := by simp
  generalize hgW : (w.alloc (.cells #[.slice none 0 0, .slice none 0 0] 54)).alloc (.cells #[.int .i64 0] 40) = W2 at *
  clear hgW
  have kW2 : KC w.heap.size w W2 := KC.of_below hb2
  refine wpIn_rangeFunc_ok (F := Fence.wide) rfl (by decide) (gf := 88) (lb := lb) rfl trivial (enters_of Tryz.func88 (by kernel_rfl) rfl) (HS.out W2 kW2) (KC.refl _ _) (fun _ => rfl) (fun W W' x hk h => ⟨hk.has h.1, hk.has h.2⟩)
    (fun _ W => Below w.heap.size w W) (fun _ _ _ => False) (ownFrom_below (Nat.le_refl _) (by omega)) (fun _ _ _ _ _ h _ _ => h) hb2
    (fun x a' W => ∃ B, Row W B 54 #[x.1, x.2] ∧ a' = { tmps := #[.func (.func 88) #[] lb, undef, .pointer (some ⟨w.heap.size, 0, none⟩), .pointer (some ⟨w.heap.size + 1, 0, none⟩), .pointer (some ⟨B, 0, none⟩), .func (.func 88) #[] lb, .agg #[x.1, x.2], undef, undef, undef, undef, undef, undef, undef, undef, undef, undef], defers := [] })
    ?hAx ?assign ?body ?done ?stop
  case hAx =>
    rintro x a' _ W W' row ⟨B, hr, rfl⟩ hg hrow
    exact ⟨B, (KC.of_grown (B := B + 1) hg hrow).row (by omega) hr, rfl⟩
  case assign =>
    rintro l ⟨p, q⟩ W K hkW hbb ⟨h1, h2⟩ hK
    obtain ⟨a1, n1, c1, rfl⟩ := h1.slice
    obtain ⟨a2, n2, c2, rfl⟩ := h2.slice
    gi_wp2_with fail
    exact hK _ _ (KC.of_below ((Below.refl _ W).alloc (Nat.le_refl _) _)) (KeepsOthers.alloc _ _) (hbb.alloc hbb.size _) ⟨W.heap.size, Row.new _ _ _, rfl⟩
  case body =>
    rintro l ⟨p, q⟩ a' W hkW hbb ⟨h1, h2⟩ ⟨B, hr, rfl⟩
    obtain ⟨a1, n1, c1, rfl⟩ := h1.slice
    obtain ⟨a2, n2, c2, rfl⟩ := h2.slice
    have k0 : W.cell? ⟨B, 0, none⟩ = some (.slice a1 n1 c1) := hr.cell 0
    have k1 : W.cell? ⟨B, 1, none⟩ = some (.slice a2 n2 c2) := hr.cell 1
    gi_wp2_with fail
    refine ⟨trivial, (CallsIn.inRound l (callsIn_wide.2 (proves_same a1 a2 n1 n2 c1 c2 Z W h1 h2))).mono ?_⟩
    rintro e w1 ⟨rfl, hb1⟩
    gi_wp2_with fail
    exact ⟨keepsOthers_below hb1, KC.of_below hb1, hbb.trans (hb1.mono hbb.size)⟩
  case done =>
    rintro D W hD hkW hbb hK
    have q2 := hkW.row (by omega) r2
    have q3 := hkW.row (by omega) r3
    have k0 : W.cell? ⟨w.heap.size, 0, none⟩ = some (.slice none 0 0) := q2.cell 0
    have k1 : W.cell? ⟨w.heap.size, 1, none⟩ = some (.slice none 0 0) := q2.cell 1
    have k2 : W.cell? ⟨w.heap.size + 1, 0, none⟩ = some (.int .i64 0) := q3.cell 0
    have f0 := q2.frozen 0
    have f1 := q2.frozen 1
    have f2 := q3.frozen 0
    gi_wp2_with fail
    have hK1 := ((((KeepsOthers.setCell W ⟨w.heap.size, 0, none⟩ (.slice none 0 0)).trans (KeepsOthers.setCell _ ⟨w.heap.size, 1, none⟩ (.slice none 0 0))).trans (KeepsOthers.setCell _ ⟨w.heap.size + 1, 0, none⟩ (.int .i64 290))).same D _ hK rfl)
    have q2' := ((q2.store 0 (.slice none 0 0)).store 1 (.slice none 0 0)).other ⟨w.heap.size + 1, 0, none⟩ (.int .i64 290) (by simp)
    have q3' := (((q3.other ⟨w.heap.size, 0, none⟩ (.slice none 0 0) (by simp)).other ⟨w.heap.size, 1, none⟩ (.slice none 0 0) (by simp)).store 0 (.int .i64 290))
    have hst := (((hbb.setCell (p := ⟨w.heap.size, 0, none⟩) (Nat.le_refl _) (.slice none 0 0)).setCell (p := ⟨w.heap.size, 1, none⟩) (Nat.le_refl _) (.slice none 0 0)).setCell (p := ⟨w.heap.size + 1, 0, none⟩) (by simp) (.int .i64 290))
    generalize hgW' : ((W.setCell _ _).setCell _ _).setCell _ _ = W3 at *
    clear hgW'
    have hkD := kc_put W3 D _ (.deferred none) hK1 rfl
    have z2 := (hkD (w.heap.size + 2)).row (by omega) q2'
    have z3 := (hkD (w.heap.size + 2)).row (by omega) q3'
    refine ⟨by simp, .inl ⟨_, _, rfl, run_takeDeferred hK1, ?_⟩⟩
    exact ⟨_, results_row_cell Tryz.results36 _ _ _ _ _ _ _ _ rfl rfl z2 z3 clash_desc rfl clash_size Tryz.underlying40, rfl, hst.trans (belowK_b (w := w) (Nat.le_refl _) W3 D _ _ (by omega) hK1 rfl rfl)⟩
  case stop =>
    rintro D c W _ h _
    exact h.elim
end Go.Proofs.YtafichokaofngaaGreatDoor
