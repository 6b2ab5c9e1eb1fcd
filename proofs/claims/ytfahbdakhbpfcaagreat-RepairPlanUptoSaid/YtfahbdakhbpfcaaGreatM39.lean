/-
  PlanB: WALK: repair.Plan, where the arguments are none of a capability's; conditions: may has answered.
-/
import Derived.Test.YtfahbdakhbpfcaaGreatM38
namespace Go.Proofs.YtfahbdakhbpfcaaGreat
open Go.RowKit Go.Shelf Go.Maps
attribute [local go_sem] Oper.semAt_some

theorem verify_at {w : World} {b : Nat} {t : TypeId} {cs : Array Value} (h : Row w b t cs) : ∀ j v, cs.toList[j]? = some v → w.cell? ((⟨b, 0, none⟩ : Addr).add j) = some v := fun j v hv => by
  rw [Addr.add_mid, Nat.zero_add, h.cell]
  simpa using hv
theorem verify_info : (Tryz.prog.info? 27).map (·.size) = some 52 := by kernel_rfl

set_option maxRecDepth 100000 in
set_option maxHeartbeats 2000000 in
theorem plan_no (cs : Array Value) (hcs : (Tryz.prog.info? 27).map (·.size) = some cs.size) (s er : Int) (her : er ≠ 0) (pG pB : Option Addr) (nG cG nB cB : Nat) (w : World)
    (hm : ∀ W, Below w.heap.size w W → W.cell? ⟨w.heap.size + 2, 0, none⟩ = some (.slice pG nG cG) → W.cell? ⟨w.heap.size + 2, 1, none⟩ = some (.slice pB nB cB) →
      Calls Tryz.prog 12 #[.agg cs, .int .i64 s, .slice (some ⟨w.heap.size + 2, 0, none⟩) 2 2] W fun e w' => e = .returned (.int .i64 er) ∧ Below W.heap.size W w') :
    CallsIn Fence.wide 9 Tryz.prog 5 #[.agg cs, .int .i64 s, .slice pG nG cG, .slice pB nB cB] w fun e w' => e = .returned (.tuple #[.slice none 0 0, .int .i64 er]) ∧ Below w.heap.size w w' := by
  have HM := Lib.hid hm
  have HCS := Lib.hid hcs
  clear hm hcs
  refine callsIn_of_wp_marks Tryz.func5 rfl trivial ?_ rfl
  simp only [Tryz.ntmps5, List.size_toArray, List.length_cons, List.length_nil, Nat.reduceAdd, Nat.reduceSub, Array.replicate_succ, Array.replicate_zero, List.push_toArray, List.append_toArray, List.nil_append, List.cons_append]
  have R := (Row.new w 27 cs).alloc (.cells #[.slice pB nB cB] 28)
  gi_wp2_with (refine wpListIn_load_at rfl 27 (.tmp 4) rfl ⟨w.heap.size, 0, none⟩ rfl cs _ (verify_at R) Tryz.underlying27 rfl HCS.out ?_)
  have hB : Below w.heap.size w (((w.alloc (.cells cs 27)).alloc (.cells #[.slice pB nB cB] 28)).alloc (.cells #[.slice pG nG cG, .slice pB nB cB] 28)) :=
    (((Below.refl _ w).alloc (Nat.le_refl _) _).alloc (by simp) _).alloc (by simp; omega) _
  have R2 := Row.new ((w.alloc (.cells cs 27)).alloc (.cells #[.slice pB nB cB] 28)) 28 #[.slice pG nG cG, .slice pB nB cB]
  simp only [World.size_alloc, Nat.add_assoc, Nat.reduceAdd] at R2
  simp only [Nat.add_assoc, Nat.reduceAdd]
  refine ⟨trivial, (callsIn_wide.2 (HM.out _ hB (R2.cell 0) (R2.cell 1))).mono ?_⟩
  rintro e w2 ⟨rfl, hb2⟩
  have hB2 := hB.trans (hb2.mono hB.size)
  clear R R2 hB hb2
  gi_wp2
  exact ⟨_, results_tmp2 rfl _ _ _, rfl, hB2⟩

theorem Tries.kc {w w' : World} {base : Nat} {v : Value} {T : List Tr} (h : Tries w base v T) (hb : KC w.heap.size w w') : Tries w' base v T :=
  ⟨KC.owns hb h.1 (Nat.le_refl _), h.2.map fun _ _ _ ho => KC.owns hb ho (Nat.le_refl _)⟩
theorem Tries.mono {w : World} {b c : Nat} {v : Value} {T : List Tr} (h : Tries w b v T) (hb : c ≤ b) : Tries w c v T :=
  ⟨owns_mono h.1 hb, fun i x hx => owns_mono (h.2.1 i x hx) hb, h.2.2⟩
theorem MarksOK.below {w w' : World} {B : Nat} {Ds : List Nat} (h : MarksOK w B Ds) (hb : Below w.heap.size w w') : MarksOK w' B Ds :=
  ⟨h.1, fun D hD => ⟨(h.2 D hD).1, (hb.block D (Array.getElem?_eq_some_iff.1 (h.2 D hD).2).1).trans (h.2 D hD).2⟩⟩
theorem blk_of {w : World} {b : Nat} {t : TypeId} {cs : Array Value} {L : List UInt8} (h : Row w b t cs) (hi : ∀ (j : Nat) (v : Value), (L.map Sha.bv)[j]? = some v → cs[j]? = some v) : ∀ j v, (blk L).toList[j]? = some v → w.cell? ((⟨b, 0, none⟩ : Addr).add j) = some v := fun j v hv => by
  rw [Addr.add_mid, Nat.zero_add, h.cell]
  exact hi j v (by simpa [blk] using hv)
theorem World.heap_alloc_old {w : World} {o : Obj} {k : Nat} {x : Obj} (h : w.heap[k]? = some x) : (w.alloc o).heap[k]? = some x := (Below.heap_alloc w o k (Array.getElem?_eq_some_iff.1 h).1).trans h
theorem ownsMap_below {P : Program} {k : TypeId} {R : Value → Option (DataW Unit × List MemPlace)} {w w' : World} {b n B : Nat} {D : DataW Unit} (h : w.ownsMap P k R b n D) (hb : Below B w w') (hB : b < B) : w'.ownsMap P k R b n D := by
  obtain ⟨es, ck, hh, rest⟩ := h
  exact ⟨es, ck, (hb.block b hB).trans hh, rest⟩

set_option maxRecDepth 100000 in
set_option maxHeartbeats 4000000 in
theorem plan_yes (cs : Array Value) (hcs : (Tryz.prog.info? 27).map (·.size) = some cs.size) (L : List UInt8) (k n seg size : Int) (hv : Vf cs L k n seg size) (N : Nat) (hN : n = (N : Int)) (hN1 : N ≤ 255)
    (s : Nat) (hs : s ≤ 32) (pG pB : Option Addr) (nG cG nB cB : Nat) (good bad : List (Int × Int)) (w : World) (hG : HasP w (.slice pG nG cG) good) (hBd : HasP w (.slice pB nB cB) bad) (hnG : nG ≤ 100100) (hnB : nB ≤ 100100)
    (hwf : ∀ q ∈ good, 0 ≤ q.2 ∧ q.2 ≤ 1000)
    (hm : ∀ W, Below w.heap.size w W → W.cell? ⟨w.heap.size + 2, 0, none⟩ = some (.slice pG nG cG) → W.cell? ⟨w.heap.size + 2, 1, none⟩ = some (.slice pB nB cB) →
      Calls Tryz.prog 12 #[.agg cs, .int .i64 s, .slice (some ⟨w.heap.size + 2, 0, none⟩) 2 2] W fun e w' => e = .returned (.int .i64 0) ∧ Below W.heap.size W w') :
    CallsIn Fence.wide 9 Tryz.prog 5 #[.agg cs, .int .i64 s, .slice pG nG cG, .slice pB nB cB] w fun e w' => ∃ v T, e = .returned (.tuple #[v, .int .i64 0]) ∧ Tries w' w.heap.size v T ∧ T.map keyT = planK L s good bad N ∧ Below w.heap.size w w' := by
  obtain ⟨i0, hi0, hz0, hz1, hz2⟩ := info_parts info_int
  obtain ⟨i1, hi1, hy0, hy1, hy2⟩ := info_parts try_info
  have HM := Lib.hid hm
  have HCS := Lib.hid hcs
  have HV := Lib.hid hv
  have HG := Lib.hid hG
  have HB := Lib.hid hBd
  have HWF := Lib.hid hwf
  clear hm hcs hv hG hBd hwf
  subst hN
  refine callsIn_of_wp_marks Tryz.func5 rfl trivial ?_ rfl
  simp only [Tryz.ntmps5, List.size_toArray, List.length_cons, List.length_nil, Nat.reduceAdd, Nat.reduceSub, Array.replicate_succ, Array.replicate_zero, List.push_toArray, List.append_toArray, List.nil_append, List.cons_append]
  have R := (Row.new w 27 cs).alloc (.cells #[.slice pB nB cB] 28)
  gi_wp2_with (refine wpListIn_load_at rfl 27 (.tmp 4) rfl ⟨w.heap.size, 0, none⟩ rfl cs _ (verify_at R) Tryz.underlying27 rfl HCS.out ?_)
  have hB : Below w.heap.size w (((w.alloc (.cells cs 27)).alloc (.cells #[.slice pB nB cB] 28)).alloc (.cells #[.slice pG nG cG, .slice pB nB cB] 28)) :=
    (((Below.refl _ w).alloc (Nat.le_refl _) _).alloc (by simp) _).alloc (by simp; omega) _
  have RB := (Row.new (w.alloc (.cells cs 27)) 28 #[.slice pB nB cB]).alloc (.cells #[.slice pG nG cG, .slice pB nB cB] 28)
  have R2 := Row.new ((w.alloc (.cells cs 27)).alloc (.cells #[.slice pB nB cB] 28)) 28 #[.slice pG nG cG, .slice pB nB cB]
  have R1 := R.alloc (.cells #[.slice pG nG cG, .slice pB nB cB] 28)
  clear R
  simp only [World.size_alloc, Nat.add_assoc, Nat.reduceAdd] at R2 RB
  simp only [Nat.add_assoc, Nat.reduceAdd]
  refine ⟨trivial, (callsIn_wide.2 (HM.out _ hB (R2.cell 0) (R2.cell 1))).mono ?_⟩
  rintro e w2 ⟨rfl, hb2⟩
  have hB2 := hB.trans (hb2.mono hB.size)
  have hV2 := R1.below hb2 R1.lt
  have hS2 := RB.below hb2 RB.lt
  have hG2 := HG.out.later hB2
  clear R1 RB R2 hB hb2
  gi_wp2
  refine ⟨trivial, (callsIn_wide.2 (numbers_at nG cG pG good w2 hnG hG2 HWF.out)).mono ?_⟩
  rintro e w3 ⟨rfl, hown, hb3⟩
  have hB3 := hB2.trans (hb3.mono hB2.size)
  have hV3 := hV2.below hb3 hV2.lt
  have hS3 := hS2.below hb3 hS2.lt
  have hP3 := HB.out.later hB3
  have hML := hown.lt
  clear hV2 hS2 hG2 hB2 hb3
  have hn3 : w3.cell? ⟨w.heap.size, 49, none⟩ = some (.int .i64 (N : Int)) := (hV3.cell 49).trans HV.out.c49
  gi_wp2
  refine wpIn_loop (fun a' wr => ∃ u12 u13 u14 u15 u16 u18 u32 u33 u34 u35 u36 u37 u38 u39 u40 u41 u42 u43 u44 u45 u46 u47 u48 u49 u50 u51 u52 u53 u54 u55 u56 u57 u58 u59 u60 u61 u62 u63 u64 u65 u66 u67 : Value, ∃ ud : List Deferred, (∃ (k : Nat) (Ds : List Nat) (T : List Tr), k ≤ N ∧ u32 = .int .i64 k ∧ ud = marks Ds ∧ Below w3.heap.size w3 wr ∧ Tries wr w3.heap.size u12 T ∧ T.map keyT = planK L s good bad k ∧ MarksOK wr w3.heap.size Ds) ∧ a' = { tmps := #[Value.agg cs, Value.int IntKind.i64 s, Value.slice pG nG cG, Value.slice pB nB cB, Value.pointer (some { block := w.heap.size, off := 0 }), undef, undef, Value.pointer (some { block := w.heap.size + 1, off := 0 }), Value.slice none 0 0, Value.int IntKind.i64 0, Value.int IntKind.i64 0, Value.map (some w2.heap.size), u12, u13, u14, u15, u16, undef, u18, Value.agg cs, Value.int IntKind.i64 s, Value.slice pG nG cG, Value.slice pB nB cB, Value.slice (some { block := w.heap.size + 2, off := 0 }) 2 2, Value.int IntKind.i64 0, Value.int IntKind.i64 0, Value.bool false, undef, Value.slice pG nG cG, Value.map (some w2.heap.size), Value.pointer (some { block := w.heap.size, off := 49 }), Value.int IntKind.i64 N, u32, u33, u34, u35, u36, u37, u38, u39, u40, u41, u42, u43, u44, u45, u46, u47, u48, u49, u50, u51, u52, u53, u54, u55, u56, u57, u58, u59, u60, u61, u62, u63, u64, u65, u66, u67, undef], defers := ud }) (fun a' _ => N - (intOf (a'.tmps.getD 32 undef)).toNat) ?start ?round
  case start =>
    exact ⟨_, _, _, _, _, _, _, _, _, _, _, _, _, _, _, _, _, _, _, _, _, _, _, _, _, _, _, _, _, _, _, _, _, _, _, _, _, _, _, _, _, _, _, ⟨0, [], [], Nat.zero_le _, rfl, rfl, Below.refl _ _, ⟨World.ownsRow_nil _ _ _ _, OwnT.nil _ _⟩, rfl, MarksOK.nil _ _⟩, rfl⟩
  case round =>
    rintro _ wr ⟨u12, u13, u14, u15, u16, u18, u32, u33, u34, u35, u36, u37, u38, u39, u40, u41, u42, u43, u44, u45, u46, u47, u48, u49, u50, u51, u52, u53, u54, u55, u56, u57, u58, u59, u60, u61, u62, u63, u64, u65, u66, u67, ud, ⟨k, Ds, T, hk, rfl, rfl, hb, hT, hTk, hM⟩, rfl⟩
    have HTK := Lib.hid hTk
    have HMK := Lib.hid hM
    have HTT := Lib.hid hT
    have hownr := ownsMap_below hown hb hML
    have hVr := hV3.below hb hV3.lt
    have hSr := hS3.below hb hS3.lt
    clear hTk hM hT hn3
    by_cases hlt : k < N
    · have hki : (k : Int) < (N : Int) := by omega
      cases hh : hasNum good (k : Int) with
      | true =>
        gi_wp2_with (gi_at_lookup; refine wpListIn_lookup_pair rfl (.tmp 36) (.tmp 37) rfl w2.heap.size nG good rfl (hownr.alloc _) (k : Int) rfl (by omega) (by omega) ?_; intro y z; rw [hh])
        have hb4 : Below wr.heap.size wr ((wr.alloc (.cells #[.int .i64 k] 3)).alloc (.cells #[.int .i64 y, .int .i64 z] 44)) := ((Below.refl _ wr).alloc (Nat.le_refl _) _).alloc (by simp) _
        exact ⟨⟨_, _, _, _, _, _, _, _, _, _, _, _, _, _, _, _, _, _, _, _, _, _, _, _, _, _, _, _, _, _, _, _, _, _, _, _, _, _, _, _, _, _, _, ⟨k + 1, Ds, T, by omega, by go_num, rfl, hb.trans (hb4.mono hb.size), HTT.out.below hb4, HTK.out.trans (planK_has hh).symm, HMK.out.below hb4⟩, rfl⟩, by simp [intOf]; omega⟩
      | false =>
        have hVq : ∀ y z : Int, Row (((wr.alloc (.cells #[.int .i64 k] 3)).alloc (.cells #[.int .i64 y, .int .i64 z] 44)).alloc (.cells #[.int .i64 k, .slice none 0 0] 40)) w.heap.size 27 cs := fun y z => ((hVr.alloc _).alloc _).alloc _
        gi_wp2_with (first
          | (gi_at_lookup; refine wpListIn_lookup_pair rfl (.tmp 36) (.tmp 37) rfl w2.heap.size nG good rfl (hownr.alloc _) (k : Int) rfl (by omega) (by omega) ?_; intro y z; rw [hh])
          | (refine wpListIn_load_at rfl 23 (.tmp 44) rfl ⟨w.heap.size, 0, none⟩ rfl (blk L) _ (blk_of (hVq _ _) HV.out.idx) Tryz.underlying23 rfl (idx_info L HV.out.len) ?_))
        refine ⟨trivial, ((callsIn_wide.2 (ringround_at (blk L) s k _)).mono ?_)⟩
        rintro e wQ ⟨rfl, rfl⟩
        have b1 := Row.new wr 3 #[.int .i64 k]
        have bR := (Below.refl wr.heap.size wr).alloc (Nat.le_refl _) (.cells #[.int .i64 k] 3)
        generalize hw1 : wr.alloc (.cells #[.int .i64 k] 3) = v1 at b1 bR ⊢
        have z1 : v1.heap.size = wr.heap.size + 1 := by rw [← hw1, World.size_alloc]
        replace bR := bR.alloc (by omega) (.cells #[.int .i64 y, .int .i64 z] 44)
        replace b1 := b1.alloc (.cells #[.int .i64 y, .int .i64 z] 44)
        generalize hw2 : v1.alloc (.cells #[.int .i64 y, .int .i64 z] 44) = v2 at b1 bR ⊢
        have z2 : v2.heap.size = wr.heap.size + 2 := by rw [← hw2, World.size_alloc, z1]
        have b2 := Row.new v2 40 #[.int .i64 k, .slice none 0 0]
        replace b1 := b1.alloc (.cells #[.int .i64 k, .slice none 0 0] 40)
        replace bR := bR.alloc (by omega) (.cells #[.int .i64 k, .slice none 0 0] 40)
        rw [z2] at b2
        generalize hw3 : v2.alloc (.cells #[.int .i64 k, .slice none 0 0] 40) = v3 at b1 b2 bR ⊢
        have z3 : v3.heap.size = wr.heap.size + 3 := by rw [← hw3, World.size_alloc, z2]
        have b3 := Row.new v3 23 (blk L)
        replace b1 := b1.alloc (.cells (blk L) 23)
        replace b2 := b2.alloc (.cells (blk L) 23)
        replace bR := bR.alloc (by omega) (.cells (blk L) 23)
        rw [z3] at b3
        generalize hw4 : v3.alloc (.cells (blk L) 23) = v4 at b1 b2 b3 bR ⊢
        have z4 : v4.heap.size = wr.heap.size + 4 := by rw [← hw4, World.size_alloc, z3]
        have b4 := Row.new v4 3 #[.int .i64 s]
        replace b1 := b1.alloc (.cells #[.int .i64 s] 3)
        replace b2 := b2.alloc (.cells #[.int .i64 s] 3)
        replace b3 := b3.alloc (.cells #[.int .i64 s] 3)
        replace bR := bR.alloc (by omega) (.cells #[.int .i64 s] 3)
        rw [z4] at b4
        generalize hw5 : v4.alloc (.cells #[.int .i64 s] 3) = v5 at b1 b2 b3 b4 bR ⊢
        have z5 : v5.heap.size = wr.heap.size + 5 := by rw [← hw5, World.size_alloc, z4]
        have b5 := Row.new v5 3 #[.int .i64 k]
        replace b1 := b1.alloc (.cells #[.int .i64 k] 3)
        replace b2 := b2.alloc (.cells #[.int .i64 k] 3)
        replace b3 := b3.alloc (.cells #[.int .i64 k] 3)
        replace b4 := b4.alloc (.cells #[.int .i64 k] 3)
        replace bR := bR.alloc (by omega) (.cells #[.int .i64 k] 3)
        rw [z5] at b5
        generalize hw6 : v5.alloc (.cells #[.int .i64 k] 3) = wR at b1 b2 b3 b4 b5 bR ⊢
        have z6 : wR.heap.size = wr.heap.size + 6 := by rw [← hw6, World.size_alloc, z5]
        clear hw1 hw2 hw3 hw4 hw5 hw6 hVq
        simp only [z3]
        clear z1 z2 z3 z4 z5
        gi_wp2
        simp only [Nat.add_assoc, Nat.reduceAdd]
        have hseq : SeqStopsK Fence.wide 8 Tryz.prog 25 #[.pointer (some ⟨wr.heap.size + 3, 0, none⟩), .pointer (some ⟨wr.heap.size + 4, 0, none⟩), .pointer (some ⟨wr.heap.size + 5, 0, none⟩)] (fun x : Int × Int => #[.int .i64 x.1, .int .i64 x.2]) (Kp (wr.heap.size + 2))
            (fun xs => xs = rnd L s k) (fun _ => True) s wR := by
          cases s with
          | zero => exact rnd_none L (wr.heap.size + 2) _ _ _ wR HV.out.len b3 b4
          | succ m => exact rnd_some L m k (wr.heap.size + 2) _ _ _ wR HV.out.len hs (by omega) b3 b4 b5 (b2.cell 1) (by omega)
        refine wpIn_rangeFunc_ownF (F := Fence.wide) rfl (by decide) (gf := 25) (lb := #[.pointer (some ⟨wr.heap.size + 3, 0, none⟩), .pointer (some ⟨wr.heap.size + 4, 0, none⟩), .pointer (some ⟨wr.heap.size + 5, 0, none⟩)]) rfl trivial (enters_of Tryz.func25 (by kernel_rfl) rfl)
          hseq (fun h q => h.trans q) (fun W l o o' hl hW hc _ => Kp.putObj _ W l o o' hW hc (by omega)) (Below.refl _ _) (fun _ => rfl)
          (TryI wR (wr.heap.size + 2) k bad) (fun _ _ _ => False) (tryI_own (by omega) k bad) (fun _ _ _ _ _ hs _ _ => hs)
          ⟨⟨rfl, rfl, rfl, Nat.le_refl _, fun _ _ _ => rfl⟩, none, 0, 0, b2, World.ownsRow_nil _ _ _ _⟩
          (fun x => { tmps := #[Value.agg cs, Value.int IntKind.i64 s, Value.slice pG nG cG, Value.slice pB nB cB, Value.pointer (some { block := w.heap.size, off := 0 }), undef, undef, Value.pointer (some { block := w.heap.size + 1, off := 0 }), Value.slice none 0 0, Value.int IntKind.i64 0, Value.int IntKind.i64 0, Value.map (some w2.heap.size), u12, Value.pointer (some { block := wr.heap.size, off := 0 }), Value.pointer (some { block := wr.heap.size + 1, off := 0 }), Value.bool false, Value.pointer (some { block := wr.heap.size + 2, off := 0 }), undef, Value.int IntKind.i64 x.2, Value.agg cs, Value.int IntKind.i64 s, Value.slice pG nG cG, Value.slice pB nB cB, Value.slice (some { block := w.heap.size + 2, off := 0 }) 2 2, Value.int IntKind.i64 0, Value.int IntKind.i64 0, Value.bool false, undef, Value.slice pG nG cG, Value.map (some w2.heap.size), Value.pointer (some { block := w.heap.size, off := 49 }), Value.int IntKind.i64 N, Value.int IntKind.i64 k, Value.bool true, Value.int IntKind.i64 k, Value.tuple #[Value.agg #[Value.int IntKind.i64 y, Value.int IntKind.i64 z], Value.bool false], Value.map (some w2.heap.size), Value.int IntKind.i64 k, Value.tuple #[Value.agg #[Value.int IntKind.i64 y, Value.int IntKind.i64 z], Value.bool false], Value.agg #[Value.int IntKind.i64 y, Value.int IntKind.i64 z], Value.bool false, Value.bool false, Value.int IntKind.i64 k, Value.agg #[Value.int IntKind.i64 k, Value.slice none 0 0], Value.pointer (some { block := w.heap.size, off := 0 }), Value.agg (blk L), Value.int IntKind.i64 s, Value.int IntKind.i64 k, Value.func (.func 25) #[] #[.pointer (some ⟨wr.heap.size + 3, 0, none⟩), .pointer (some ⟨wr.heap.size + 4, 0, none⟩), .pointer (some ⟨wr.heap.size + 5, 0, none⟩)], Value.int IntKind.i64 x.1, Value.int IntKind.i64 x.2, u51, u52, u53, u54, u55, u56, u57, u58, u59, u60, u61, u62, u63, u64, u65, u66, u67, undef], defers := [] }) ?assign ?body ?done ?stop
        case assign =>
          intro l x W K hK
          gi_wp2
          exact hK
        case stop =>
          rintro D c pre W _ _ h _
          exact h.elim
        case body =>
          rintro l pre x W ⟨hg, p, n, c, hr, ho⟩ hpre
          have hbW : Below wr.heap.size wr W := bR.grown hg (by omega) (fun q e => by cases e; omega)
          have hsW := hg.size
          have hS := hSr.below hbW hSr.lt
          have hPW := hP3.later (hb.trans (hbW.mono hb.size))
          have hI := row_grown b1 hg (by simp)
          have c7 : W.cell? ⟨w.heap.size + 1, 0, none⟩ = some (.slice pB nB cB) := hS.cell 0
          have c13 : W.cell? ⟨wr.heap.size, 0, none⟩ = some (.int .i64 k) := hI.cell 0
          have hbtR : wr.heap.size + 2 < wR.heap.size := by omega
          clear hsW
          gi_wp2
          refine ⟨trivial, (CallsIn.inRound l (callsIn_wide.2 (contains_at nB cB pB bad x.2 (k : Int) W hnB hPW))).mono ?_⟩
          rintro e w5 ⟨rfl, hb5⟩
          by_cases hx : (x.2, (k : Int)) ∈ bad
          · rw [decide_eq_true hx]
            have HX := Lib.hid (tryI_keep hbtR ⟨hg, p, n, c, hr, ho⟩ hb5 hx)
            clear c7 c13 hr ho hx
            gi_wp2
            exact HX.out
          · rw [decide_eq_false hx]
            have hr5 := hr.below hb5 hr.lt
            have c16 : w5.cell? ⟨wr.heap.size + 2, 1, none⟩ = some (.slice p n c) := hr5.cell 1
            have HXI := Lib.hid hx
            have hln : (selS bad (k : Int) (pre.map (·.2))).length ≤ 32 := by
              have h1 := List.length_filter_le (fun sv => !decide ((sv, (k : Int)) ∈ bad)) (pre.map (·.2))
              rw [List.length_map] at h1
              unfold selS
              omega
            have hb5' := hb5.alloc hb5.size (.cells #[.int .i64 x.2] 3)
            have ho5 := (owns_below ho hb5 (Nat.le_refl _)).alloc (.cells #[.int .i64 x.2] 3)
            have hsz5 := hb5.size
            have hgs := hg.size
            clear c7 c13 hx
            gi_wp2_with (gi_at_builtin; refine wpListIn_append_keep rfl (.tmp 58) (.tmp 60) 38 rfl wR.heap.size 3 i0 (.int .i64 0) 1 8 Tryz.underlying38 hi0 hz0 hz1 hz2 rfl (by decide) (.slice p n c) _ _ rfl ho5 ⟨w5.heap.size, 0, none⟩ 1 1 [.int .i64 x.2] rfl rfl ?c1 ?c2 ?c3 ?c4 ?c5 ?_)
            case c1 =>
              intro j u hj
              rw [Addr.add_mid, Nat.zero_add, (Row.new w5 _ _).cell]
              simpa using hj
            case c2 => intro u hu; simp at hu; subst hu; rfl
            case c3 => unfold maxLen; omega
            case c4 => omega
            case c5 => simp; omega
            intro v' w6 h2 h3
            have hadd := tryI_add (w2 := w6) (v' := v') hbtR hg hr ho hb5' HXI.out (by rw [z6]; exact h2) (by rw [World.size_alloc]; exact h3)
            have hr6 : Row w6 (wr.heap.size + 2) 40 #[.int .i64 k, .slice p n c] := by
              rcases h3 with ⟨_, h⟩ | ⟨_, h⟩
              · refine row_grown (hr5.alloc _) h fun e => ?_
                have := (ho.lt _ e).1
                omega
              · exact row_grown (hr5.alloc _) h (by simp)
            obtain ⟨p', n', c', rfl⟩ : ∃ p' n' c', v' = .slice p' n' c' := by
              rcases h2.2 with ⟨h0, _⟩ | ⟨g, cap, cur, h0, _⟩
              · exact ⟨_, _, _, h0⟩
              · exact ⟨_, _, _, h0⟩
            have hput6 := setCell_put hr6 1 (.slice p' n' c')
            simp only [List.setIfInBounds_toArray, List.set_cons_succ, List.set_cons_zero] at hput6
            rw [← hput6] at hadd
            have HADD := Lib.hid hadd
            clear h2 h3 hadd hr5 c16 ho5 hb5' hr ho hput6
            have c6 := hr6.cell 1
            have f6 := hr6.frozen 1
            change w6.cell? ⟨wr.heap.size + 2, 1, none⟩ = some (.slice p n c) at c6
            gi_wp2
            exact HADD.out
        case done =>
          rintro D xs W hD rfl ⟨hg, p, n, c, hr, ho⟩ hDd
          have hbW : Below wr.heap.size wr W := bR.grown hg (by omega) (fun q e => by cases e; omega)
          have hln : T.length ≤ 255 := by
            have h1 := congrArg List.length HTK.out
            rw [List.length_map] at h1
            have h2 := planK_len L s good bad k
            omega
          have hTW := (owns_below HTT.out.1 hbW (Nat.le_refl _)).alloc (.cells #[.int .i64 k, .slice p n c] 40)
          have hsW := hg.size
          have hszb := hb.size
          have HR := Lib.hid hr
          gi_wp2_with (first
            | (refine wpListIn_load_at rfl 40 (.tmp 16) rfl ⟨wr.heap.size + 2, 0, none⟩ rfl #[.int .i64 k, .slice p n c] _ (verify_at HR.out) Tryz.underlying40 rfl try_size ?_)
            | (gi_at_builtin; refine wpListIn_append_own _ rfl (.tmp 63) (.tmp 65) 30 rfl w3.heap.size 40 i1 (.agg #[.int .i64 0, .slice none 0 0]) 2 32 Tryz.underlying30 hi1 hy0 hy1 hy2 rfl (by decide) _ T.length _ rfl hTW ⟨W.heap.size, 0, none⟩ 1 1 [.int .i64 k, .slice p n c] rfl rfl ?c1 ?c2 ?c3 ?c4 ?c5 ?_))
          case c2 => exact ⟨rfl, rfl⟩
          case c3 => unfold maxLen; omega
          case c4 => omega
          case c5 => omega
          intro v5 w7 hown5 hgrow5 _
          have hb7 : Below w3.heap.size w3 w7 := ((hb.trans (hbW.mono hb.size)).alloc (by omega) _).grown hgrow5 (by simp; omega) (fun q e => (HTT.out.1.lt q e).1)
          have hOT : OwnT w7 w3.heap.size T := HTT.out.2.map fun _ _ _ h => owns_other ((owns_below h hbW (Nat.le_refl _)).alloc _) hTW (by decide) hgrow5
          have hx7 : w7.ownsRow wR.heap.size 3 1 (.slice p n c) (selS bad (k : Int) ((rnd L s k).map (·.2))).length (ints (selS bad (k : Int) ((rnd L s k).map (·.2)))) := owns_other (ho.alloc _) hTW (by decide) hgrow5
          have hT7 : Tries w7 w3.heap.size v5 (T ++ [(((k : Int), Value.slice p n c, selS bad (k : Int) ((rnd L s k).map (·.2))) : Tr)]) :=
            ⟨by rw [flatT_snoc, List.length_append]; exact hown5, hOT.snoc (fun y hy b hb' => by have := HTT.out.2.lt y hy b hb'; omega) hx7 (by omega)⟩
          have hM7 : MarksOK w7 w3.heap.size (D :: Ds) := by
            refine ⟨List.nodup_cons.2 ⟨fun h => ?_, HMK.out.1⟩, fun D' hD' => ?_⟩
            · have := (Array.getElem?_eq_some_iff.1 (HMK.out.2 D h).2).1
              omega
            · rcases List.mem_cons.1 hD' with rfl | h
              · exact ⟨by omega, obj_grown ((World.heap_alloc_old hDd)) rfl hTW hgrow5⟩
              · have h1 := HMK.out.2 D' h
                exact ⟨h1.1, obj_grown (World.heap_alloc_old ((hbW.block D' (Array.getElem?_eq_some_iff.1 h1.2).1).trans h1.2)) rfl hTW hgrow5⟩
          have hK7 : (T ++ [(((k : Int), Value.slice p n c, selS bad (k : Int) ((rnd L s k).map (·.2))) : Tr)]).map keyT = planK L s good bad (k + 1) := by
            rw [List.map_append, HTK.out, planK_lacks hh]
            rfl
          have H7 := Lib.hid hT7
          have HK7 := Lib.hid hK7
          clear hT7 hK7 hown5 hgrow5 hOT hx7 hTW hr ho hg
          gi_wp2
          exact ⟨⟨_, _, _, _, _, _, _, _, _, _, _, _, _, _, _, _, _, _, _, _, _, _, _, _, _, _, _, _, _, _, _, _, _, _, _, _, _, _, _, _, _, _, _, ⟨k + 1, D :: Ds, _, by omega, by go_num, rfl, hb7, H7.out, HK7.out, hM7⟩, rfl⟩, by simp [intOf]; omega⟩
    · obtain rfl : k = N := by omega
      gi_wp2
      refine leavesM Ds wr HMK.out fun w' h1 h2 => ⟨_, results_tmp2 rfl _ _ _, _, T, rfl, (HTT.out.kc h1).mono hB3.size, HTK.out, hB3.trans ((hb.mono hB3.size).trans (h2.mono hB3.size))⟩
end Go.Proofs.YtfahbdakhbpfcaaGreat
