/- WALK: strongroomlaw31.BackupNone: true; conditions: the argument's cells are an Act's. -/
import Derived.Test.YtbbfdnknbghffaaGreatDoorNoneC
import Derived.Test.YtbbfdnknbghffaaGreatDoorGrow
import Derived.Test.YtbbfdnknbghffaaGreatDoorStepV
namespace Go.Proofs.YtbbfdnknbghffaaGreatDoor
open Go.RowKit

/-- a new Backup that is none -/
def Wd.fresh (H : Nat) : Wd := ⟨fun w v => ∃ b, v = .pointer (some ⟨b, 0, none⟩) ∧ H ≤ b ∧ Row w b 40 zbak, fun _ _ _ hb ⟨b, e, h, r⟩ => ⟨b, e, h, r.below hb r.lt⟩⟩
def vB (vq v1 : Value) (ps ls : Array Value) (v4 : Value) (H : Nat) (i : Nat) : Wd :=
  if i = 3 then Wd.is vq else if i = 5 then Wd.is v1 else if i = 7 then Wd.is (.agg ps) else if i = 9 then Wd.is (.agg ls) else if i = 11 then Wd.is v4 else
  if i = 12 then Wd.is (.tuple #[.agg zbak, .int .i64 1]) else if i = 13 then Wd.is (.tuple #[.agg zbak, .int .i64 1]) else if i = 14 then Wd.is (.agg zbak) else if i = 15 then Wd.is (.int .i64 1) else if i = 16 then Wd.fresh H else Wd.any
def vC (vq : Value) (s : ByteArray) (i : Nat) : Wd :=
  if i = 3 then Wd.is vq else if i = 5 then Wd.is (.string s) else if i = 6 then Wd.is (.tuple #[.slice none 0 0, .int .i64 1]) else if i = 7 then Wd.is (.tuple #[.slice none 0 0, .int .i64 1]) else if i = 9 then Wd.is (.int .i64 1) else Wd.is (.slice none 0 0)
def vD (vq : Value) (s : ByteArray) (ls : Array Value) (i : Nat) : Wd :=
  if i = 3 then Wd.is vq else if i = 5 then Wd.is (.string s) else if i = 7 then Wd.is (.agg ls) else if i = 8 then Wd.is (.tuple #[.slice none 0 0, .int .i64 1]) else if i = 9 then Wd.is (.tuple #[.slice none 0 0, .int .i64 1]) else if i = 11 then Wd.is (.int .i64 1) else Wd.is (.slice none 0 0)

theorem store_fresh {w : World} {op : Oper} {ρ : Operand → Value} {K : Value → World → Prop} {H : Nat} {u v : Value} (h16 : (Wd.fresh H).1 w u) (h14 : v = .agg zbak) (x y : Operand) (ho : op.op = .store 40 x y) (hx : ρ x = u) (hy : ρ y = v)
    (hK : K undef w) : stepV Tryz.prog op ρ w K := by
  obtain ⟨b, rfl, _, hr⟩ := h16
  exact stepV_store_same 40 x y ho b hx zbak (hy.trans h14) 40 hr zbak_size zbak_one hK
def znet : Array Value := #[.bool false, .slice none 0 0, .slice none 0 0, .int .i64 0, .slice none 0 0]

attribute [local go_sem] stepV stepVUpon
set_option maxRecDepth 100000 in
set_option maxHeartbeats 1000000 in
theorem law_true (cs ps ls : Array Value) (v1 v4 : Value) (s : ByteArray) (h1 : cs[1]? = some v1) (h9 : cs[9]? = some v4) (h11 : cs[11]? = some (.string s))
    (hps : ∀ (j : Nat) v, ps.toList[j]? = some v → cs[2 + j]? = some v) (hls : ∀ (j : Nat) v, ls.toList[j]? = some v → cs[7 + j]? = some v)
    (ips : (Tryz.prog.info? 25).map (·.size) = some ps.size) (ils : (Tryz.prog.info? 28).map (·.size) = some ls.size) (w : World) :
    Calls Tryz.prog 3 #[.agg cs] w fun e w' => e = .returned (.bool true) ∧ Below w.heap.size w w' := by
  have rA := ((Row.new w 31 cs).alloc (.cells znet 36)).alloc (.cells #[.pointer none, .pointer (some ⟨w.heap.size + 1, 0, none⟩)] 37)
  have rN := (Row.new (w.alloc (.cells cs 31)) 36 znet).alloc (.cells #[.pointer none, .pointer (some ⟨w.heap.size + 1, 0, none⟩)] 37)
  have rL := Row.new ((w.alloc (.cells cs 31)).alloc (.cells znet 36)) 37 #[.pointer none, .pointer (some ⟨w.heap.size + 1, 0, none⟩)]
  simp only [World.size_alloc] at rN rL
  have hb := (((Below.refl w.heap.size w).alloc (Nat.le_refl _) (.cells cs 31)).alloc (by simp) (.cells znet 36)).alloc (by simp; omega) (.cells #[.pointer none, .pointer (some ⟨w.heap.size + 1, 0, none⟩)] 37)
  have HA := Lib.hid rA
  have HN := Lib.hid rN
  have HL := Lib.hid rL
  have HB := Lib.hid hb
  have HPS := Lib.hid hps
  have HLS := Lib.hid hls
  have IPS := Lib.hid ips
  have ILS := Lib.hid ils
  have H1 := Lib.hid h1
  have H9 := Lib.hid h9
  have H11 := Lib.hid h11
  clear rA rN rL hb hps hls ips ils h1 h9 h11
  go_enter Tryz.func3, Tryz.ntmps3
  go_wp2_with fail
  generalize hW : ((w.alloc _).alloc _).alloc _ = W0
  have hW' : ((w.alloc (.cells cs 31)).alloc (.cells znet 36)).alloc (.cells #[.pointer none, .pointer (some ⟨w.heap.size + 1, 0, none⟩)] 37) = W0 := hW
  have hA := hW' ▸ HA.out
  have hN := hW' ▸ HN.out
  have hL := hW' ▸ HL.out
  have hB := hW' ▸ HB.out
  have HA := Lib.hid hA
  have HN := Lib.hid hN
  have HL := Lib.hid hL
  have HB := Lib.hid hB
  clear hW hW' hA hN hL hB
  go_loopw [5] (fun i wr => ∃ q : Nat, q ≤ 2 ∧ i = .int .i64 q ∧ Below W0.heap.size W0 wr) (fun i _ => 2 - (intOf i).toNat)
  case atStart => exact ⟨0, by omega, rfl, Below.refl _ _⟩
  case round =>
    obtain ⟨q, hq, rfl, hb⟩ := hrel
    by_cases hlt : q < 2
    · have hqi : (q : Int) < 2 := by omega
      obtain ⟨vq, hvq, hno⟩ : ∃ vq, wr.cell? ⟨w.heap.size + 1 + 1, q, none⟩ = some vq ∧ NoNet wr vq := by
        have c := (HL.out.below hb HL.out.lt).cell q
        rcases (by omega : q = 0 ∨ q = 1) with rfl | rfl
        · exact ⟨_, c, .inl rfl⟩
        · exact ⟨_, c, .inr ⟨_, rfl, (HN.out.below hb HN.out.lt).cell 0⟩⟩
      have rA := HA.out.below hb HA.out.lt
      have k1 := (rA.cell 1).trans H1.out
      have k9 := (rA.cell 9).trans H9.out
      have k11 := (rA.cell 11).trans H11.out
      have HV := Lib.hid hvq
      have HNO := Lib.hid hno
      have HRA := Lib.hid rA
      have K1 := Lib.hid k1
      have K9 := Lib.hid k9
      have K11 := Lib.hid k11
      have HBW := Lib.hid hb
      clear hvq hno rA k1 k9 k11 hb
      go_wp2_with fail
      have cellsP : ∀ (j : Nat) v, ps.toList[j]? = some v → wr.cell? ((⟨w.heap.size, 2, none⟩ : Addr).add j) = some v := fun j v hj => by
        rw [Addr.add_mid, HRA.out.cell]
        exact HPS.out j v hj
      have cellsL : ∀ (j : Nat) v, ls.toList[j]? = some v → wr.cell? ((⟨w.heap.size, 7, none⟩ : Addr).add j) = some v := fun j v hj => by
        rw [Addr.add_mid, HRA.out.cell]
        exact HLS.out j v hj
      have CP := Lib.hid cellsP
      have CL := Lib.hid cellsL
      clear cellsP cellsL
      refine wp_region_any (by kernel_rfl) ?_
      change wpAny _ _ _ _ _ _ _ wr.drew
      refine wpAny_takeL (i := 0) (v := ?_) rfl (by kernel_rfl) (by kernel_rfl) (by kernel_rfl) (fun _ _ _ h => h) (Or.inl ⟨by rfl, ?_⟩) ?_
      rotate_left
      · intro w
        go_simp
        try with_reducible rfl
      simp only [Act.put, List.setIfInBounds_toArray, List.set_cons_zero, List.set_cons_succ]
      refine wpAny_takeL (i := 1) (v := ?_) rfl (by kernel_rfl) (by kernel_rfl) (by kernel_rfl) (fun _ _ _ h => h) (Or.inl ⟨by rfl, ?_⟩) ?_
      rotate_left
      · intro w
        go_simp
        try with_reducible rfl
      simp only [Act.put, List.setIfInBounds_toArray, List.set_cons_zero, List.set_cons_succ]
      refine wpAny_takeL (i := 2) (v := ?_) rfl (by kernel_rfl) (by kernel_rfl) (by kernel_rfl) (fun _ _ _ h => h) (Or.inl ⟨by rfl, ?_⟩) ?_
      rotate_left
      · intro w
        go_simp
        try with_reducible rfl
      simp only [Act.put, List.setIfInBounds_toArray, List.set_cons_zero, List.set_cons_succ]
      refine wpAny_takeL (i := 4) (v := ?_) rfl (by kernel_rfl) (by kernel_rfl) (by kernel_rfl) (fun _ _ _ h => h) (Or.inl ⟨by rfl, ?_⟩) ?_
      rotate_left
      · intro w
        go_simp
        try with_reducible rfl
      simp only [Act.put, List.setIfInBounds_toArray, List.set_cons_zero, List.set_cons_succ]
      refine wpAny_takeL (i := 6) (v := ?_) rfl (by kernel_rfl) (by kernel_rfl) (by kernel_rfl) (fun _ _ _ h => h) (Or.inl ⟨by rfl, ?_⟩) ?_
      rotate_left
      · intro w
        go_simp
        try with_reducible rfl
      simp only [Act.put, List.setIfInBounds_toArray, List.set_cons_zero, List.set_cons_succ]
      refine wpAny_takeL (i := 8) (v := ?_) rfl (by kernel_rfl) (by kernel_rfl) (by kernel_rfl) (fun _ _ _ h => h) (Or.inl ⟨by rfl, ?_⟩) ?_
      rotate_left
      · intro w
        go_simp
        try with_reducible rfl
      simp only [Act.put, List.setIfInBounds_toArray, List.set_cons_zero, List.set_cons_succ]
      refine wpAny_takeL (i := 10) (v := ?_) rfl (by kernel_rfl) (by kernel_rfl) (by kernel_rfl) (fun _ _ _ h => h) (Or.inl ⟨by rfl, ?_⟩) ?_
      rotate_left
      · intro w
        go_simp
        try with_reducible rfl
      simp only [Act.put, List.setIfInBounds_toArray, List.set_cons_zero, List.set_cons_succ]
      refine wpAny_growL 18 [3, 5, 7, 9, 11, 12, 13, 14, 15, 16, 17] [_, _, _, _, _, _, _, _, _, _, _] (vB vq v1 ps ls v4 wr.heap.size) (by kernel_rfl) rfl rfl ⟨?a0, ?a1, ?a2, ?a3, ?a4, ?a5, ?a6, ?a7, ?a8, ?a9, ?a10, trivial⟩ ?_
      case a0 =>
        intro f W hw hV K hK
        have hw2 : Below wr.heap.size wr W := ((Below.refl wr.heap.size wr).drew).trans hw
        have hc := (hw2.cell (block_lt_of_cell HV.out)).trans HV.out
        simp only [putO, Act.put, List.setIfInBounds_toArray, List.set_cons_zero, List.set_cons_succ]
        go_simp
        exact hK _ _ (Below.refl _ _) rfl
      case a1 =>
        intro f W hw hV K hK
        have hw2 : Below wr.heap.size wr W := ((Below.refl wr.heap.size wr).drew).trans hw
        have hc := (hw2.cell (block_lt_of_cell K1.out)).trans K1.out
        simp only [putO, Act.put, List.setIfInBounds_toArray, List.set_cons_zero, List.set_cons_succ]
        go_simp
        exact hK _ _ (Below.refl _ _) rfl
      case a2 =>
        intro f W hw hV K hK
        have hw2 : Below wr.heap.size wr W := ((Below.refl wr.heap.size wr).drew).trans hw
        simp only [putO, Act.put, List.setIfInBounds_toArray, List.set_cons_zero, List.set_cons_succ]
        refine (if_pos (by rfl)).mpr ?_
        exact stepV_load 25 (.tmp 26) rfl ⟨w.heap.size, 2, none⟩ rfl ps _ (fun j v hj => (hw2.cell (p := (⟨w.heap.size, 2, none⟩ : Addr).add j) (block_lt_of_cell (CP.out j v hj))).trans (CP.out j v hj)) Tryz.underlying25 rfl IPS.out (hK _ _ (Below.refl _ _) rfl)
      case a3 =>
        intro f W hw hV K hK
        have hw2 : Below wr.heap.size wr W := ((Below.refl wr.heap.size wr).drew).trans hw
        simp only [putO, Act.put, List.setIfInBounds_toArray, List.set_cons_zero, List.set_cons_succ]
        refine (if_pos (by rfl)).mpr ?_
        exact stepV_load 28 (.tmp 28) rfl ⟨w.heap.size, 7, none⟩ rfl ls _ (fun j v hj => (hw2.cell (p := (⟨w.heap.size, 7, none⟩ : Addr).add j) (block_lt_of_cell (CL.out j v hj))).trans (CL.out j v hj)) Tryz.underlying28 rfl ILS.out (hK _ _ (Below.refl _ _) rfl)
      case a4 =>
        intro f W hw hV K hK
        have hw2 : Below wr.heap.size wr W := ((Below.refl wr.heap.size wr).drew).trans hw
        have hc := (hw2.cell (block_lt_of_cell K9.out)).trans K9.out
        simp only [putO, Act.put, List.setIfInBounds_toArray, List.set_cons_zero, List.set_cons_succ]
        go_simp
        exact hK _ _ (Below.refl _ _) rfl
      case a5 =>
        intro f W hw hV K hK
        have hw2 : Below wr.heap.size wr W := ((Below.refl wr.heap.size wr).drew).trans hw
        have d3 : f 3 = vq := hV 3 (by kernel_rfl)
        have d5 : f 5 = v1 := hV 5 (by kernel_rfl)
        have d7 : f 7 = .agg ps := hV 7 (by kernel_rfl)
        have d9 : f 9 = .agg ls := hV 9 (by kernel_rfl)
        have d11 : f 11 = v4 := hV 11 (by kernel_rfl)
        simp only [putO, Act.put, List.setIfInBounds_toArray, List.set_cons_zero, List.set_cons_succ, d3, d5, d7, d9, d11]
        go_simp
        refine (keep_none vq v1 v4 ps ls W (HNO.out.below hw2)).mono ?_
        rintro e w' ⟨rfl, hb⟩
        exact ⟨_, rfl, hK _ _ hb rfl⟩
      case a6 =>
        intro f W hw hV K hK
        have hw2 : Below wr.heap.size wr W := ((Below.refl wr.heap.size wr).drew).trans hw
        have d12 : f 12 = .tuple #[.agg zbak, .int .i64 1] := hV 12 (by kernel_rfl)
        simp only [putO, Act.put, List.setIfInBounds_toArray, List.set_cons_zero, List.set_cons_succ, d12]
        go_simp
        exact hK _ _ (Below.refl _ _) rfl
      case a7 =>
        intro f W hw hV K hK
        have hw2 : Below wr.heap.size wr W := ((Below.refl wr.heap.size wr).drew).trans hw
        have d13 : f 13 = .tuple #[.agg zbak, .int .i64 1] := hV 13 (by kernel_rfl)
        simp only [putO, Act.put, List.setIfInBounds_toArray, List.set_cons_zero, List.set_cons_succ, d13]
        go_simp
        exact hK _ _ (Below.refl _ _) rfl
      case a8 =>
        intro f W hw hV K hK
        have hw2 : Below wr.heap.size wr W := ((Below.refl wr.heap.size wr).drew).trans hw
        have d13 : f 13 = .tuple #[.agg zbak, .int .i64 1] := hV 13 (by kernel_rfl)
        simp only [putO, Act.put, List.setIfInBounds_toArray, List.set_cons_zero, List.set_cons_succ, d13]
        go_simp
        exact hK _ _ (Below.refl _ _) rfl
      case a9 =>
        intro f W hw hV K hK
        have hw2 : Below wr.heap.size wr W := ((Below.refl wr.heap.size wr).drew).trans hw
        simp only [putO, Act.put, List.setIfInBounds_toArray, List.set_cons_zero, List.set_cons_succ]
        go_simp
        refine hK _ _ ((Below.refl _ _).alloc (Nat.le_refl _) _) ?_
        change (Wd.fresh wr.heap.size).1 _ _
        exact ⟨_, rfl, hw2.size, Row.new W 40 zbak⟩
      case a10 =>
        intro f W hw hV K hK
        have hw2 : Below wr.heap.size wr W := ((Below.refl wr.heap.size wr).drew).trans hw
        have h14 : f 14 = .agg zbak := hV 14 (by kernel_rfl)
        have h16 : (Wd.fresh wr.heap.size).1 W (f 16) := hV 16 (by kernel_rfl)
        simp only [putO, Act.put, List.setIfInBounds_toArray, List.set_cons_zero, List.set_cons_succ]
        refine (if_pos (by rfl)).mpr ?_
        exact store_fresh h16 h14 (.tmp 6) (.tmp 33) rfl (by rfl) (by rfl) (hK _ _ (Below.refl _ _) trivial)
      intro f W1 hw hV
      have d3 : f 3 = vq := hV 3 (by simp)
      have d5 : f 5 = v1 := hV 5 (by simp)
      have d7 : f 7 = .agg ps := hV 7 (by simp)
      have d9 : f 9 = .agg ls := hV 9 (by simp)
      have d11 : f 11 = v4 := hV 11 (by simp)
      have d12 : f 12 = .tuple #[.agg zbak, .int .i64 1] := hV 12 (by simp)
      have d13 : f 13 = .tuple #[.agg zbak, .int .i64 1] := hV 13 (by simp)
      have d14 : f 14 = .agg zbak := hV 14 (by simp)
      have d15 : f 15 = .int .i64 1 := hV 15 (by simp)
      obtain ⟨b6, d16, hb6, r6⟩ : (Wd.fresh wr.heap.size).1 W1 (f 16) := hV 16 (by simp)
      have hw1 : Below wr.heap.size wr W1 := ((Below.refl wr.heap.size wr).drew).trans hw
      simp only [putO, Act.put, List.setIfInBounds_toArray, List.set_cons_zero, List.set_cons_succ, d3, d5, d7, d9, d11, d12, d13, d14, d15, d16, List.drop_succ_cons, List.drop_zero]
      clear d3 d5 d7 d9 d11 d12 d13 d14 d15 d16 hV hw
      have HR6 := Lib.hid r6
      have HW1 := Lib.hid hw1
      clear r6
      go_wp2_with fail
      have HV1 := Lib.hid ((HW1.out.cell (block_lt_of_cell HV.out)).trans HV.out)
      have HNO1 := Lib.hid (HNO.out.below HW1.out)
      have K111 := Lib.hid ((HW1.out.cell (block_lt_of_cell K11.out)).trans K11.out)
      clear hw1
      refine wp_region_any (by kernel_rfl) ?_
      change wpAny _ _ _ _ _ _ _ W1.drew
      refine wpAny_takeL (i := 0) (v := ?_) rfl (by kernel_rfl) (by kernel_rfl) (by kernel_rfl) (fun _ _ _ h => h) (Or.inl ⟨by rfl, ?_⟩) ?_
      rotate_left
      · intro w
        go_simp
        try with_reducible rfl
      simp only [Act.put, List.setIfInBounds_toArray, List.set_cons_zero, List.set_cons_succ]
      refine wpAny_takeL (i := 1) (v := ?_) rfl (by kernel_rfl) (by kernel_rfl) (by kernel_rfl) (fun _ _ _ h => h) (Or.inl ⟨by rfl, ?_⟩) ?_
      rotate_left
      · intro w
        go_simp
        try with_reducible rfl
      simp only [Act.put, List.setIfInBounds_toArray, List.set_cons_zero, List.set_cons_succ]
      refine wpAny_takeL (i := 2) (v := ?_) rfl (by kernel_rfl) (by kernel_rfl) (by kernel_rfl) (fun _ _ _ h => h) (Or.inl ⟨by rfl, ?_⟩) ?_
      rotate_left
      · intro w
        go_simp
        try with_reducible rfl
      simp only [Act.put, List.setIfInBounds_toArray, List.set_cons_zero, List.set_cons_succ]
      refine wpAny_takeL (i := 4) (v := ?_) rfl (by kernel_rfl) (by kernel_rfl) (by kernel_rfl) (fun _ _ _ h => h) (Or.inl ⟨by rfl, ?_⟩) ?_
      rotate_left
      · intro w
        go_simp
        try with_reducible rfl
      simp only [Act.put, List.setIfInBounds_toArray, List.set_cons_zero, List.set_cons_succ]
      refine wpAny_growL 11 [3, 5, 6, 7, 8, 9, 10] [_, _, _, _, _, _, _] (vC vq s) (by kernel_rfl) rfl rfl ⟨?b0, ?b1, ?b2, ?b3, ?b4, ?b5, ?b6, trivial⟩ ?_
      case b0 =>
        intro f W hw hV K hK
        have hw2 : Below W1.heap.size W1 W := ((Below.refl W1.heap.size W1).drew).trans hw
        have hc := (hw2.cell (block_lt_of_cell HV1.out)).trans HV1.out
        simp only [putO, Act.put, List.setIfInBounds_toArray, List.set_cons_zero, List.set_cons_succ]
        go_simp
        exact hK _ _ (Below.refl _ _) rfl
      case b1 =>
        intro f W hw hV K hK
        have hw2 : Below W1.heap.size W1 W := ((Below.refl W1.heap.size W1).drew).trans hw
        have hc := (hw2.cell (block_lt_of_cell K111.out)).trans K111.out
        simp only [putO, Act.put, List.setIfInBounds_toArray, List.set_cons_zero, List.set_cons_succ]
        go_simp
        exact hK _ _ (Below.refl _ _) rfl
      case b2 =>
        intro f W hw hV K hK
        have hw2 : Below W1.heap.size W1 W := ((Below.refl W1.heap.size W1).drew).trans hw
        have d3 : f 3 = vq := hV 3 (by kernel_rfl)
        have d5 : f 5 = .string s := hV 5 (by kernel_rfl)
        simp only [putO, Act.put, List.setIfInBounds_toArray, List.set_cons_zero, List.set_cons_succ, d3, d5]
        go_simp
        refine (restore_none vq s W (HNO1.out.below hw2)).mono ?_
        rintro e w' ⟨rfl, hb⟩
        exact ⟨_, rfl, hK _ _ hb rfl⟩
      case b3 =>
        intro f W hw hV K hK
        have hw2 : Below W1.heap.size W1 W := ((Below.refl W1.heap.size W1).drew).trans hw
        have d6 : f 6 = .tuple #[.slice none 0 0, .int .i64 1] := hV 6 (by kernel_rfl)
        simp only [putO, Act.put, List.setIfInBounds_toArray, List.set_cons_zero, List.set_cons_succ, d6]
        go_simp
        exact hK _ _ (Below.refl _ _) rfl
      case b4 =>
        intro f W hw hV K hK
        have hw2 : Below W1.heap.size W1 W := ((Below.refl W1.heap.size W1).drew).trans hw
        have d7 : f 7 = .tuple #[.slice none 0 0, .int .i64 1] := hV 7 (by kernel_rfl)
        simp only [putO, Act.put, List.setIfInBounds_toArray, List.set_cons_zero, List.set_cons_succ, d7]
        go_simp
        exact hK _ _ (Below.refl _ _) rfl
      case b5 =>
        intro f W hw hV K hK
        have hw2 : Below W1.heap.size W1 W := ((Below.refl W1.heap.size W1).drew).trans hw
        have d7 : f 7 = .tuple #[.slice none 0 0, .int .i64 1] := hV 7 (by kernel_rfl)
        simp only [putO, Act.put, List.setIfInBounds_toArray, List.set_cons_zero, List.set_cons_succ, d7]
        go_simp
        exact hK _ _ (Below.refl _ _) rfl
      case b6 =>
        intro f W hw hV K hK
        have hw2 : Below W1.heap.size W1 W := ((Below.refl W1.heap.size W1).drew).trans hw
        have d8 : f 8 = .slice none 0 0 := hV 8 (by kernel_rfl)
        simp only [putO, Act.put, List.setIfInBounds_toArray, List.set_cons_zero, List.set_cons_succ, d8]
        go_simp
        exact hK _ _ (Below.refl _ _) rfl
      intro f w2 hw hV
      have d3 : f 3 = vq := hV 3 (by simp)
      have d5 : f 5 = .string s := hV 5 (by simp)
      have d6 : f 6 = .tuple #[.slice none 0 0, .int .i64 1] := hV 6 (by simp)
      have d7 : f 7 = .tuple #[.slice none 0 0, .int .i64 1] := hV 7 (by simp)
      have d8 : f 8 = .slice none 0 0 := hV 8 (by simp)
      have d9 : f 9 = .int .i64 1 := hV 9 (by simp)
      have d10 : f 10 = .slice none 0 0 := hV 10 (by simp)
      have hw1 : Below W1.heap.size W1 w2 := ((Below.refl W1.heap.size W1).drew).trans hw
      simp only [putO, Act.put, List.setIfInBounds_toArray, List.set_cons_zero, List.set_cons_succ, d3, d5, d6, d7, d8, d9, d10, List.drop_succ_cons, List.drop_zero]
      clear d3 d5 d6 d7 d8 d9 d10 hV hw
      have HV2 := Lib.hid ((hw1.cell (block_lt_of_cell HV1.out)).trans HV1.out)
      have HNO2 := Lib.hid (HNO1.out.below hw1)
      have K112 := Lib.hid ((hw1.cell (block_lt_of_cell K111.out)).trans K111.out)
      have HR62 := Lib.hid (HR6.out.below hw1 HR6.out.lt)
      have HWW2 := Lib.hid hw1
      clear hw1
      go_wp2_with fail
      refine wp_region_any (by kernel_rfl) ?_
      change wpAny _ _ _ _ _ _ _ w2.drew
      refine wpAny_takeL (i := 0) (v := ?_) rfl (by kernel_rfl) (by kernel_rfl) (by kernel_rfl) (fun _ _ _ h => h) (Or.inl ⟨by rfl, ?_⟩) ?_
      rotate_left
      · intro w
        go_simp
        try with_reducible rfl
      simp only [Act.put, List.setIfInBounds_toArray, List.set_cons_zero, List.set_cons_succ]
      refine wpAny_takeL (i := 1) (v := ?_) rfl (by kernel_rfl) (by kernel_rfl) (by kernel_rfl) (fun _ _ _ h => h) (Or.inl ⟨by rfl, ?_⟩) ?_
      rotate_left
      · intro w
        go_simp
        try with_reducible rfl
      simp only [Act.put, List.setIfInBounds_toArray, List.set_cons_zero, List.set_cons_succ]
      refine wpAny_takeL (i := 2) (v := ?_) rfl (by kernel_rfl) (by kernel_rfl) (by kernel_rfl) (fun _ _ _ h => h) (Or.inl ⟨by rfl, ?_⟩) ?_
      rotate_left
      · intro w
        go_simp
        try with_reducible rfl
      simp only [Act.put, List.setIfInBounds_toArray, List.set_cons_zero, List.set_cons_succ]
      refine wpAny_takeL (i := 4) (v := ?_) rfl (by kernel_rfl) (by kernel_rfl) (by kernel_rfl) (fun _ _ _ h => h) (Or.inl ⟨by rfl, ?_⟩) ?_
      rotate_left
      · intro w
        go_simp
        try with_reducible rfl
      simp only [Act.put, List.setIfInBounds_toArray, List.set_cons_zero, List.set_cons_succ]
      refine wpAny_growL 11 [3, 5, 6, 7, 8, 9, 10] [_, _, _, _, _, _, _] (vC vq s) (by kernel_rfl) rfl rfl ⟨?c0, ?c1, ?c2, ?c3, ?c4, ?c5, ?c6, trivial⟩ ?_
      case c0 =>
        intro f W hw hV K hK
        have hw2 : Below w2.heap.size w2 W := ((Below.refl w2.heap.size w2).drew).trans hw
        have hc := (hw2.cell (block_lt_of_cell HV2.out)).trans HV2.out
        simp only [putO, Act.put, List.setIfInBounds_toArray, List.set_cons_zero, List.set_cons_succ]
        go_simp
        exact hK _ _ (Below.refl _ _) rfl
      case c1 =>
        intro f W hw hV K hK
        have hw2 : Below w2.heap.size w2 W := ((Below.refl w2.heap.size w2).drew).trans hw
        have hc := (hw2.cell (block_lt_of_cell K112.out)).trans K112.out
        simp only [putO, Act.put, List.setIfInBounds_toArray, List.set_cons_zero, List.set_cons_succ]
        go_simp
        exact hK _ _ (Below.refl _ _) rfl
      case c2 =>
        intro f W hw hV K hK
        have hw2 : Below w2.heap.size w2 W := ((Below.refl w2.heap.size w2).drew).trans hw
        have d3 : f 3 = vq := hV 3 (by kernel_rfl)
        have d5 : f 5 = .string s := hV 5 (by kernel_rfl)
        simp only [putO, Act.put, List.setIfInBounds_toArray, List.set_cons_zero, List.set_cons_succ, d3, d5]
        go_simp
        refine (caps_none vq s W (HNO2.out.below hw2)).mono ?_
        rintro e w' ⟨rfl, hb⟩
        exact ⟨_, rfl, hK _ _ hb rfl⟩
      case c3 =>
        intro f W hw hV K hK
        have hw2 : Below w2.heap.size w2 W := ((Below.refl w2.heap.size w2).drew).trans hw
        have d6 : f 6 = .tuple #[.slice none 0 0, .int .i64 1] := hV 6 (by kernel_rfl)
        simp only [putO, Act.put, List.setIfInBounds_toArray, List.set_cons_zero, List.set_cons_succ, d6]
        go_simp
        exact hK _ _ (Below.refl _ _) rfl
      case c4 =>
        intro f W hw hV K hK
        have hw2 : Below w2.heap.size w2 W := ((Below.refl w2.heap.size w2).drew).trans hw
        have d7 : f 7 = .tuple #[.slice none 0 0, .int .i64 1] := hV 7 (by kernel_rfl)
        simp only [putO, Act.put, List.setIfInBounds_toArray, List.set_cons_zero, List.set_cons_succ, d7]
        go_simp
        exact hK _ _ (Below.refl _ _) rfl
      case c5 =>
        intro f W hw hV K hK
        have hw2 : Below w2.heap.size w2 W := ((Below.refl w2.heap.size w2).drew).trans hw
        have d7 : f 7 = .tuple #[.slice none 0 0, .int .i64 1] := hV 7 (by kernel_rfl)
        simp only [putO, Act.put, List.setIfInBounds_toArray, List.set_cons_zero, List.set_cons_succ, d7]
        go_simp
        exact hK _ _ (Below.refl _ _) rfl
      case c6 =>
        intro f W hw hV K hK
        have hw2 : Below w2.heap.size w2 W := ((Below.refl w2.heap.size w2).drew).trans hw
        have d8 : f 8 = .slice none 0 0 := hV 8 (by kernel_rfl)
        simp only [putO, Act.put, List.setIfInBounds_toArray, List.set_cons_zero, List.set_cons_succ, d8]
        go_simp
        exact hK _ _ (Below.refl _ _) rfl
      intro f w3 hw hV
      have d3 : f 3 = vq := hV 3 (by simp)
      have d5 : f 5 = .string s := hV 5 (by simp)
      have d6 : f 6 = .tuple #[.slice none 0 0, .int .i64 1] := hV 6 (by simp)
      have d7 : f 7 = .tuple #[.slice none 0 0, .int .i64 1] := hV 7 (by simp)
      have d8 : f 8 = .slice none 0 0 := hV 8 (by simp)
      have d9 : f 9 = .int .i64 1 := hV 9 (by simp)
      have d10 : f 10 = .slice none 0 0 := hV 10 (by simp)
      have hw1 : Below w2.heap.size w2 w3 := ((Below.refl w2.heap.size w2).drew).trans hw
      simp only [putO, Act.put, List.setIfInBounds_toArray, List.set_cons_zero, List.set_cons_succ, d3, d5, d6, d7, d8, d9, d10, List.drop_succ_cons, List.drop_zero]
      clear d3 d5 d6 d7 d8 d9 d10 hV hw
      have HV3 := Lib.hid ((hw1.cell (block_lt_of_cell HV2.out)).trans HV2.out)
      have HNO3 := Lib.hid (HNO2.out.below hw1)
      have K113 := Lib.hid ((hw1.cell (block_lt_of_cell K112.out)).trans K112.out)
      have HR63 := Lib.hid (HR62.out.below hw1 HR62.out.lt)
      have HWW3 := Lib.hid hw1
      clear hw1
      go_wp2_with fail
      have CL3 := Lib.hid (fun (j : Nat) (v : Value) (hj : ls.toList[j]? = some v) => (HWW3.out.cell (p := (⟨w.heap.size, 7, none⟩ : Addr).add j) (Nat.lt_of_lt_of_le (block_lt_of_cell (CL.out j v hj)) (Nat.le_trans HW1.out.size HWW2.out.size))).trans ((HWW2.out.cell (p := (⟨w.heap.size, 7, none⟩ : Addr).add j) (Nat.lt_of_lt_of_le (block_lt_of_cell (CL.out j v hj)) HW1.out.size)).trans ((HW1.out.cell (p := (⟨w.heap.size, 7, none⟩ : Addr).add j) (block_lt_of_cell (CL.out j v hj))).trans (CL.out j v hj))))
      refine wp_region_any (by kernel_rfl) ?_
      change wpAny _ _ _ _ _ _ _ w3.drew
      refine wpAny_takeL (i := 0) (v := ?_) rfl (by kernel_rfl) (by kernel_rfl) (by kernel_rfl) (fun _ _ _ h => h) (Or.inl ⟨by rfl, ?_⟩) ?_
      rotate_left
      · intro w
        go_simp
        try with_reducible rfl
      simp only [Act.put, List.setIfInBounds_toArray, List.set_cons_zero, List.set_cons_succ]
      refine wpAny_takeL (i := 1) (v := ?_) rfl (by kernel_rfl) (by kernel_rfl) (by kernel_rfl) (fun _ _ _ h => h) (Or.inl ⟨by rfl, ?_⟩) ?_
      rotate_left
      · intro w
        go_simp
        try with_reducible rfl
      simp only [Act.put, List.setIfInBounds_toArray, List.set_cons_zero, List.set_cons_succ]
      refine wpAny_takeL (i := 2) (v := ?_) rfl (by kernel_rfl) (by kernel_rfl) (by kernel_rfl) (fun _ _ _ h => h) (Or.inl ⟨by rfl, ?_⟩) ?_
      rotate_left
      · intro w
        go_simp
        try with_reducible rfl
      simp only [Act.put, List.setIfInBounds_toArray, List.set_cons_zero, List.set_cons_succ]
      refine wpAny_takeL (i := 4) (v := ?_) rfl (by kernel_rfl) (by kernel_rfl) (by kernel_rfl) (fun _ _ _ h => h) (Or.inl ⟨by rfl, ?_⟩) ?_
      rotate_left
      · intro w
        go_simp
        try with_reducible rfl
      simp only [Act.put, List.setIfInBounds_toArray, List.set_cons_zero, List.set_cons_succ]
      refine wpAny_takeL (i := 6) (v := ?_) rfl (by kernel_rfl) (by kernel_rfl) (by kernel_rfl) (fun _ _ _ h => h) (Or.inl ⟨by rfl, ?_⟩) ?_
      rotate_left
      · intro w
        go_simp
        try with_reducible rfl
      simp only [Act.put, List.setIfInBounds_toArray, List.set_cons_zero, List.set_cons_succ]
      refine wpAny_growL 13 [3, 5, 7, 8, 9, 10, 11, 12] [_, _, _, _, _, _, _, _] (vD vq s ls) (by kernel_rfl) rfl rfl ⟨?d0, ?d1, ?d2, ?d3, ?d4, ?d5, ?d6, ?d7, trivial⟩ ?_
      case d0 =>
        intro f W hw hV K hK
        have hw2 : Below w3.heap.size w3 W := ((Below.refl w3.heap.size w3).drew).trans hw
        have hc := (hw2.cell (block_lt_of_cell HV3.out)).trans HV3.out
        simp only [putO, Act.put, List.setIfInBounds_toArray, List.set_cons_zero, List.set_cons_succ]
        go_simp
        exact hK _ _ (Below.refl _ _) rfl
      case d1 =>
        intro f W hw hV K hK
        have hw2 : Below w3.heap.size w3 W := ((Below.refl w3.heap.size w3).drew).trans hw
        have hc := (hw2.cell (block_lt_of_cell K113.out)).trans K113.out
        simp only [putO, Act.put, List.setIfInBounds_toArray, List.set_cons_zero, List.set_cons_succ]
        go_simp
        exact hK _ _ (Below.refl _ _) rfl
      case d2 =>
        intro f W hw hV K hK
        have hw2 : Below w3.heap.size w3 W := ((Below.refl w3.heap.size w3).drew).trans hw
        simp only [putO, Act.put, List.setIfInBounds_toArray, List.set_cons_zero, List.set_cons_succ]
        refine (if_pos (by rfl)).mpr ?_
        exact stepV_load 28 (.tmp 62) rfl ⟨w.heap.size, 7, none⟩ rfl ls _ (fun j v hj => (hw2.cell (p := (⟨w.heap.size, 7, none⟩ : Addr).add j) (block_lt_of_cell (CL3.out j v hj))).trans (CL3.out j v hj)) Tryz.underlying28 rfl ILS.out (hK _ _ (Below.refl _ _) rfl)
      case d3 =>
        intro f W hw hV K hK
        have hw2 : Below w3.heap.size w3 W := ((Below.refl w3.heap.size w3).drew).trans hw
        have d3 : f 3 = vq := hV 3 (by kernel_rfl)
        have d5 : f 5 = .string s := hV 5 (by kernel_rfl)
        have d7 : f 7 = .agg ls := hV 7 (by kernel_rfl)
        simp only [putO, Act.put, List.setIfInBounds_toArray, List.set_cons_zero, List.set_cons_succ, d3, d5, d7]
        go_simp
        refine (renew_none vq s ls W (HNO3.out.below hw2)).mono ?_
        rintro e w' ⟨rfl, hb⟩
        exact ⟨_, rfl, hK _ _ hb rfl⟩
      case d4 =>
        intro f W hw hV K hK
        have hw2 : Below w3.heap.size w3 W := ((Below.refl w3.heap.size w3).drew).trans hw
        have d8 : f 8 = .tuple #[.slice none 0 0, .int .i64 1] := hV 8 (by kernel_rfl)
        simp only [putO, Act.put, List.setIfInBounds_toArray, List.set_cons_zero, List.set_cons_succ, d8]
        go_simp
        exact hK _ _ (Below.refl _ _) rfl
      case d5 =>
        intro f W hw hV K hK
        have hw2 : Below w3.heap.size w3 W := ((Below.refl w3.heap.size w3).drew).trans hw
        have d9 : f 9 = .tuple #[.slice none 0 0, .int .i64 1] := hV 9 (by kernel_rfl)
        simp only [putO, Act.put, List.setIfInBounds_toArray, List.set_cons_zero, List.set_cons_succ, d9]
        go_simp
        exact hK _ _ (Below.refl _ _) rfl
      case d6 =>
        intro f W hw hV K hK
        have hw2 : Below w3.heap.size w3 W := ((Below.refl w3.heap.size w3).drew).trans hw
        have d9 : f 9 = .tuple #[.slice none 0 0, .int .i64 1] := hV 9 (by kernel_rfl)
        simp only [putO, Act.put, List.setIfInBounds_toArray, List.set_cons_zero, List.set_cons_succ, d9]
        go_simp
        exact hK _ _ (Below.refl _ _) rfl
      case d7 =>
        intro f W hw hV K hK
        have hw2 : Below w3.heap.size w3 W := ((Below.refl w3.heap.size w3).drew).trans hw
        have d10 : f 10 = .slice none 0 0 := hV 10 (by kernel_rfl)
        simp only [putO, Act.put, List.setIfInBounds_toArray, List.set_cons_zero, List.set_cons_succ, d10]
        go_simp
        exact hK _ _ (Below.refl _ _) rfl
      intro f w4 hw hV
      have d3 : f 3 = vq := hV 3 (by simp)
      have d5 : f 5 = .string s := hV 5 (by simp)
      have d7 : f 7 = .agg ls := hV 7 (by simp)
      have d8 : f 8 = .tuple #[.slice none 0 0, .int .i64 1] := hV 8 (by simp)
      have d9 : f 9 = .tuple #[.slice none 0 0, .int .i64 1] := hV 9 (by simp)
      have d10 : f 10 = .slice none 0 0 := hV 10 (by simp)
      have d11 : f 11 = .int .i64 1 := hV 11 (by simp)
      have d12 : f 12 = .slice none 0 0 := hV 12 (by simp)
      have hw1 : Below w3.heap.size w3 w4 := ((Below.refl w3.heap.size w3).drew).trans hw
      simp only [putO, Act.put, List.setIfInBounds_toArray, List.set_cons_zero, List.set_cons_succ, d3, d5, d7, d8, d9, d10, d11, d12, List.drop_succ_cons, List.drop_zero]
      clear d3 d5 d7 d8 d9 d10 d11 d12 hV hw
      have r6 := HR63.out.below hw1 HR63.out.lt
      have z0 : w4.cell? ⟨b6, 0, none⟩ = some (.string ByteArray.empty) := r6.cell 0
      have z1 : w4.cell? ⟨b6, 1, none⟩ = some (.slice none 0 0) := r6.cell 1
      have z2 : w4.cell? ⟨b6, 2, none⟩ = some (.int .i64 0) := r6.cell 2
      have z3 : w4.cell? ⟨b6, 3, none⟩ = some (.int .i64 0) := r6.cell 3
      have hB1 := HBW.out.trans (HW1.out.mono HBW.out.size)
      have hB2 := hB1.trans (HWW2.out.mono hB1.size)
      have hB3 := hB2.trans (HWW3.out.mono hB2.size)
      have HB4 := Lib.hid (hB3.trans (hw1.mono hB3.size))
      clear hB1 hB2 hB3 hw1 r6
      go_wp2_with fail
      go_roundw
      case rel => exact ⟨q + 1, by omega, by go_num, HB4.out⟩
      case measure => simp [intOf]; omega
    · obtain rfl : q = 2 := by omega
      go_wp2_with fail
      go_ret
      exact ⟨rfl, HB.out.trans (hb.mono HB.out.size)⟩
end Go.Proofs.YtbbfdnknbghffaaGreatDoor
