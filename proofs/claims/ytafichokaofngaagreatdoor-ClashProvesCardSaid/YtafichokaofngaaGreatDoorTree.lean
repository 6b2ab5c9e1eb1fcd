/- WALKS: tree.Width, tree.Build: as many nodes as the width says, each some digest; conditions: 1 to 512 leaves. -/
import Derived.Test.YtafichokaofngaaGreatDoorNode
import Derived.Lib.SlBuf
import Derived.Laws.MakeOwn
namespace Go.Proofs.YtafichokaofngaaGreatDoor
open Go.RowKit

/-- the leaves of the tree over so many -/
def wid (n : Nat) : Nat := if n ≤ 1 then 1 else if n ≤ 2 then 2 else if n ≤ 4 then 4 else if n ≤ 8 then 8 else if n ≤ 16 then 16 else if n ≤ 32 then 32 else if n ≤ 64 then 64 else if n ≤ 128 then 128 else if n ≤ 256 then 256 else 512
theorem wid_bd (n : Nat) (h1 : 1 ≤ n) (h2 : n ≤ 512) : n ≤ wid n ∧ wid n ≤ 512 ∧ 1 ≤ wid n := by
  unfold wid
  repeat' split
  all_goals omega

set_option maxRecDepth 100000 in
set_option maxHeartbeats 2000000 in
theorem width_at (n : Nat) (h1 : 1 ≤ n) (h2 : n ≤ 512) (w : World) : Calls Tryz.prog 141 #[.int .i64 n] w fun e w' => e = .returned (.tuple #[.int .i64 (wid n), .int .i64 0]) ∧ w = w' := by
  have g1 : ¬ (n : Int) < 1 := by omega
  have g2 : ¬ (512 : Int) < (n : Int) := by omega
  go_enter Tryz.func141, Tryz.ntmps141
  go_wp2_with fail
  go_loop [4] (fun t => ∃ k : Nat, (k = 1 ∨ k = 2 ∨ k = 4 ∨ k = 8 ∨ k = 16 ∨ k = 32 ∨ k = 64 ∨ k = 128 ∨ k = 256 ∨ k = 512) ∧ (k = 1 ∨ k < 2 * n) ∧ t = .int .i64 k) (fun t => 2 * n - (intOf t).toNat)
  case atStart => exact ⟨1, by omega, by omega, rfl⟩
  case round =>
    obtain ⟨k, hk, hk2, rfl⟩ := hrel
    have hkb : k ≤ 512 := by omega
    have hk1 : 1 ≤ k := by omega
    by_cases hlt : k < n
    · have HK := Lib.hid hk
      have HK2 := Lib.hid hk2
      clear hk hk2
      go_wp2_with fail
      go_round
      case rel => exact ⟨k * 2, by have := HK.out; omega, by omega, by go_num⟩
      case measure => simp [intOf]; omega
    · have hw : wid n = k := by
        unfold wid
        repeat' split
        all_goals omega
      have HW := Lib.hid hw
      clear hw hk hk2
      go_wp2_with fail
      go_ret2
      exact ⟨by rw [HW.out]; rfl, rfl⟩

/-- copy of elements of several cells into a row of the call's own -/
theorem run_copy_wide {P : Program} (w : World) (dT sT ty elem : TypeId) (z g o dLen dCap : Nat) (a : Addr) (sLen sCap : Nat) (cs : List Value) (hu : P.underlying dT = some (.slice elem)) (hs : (P.info? elem).map (·.size) = some z)
    (hn : cs.length = Nat.min sLen dLen * z) (hsrc : ∀ j v, cs[j]? = some v → w.cell? (a.add j) = some v) (hc : w.there g o cs.length) (h1 : ∀ v ∈ cs, v.oneCell' = true) :
    (Builtin.copy_ #[dT, sT] ty #[.slice (some ⟨g, o, none⟩) dLen dCap, .slice (some a) sLen sCap]).run P w = .ok (goInt (Nat.min sLen dLen)) (w.setCells g o cs) := by
  have hl := run_firstCells_some (P := P) w z (Nat.min sLen dLen) a sLen sCap cs hn hsrc
  have hst := run_storeCells_cells (P := P) g o cs 0 w (fun j hj => by simpa using (hc j hj).1) (fun j hj => by simpa using (hc j hj).2) h1
  cases hq : P.info? elem with
  | none => simp [hq] at hs
  | some i =>
    have hi : i.size = z := by simpa [hq] using hs
    simp [Builtin.copy_, run_underlying hu, Builtin.lenOf, sizeOf, typeInfo, hq, hi, hl, hst]

/-- cells laid into a block that is known whole -/
theorem Row.setCells {g : Nat} {t : TypeId} : ∀ (vs : List Value) (o : Nat) {w : World} {L : List Value}, Row w g t L.toArray → o + vs.length ≤ L.length → Row (w.setCells g o vs) g t (splice L o vs).toArray
  | [], o, w, L, h, _ => by simpa [World.setCells, splice] using h
  | v :: vs, o, w, L, h, hle => by
    simp only [List.length_cons] at hle
    have h1 := h.store o v
    rw [show L.toArray.setIfInBounds o v = (L.set o v).toArray by simp] at h1
    have h2 := Row.setCells vs (o + 1) h1 (by simp; omega)
    have e : splice (L.set o v) (o + 1) vs = splice L o (v :: vs) := by
      unfold splice
      have ho : o < L.length := by omega
      rw [List.take_succ_eq_append_getElem (by simpa using ho)]
      simp only [List.getElem_set_self, List.length_cons, List.append_assoc, List.cons_append, List.nil_append]
      rw [List.take_set_of_le (by omega), List.drop_set_of_lt (by omega)]
      rw [show o + 1 + vs.length = o + (vs.length + 1) by omega]
    rw [e] at h2
    exact h2
theorem below_setCells {B g : Nat} (hg : B ≤ g) : ∀ (vs : List Value) (o : Nat) {a w : World}, Below B a w → Below B a (w.setCells g o vs)
  | [], _, _, _, h => h
  | v :: vs, o, _, _, h => below_setCells hg vs (o + 1) (h.setCell (p := ⟨g, o, none⟩) hg v)
theorem splice_bytes (Z D : List UInt8) (o : Nat) (h : o + D.length ≤ Z.length) : ∃ Z' : List UInt8, splice (Z.map Sha.bv) o (D.map Sha.bv) = Z'.map Sha.bv ∧ Z'.length = Z.length :=
  ⟨splice Z o D, by simp [splice], length_splice Z o D h⟩
/-- a row of bytes, some of them laid anew -/
theorem Row.lay {w : World} {g : Nat} {t : TypeId} {Z : List UInt8} (h : Row w g t (blk Z)) (o : Nat) (D : List UInt8) (hD : o + D.length ≤ Z.length) : ∃ Z' : List UInt8, Row (w.setCells g o (D.map Sha.bv)) g t (blk Z') ∧ Z'.length = Z.length := by
  obtain ⟨Z', e, hl⟩ := splice_bytes Z D o hD
  refine ⟨Z', ?_, hl⟩
  have h1 := Row.setCells (D.map Sha.bv) o (L := Z.map Sha.bv) h (by simpa using hD)
  rw [e] at h1
  exact h1
theorem Row.part {w : World} {g : Nat} {t : TypeId} {Z : List UInt8} (h : Row w g t (blk Z)) (o n : Nat) : ∀ j v, (blk ((Z.drop o).take n)).toList[j]? = some v → w.cell? ((⟨g, o, none⟩ : Addr).add j) = some v := fun j v hv => by
  rw [Addr.add_mid, h.cell]
  have hj : j < n := by
    have := (List.getElem?_eq_some_iff.1 hv).1
    simp [blk] at this
    omega
  rw [← hv]
  simp [blk, hj]
theorem Row.thereAt {w : World} {g : Nat} {t : TypeId} {Z : List UInt8} (h : Row w g t (blk Z)) (o n : Nat) (hn : o + n ≤ Z.length) : w.there g o n := fun j hj => by
  refine ⟨?_, h.frozen _⟩
  rw [h.cell]
  have : o + j < (blk Z).size := by simp [blk]; omega
  simp [this]

theorem z32_rep : z32 = Array.replicate 32 (.int .u8 0) := by kernel_rfl
theorem zeros_made (k : Nat) : madeCells z32 (k * 32) = blk (List.replicate (32 * k) 0) := by
  rw [z32_rep]
  apply Array.ext_getElem?
  intro i
  by_cases hi : i < k * 32
  · have hi2 : i < 32 * k := by omega
    have hm : i % 32 < 32 := Nat.mod_lt _ (by omega)
    simp [madeCells, blk, hi, hi2, hm]
  · have hi2 : ¬ i < 32 * k := by omega
    simp [madeCells, blk, hi, hi2]
theorem dig_info_all : (Tryz.prog.info? 29).map (fun i => (i.zero, i.size, i.bytes)) = some (some (.agg z32), 32, 32) := by kernel_rfl
/-- so many digests of noughts -/
theorem make_digests (k : Nat) (hk : k ≤ 2000) (w : World) : (Instr.makeSlice 43 (.int .i64 k) (.int .i64 k)).run Tryz.prog w = .ok (.slice (some ⟨w.heap.size, 0, none⟩) k k) (w.alloc (.cells (blk (List.replicate (32 * k) 0)) 29)) := by
  obtain ⟨i0, hi, hz0, hz1, hz2⟩ := info_parts dig_info_all
  have h := run_make (P := Tryz.prog) w 43 29 i0 (.agg z32) Tryz.underlying43 hi hz0 .i64 .i64 k k (by omega) (by omega) (by rw [hz2]; omega) (by omega)
  simp only [Int.toNat_natCast] at h
  rw [h, hz1]
  exact congrArg (fun c => Result.ok _ (w.alloc (.cells c _))) (zeros_made k)

theorem blk32_info (D : List UInt8) (h : D.length = 32) : (Tryz.prog.info? 29).map (·.size) = some (blk D).size := by
  rw [blk_size, h]
  exact dig_info0
theorem padleaf_nat (i : Nat) (hi : i < 4294967296) (w : World) : Calls Tryz.prog 142 #[.int .u32 (i : Int)] w fun e w' => ∃ D, e = .returned (.agg (blk D)) ∧ D.length = 32 ∧ Below w.heap.size w w' := by
  have e : (BitVec.ofNat 32 i).toNat = i := by
    rw [BitVec.toNat_ofNat]
    exact Nat.mod_eq_of_lt (by omega)
  have e2 : Value.int .u32 (i : Int) = Sha.uv (BitVec.ofNat 32 i) := congrArg (fun n : Nat => Value.int .u32 (n : Int)) e.symm
  rw [e2]
  exact (padleaf_at (BitVec.ofNat 32 i) w).mono fun _ _ ⟨h1, h2⟩ => ⟨_, h1, Sha.digest_length _, h2⟩
theorem node_some (L R : List UInt8) (hL : L.length = 32) (hR : R.length = 32) (w : World) : Calls Tryz.prog 140 #[.agg (blk L), .agg (blk R)] w fun e w' => ∃ D, e = .returned (.agg (blk D)) ∧ D.length = 32 ∧ Below w.heap.size w w' :=
  (node_at L R hL hR w).mono fun _ _ ⟨h1, h2⟩ => ⟨_, h1, Sha.digest_length _, h2⟩

set_option maxRecDepth 100000 in
set_option maxHeartbeats 4000000 in
theorem build_at (n : Nat) (a : Addr) (c : Nat) (Y : List UInt8) (w : World) (h1 : 1 ≤ n) (h2 : n ≤ 512) (hY : Y.length = 32 * n) (hy : ∀ (j : Nat) u, (Y.map Sha.bv)[j]? = some u → w.cell? (a.add j) = some u) :
    Calls Tryz.prog 97 #[.slice (some a) n c] w fun e w' => ∃ g Z, e = .returned (.tuple #[.slice (some ⟨g, 0, none⟩) (2 * wid n - 1) (2 * wid n - 1), .int .i64 0]) ∧ w.heap.size ≤ g ∧
      Row w' g 29 (blk Z) ∧ Z.length = 32 * (2 * wid n - 1) ∧ Below w.heap.size w w' := by
  have HY := Lib.hid hY
  have HYC := Lib.hid hy
  clear hY hy
  go_enter Tryz.func97, Tryz.ntmps97
  go_wp2_with fail
  refine (width_at n h1 h2 w).mono ?_
  rintro e w1 ⟨rfl, rfl⟩
  obtain ⟨b1, b2, b3⟩ := wid_bd n h1 h2
  generalize hW : wid n = W at *
  have HW := Lib.hid hW
  clear hW
  have hmk : ∀ w, (Instr.makeSlice 43 (.int .i64 (2 * (W : Int) - 1)) (.int .i64 (2 * (W : Int) - 1))).run Tryz.prog w = .ok (.slice (some ⟨w.heap.size, 0, none⟩) (2 * W - 1) (2 * W - 1)) (w.alloc (.cells (blk (List.replicate (32 * (2 * W - 1)) 0)) 29)) := fun w => by
    have h := make_digests (2 * W - 1) (by omega) w
    rwa [show ((2 * W - 1 : Nat) : Int) = 2 * (W : Int) - 1 by omega] at h
  have t1 : ((W : Int) - 1).toNat = W - 1 := by omega
  have i1 : (0 : Int) ≤ (W : Int) - 1 := by omega
  have i2 : (W : Int) - 1 ≤ ((2 * W - 1 : Nat) : Int) := by omega
  have i3 : ¬ ((2 * W - 1 : Nat) : Int) = (W : Int) - 1 := by omega
  dsimp only
  iterate 72 go_step
  have r1 := Row.new w 29 (blk (List.replicate (32 * (2 * W - 1)) 0))
  have B1 := (Below.refl w.heap.size w).alloc (Nat.le_refl _) (.cells (blk (List.replicate (32 * (2 * W - 1)) 0)) 29)
  have hcs : (Y.map Sha.bv).length = Nat.min n (2 * W - 1 - (W - 1)) * 32 := by
    have hmin : Nat.min n (2 * W - 1 - (W - 1)) = n := Nat.min_eq_left (by omega)
    rw [List.length_map, HY.out, hmin]
    omega
  refine Lib.wpList_copy_run _ rfl (.tmp 25) (.tmp 26) 43 43 rfl _ _ (by rfl) (by rfl) (run_copy_wide (z := 32) _ 43 43 _ 29 w.heap.size ((W - 1) * 32) _ _ a n c (Y.map Sha.bv) Tryz.underlying43 dig_info0 hcs (fun j v hv => cell_al _ (HYC.out j v hv)) (r1.thereAt _ _ (by rw [List.length_map, HY.out, List.length_replicate]; omega)) (one_bytes Y)) ?_
  obtain ⟨Z2, r2, hZ2⟩ := r1.lay ((W - 1) * 32) Y (by rw [HY.out, List.length_replicate]; omega)
  have B2 := below_setCells (g := w.heap.size) (Nat.le_refl _) (Y.map Sha.bv) ((W - 1) * 32) B1
  rw [List.length_replicate] at hZ2
  have HZ2 := Lib.hid hZ2
  clear hmk hcs r1 B1 hZ2
  generalize (w.alloc _).setCells _ _ _ = W2 at *
  generalize hg : w.heap.size = g at *
  have HG := Lib.hid hg
  clear hg
  go_wp2_with fail
  go_loopw [7] (fun v wr => ∃ (i : Nat) (Z : List UInt8), n ≤ i ∧ i ≤ W ∧ v = .int .i64 i ∧ Row wr g 29 (blk Z) ∧ Z.length = 32 * (2 * W - 1) ∧ Below g w wr) (fun v _ => W - (intOf v).toNat)
  case atStart => exact ⟨n, Z2, Nat.le_refl _, b1, rfl, r2, HZ2.out, B2⟩
  case round =>
    clear r2 B2 HZ2
    obtain ⟨i, Z, hni, hiW, rfl, r2, hZ, B2⟩ := hrel
    have HZ := Lib.hid hZ
    clear hZ
    by_cases hlt : i < W
    · have hi1 : (i : Int) < 4294967296 := by omega
      go_wp2_with fail
      refine (padleaf_nat i (by omega) wr).mono ?_
      rintro e w3 ⟨D, rfl, hDl, hb3⟩
      have hgl := r2.lt
      have r3 := r2.below hb3 hgl
      have B3 := B2.trans (hb3.mono (Nat.le_of_lt hgl))
      have t2 : ((W : Int) - 1 + (i : Int)).toNat = W - 1 + i := by omega
      have j1 : (0 : Int) ≤ (W : Int) - 1 + (i : Int) := by omega
      have j2 : (W : Int) - 1 + (i : Int) < ((2 * W - 1 : Nat) : Int) := by omega
      dsimp only
      iterate 4 go_step
      refine wpList_store_mid rfl 29 (.tmp 43) (.tmp 42) rfl g ((W - 1 + i) * 32) (blk D) (by rfl) (by rfl) (r3.thereAt _ _ (by simp [blk, hDl, HZ.out]; omega)) (blk32_info D hDl) (blk_one D) ?_
      obtain ⟨Z4, r4, hZ4⟩ := r3.lay ((W - 1 + i) * 32) D (by rw [hDl, HZ.out]; omega)
      have B4 := below_setCells (g := g) (Nat.le_refl _) (D.map Sha.bv) ((W - 1 + i) * 32) B3
      rw [HZ.out] at hZ4
      have HZ4 := Lib.hid hZ4
      clear r2 r3 B2 B3 hb3 hZ4
      have e4 : (blk D).toList = D.map Sha.bv := rfl
      rw [e4]
      clear e4
      generalize w3.setCells _ _ _ = w4 at *
      go_wp2_with fail
      go_roundw
      case rel => exact ⟨i + 1, Z4, by omega, by omega, by go_num, r4, HZ4.out, B4⟩
      case measure => simp [intOf]; omega
    · have hi2 : (i : Int) ≤ 512 := by omega
      go_wp2_with fail
      go_loopw [8] (fun v wr => ∃ (x : Nat) (Z : List UInt8), x ≤ W - 1 ∧ v = .int .i64 x ∧ Row wr g 29 (blk Z) ∧ Z.length = 32 * (2 * W - 1) ∧ Below g w wr) (fun v _ => (intOf v).toNat)
      case atStart => exact ⟨W - 1, Z, Nat.le_refl _, congrArg (Value.int .i64) (by omega), r2, HZ.out, B2⟩
      case round =>
        clear r2 B2 HZ
        obtain ⟨x, Z, hxW, rfl, r2, hZ, B2⟩ := hrel
        have HZ := Lib.hid hZ
        clear hZ
        by_cases hx : 1 ≤ x
        · have q1 : IntKind.i64.wrap (2 * (x : Int)) = 2 * (x : Int) := IntWalk.i64_in _ (by omega)
          have q2 : IntKind.i64.wrap ((x : Int) - 1) = (x : Int) - 1 := IntWalk.i64_in _ (by omega)
          have q3 : IntKind.i64.wrap (2 * (x : Int) - 1) = 2 * (x : Int) - 1 := IntWalk.i64_in _ (by omega)
          have t3 : (2 * (x : Int) - 1).toNat = 2 * x - 1 := by omega
          have t4 : (2 * (x : Int)).toNat = 2 * x := by omega
          have t5 : ((x : Int) - 1).toNat = x - 1 := by omega
          have u1 : (0 : Int) ≤ 2 * (x : Int) - 1 := by omega
          have u2 : 2 * (x : Int) - 1 < ((2 * W - 1 : Nat) : Int) := by omega
          have u3 : (0 : Int) ≤ 2 * (x : Int) := by omega
          have u4 : 2 * (x : Int) < ((2 * W - 1 : Nat) : Int) := by omega
          have u5 : (0 : Int) ≤ (x : Int) - 1 := by omega
          have u7 : (1 : Int) ≤ 2 * (x : Int) := by omega
          have u8 : (1 : Int) ≤ (x : Int) := by omega
          have u6 : (x : Int) - 1 < ((2 * W - 1 : Nat) : Int) := by omega
          go_wp2_with fail
          refine wp_region_any (by kernel_rfl) ?_
          change wpAny _ _ _ _ _ _ _ wr.drew
          refine wpAny_takeL (i := 0) (v := ?_) rfl (by kernel_rfl) (by kernel_rfl) (by kernel_rfl) (fun _ _ _ h => h) (Or.inl ⟨by rfl, ?_⟩) ?_
          rotate_left
          · intro w
            go_simp
            try with_reducible rfl
          simp only [Act.put, List.setIfInBounds_toArray, List.set_cons_zero, List.set_cons_succ]
          refine wpAny_takeL (i := 1) (v := ?_) rfl (by kernel_rfl) (by kernel_rfl) (by kernel_rfl) (fun _ _ _ h => h) (Or.inl ⟨by rfl, ?_⟩) ?_
          rotate_left
          · intro w
            go_simp
            try with_reducible rfl
          simp only [Act.put, List.setIfInBounds_toArray, List.set_cons_zero, List.set_cons_succ]
          refine wpAny_takeL (i := 2) (v := ?_) rfl (by kernel_rfl) (by kernel_rfl) (by kernel_rfl) (fun _ _ _ h => h) (Or.inl ⟨by rfl, ?_⟩) ?_
          rotate_left
          · intro w
            go_simp
            try with_reducible rfl
          simp only [Act.put, List.setIfInBounds_toArray, List.set_cons_zero, List.set_cons_succ]
          refine wpAny_takeL (i := 3) (v := ?_) rfl (by kernel_rfl) (by kernel_rfl) (by kernel_rfl) (fun _ _ _ h => h) (Or.inl ⟨by rfl, ?_⟩) ?_
          rotate_left
          · intro w
            go_simp
            try with_reducible rfl
          simp only [Act.put, List.setIfInBounds_toArray, List.set_cons_zero, List.set_cons_succ]
          refine wpAny_takeL (i := 4) (v := ?_) rfl (by kernel_rfl) (by kernel_rfl) (by kernel_rfl) (fun _ _ _ h => h) (Or.inl ⟨by rfl, ?_⟩) ?_
          rotate_left
          · intro w
            go_simp
            try with_reducible rfl
          simp only [Act.put, List.setIfInBounds_toArray, List.set_cons_zero, List.set_cons_succ]
          refine wpAny_takeL (i := 5) (v := ?_) rfl (by kernel_rfl) (by kernel_rfl) (by kernel_rfl) (fun _ _ _ h => h) (Or.inl ⟨by rfl, ?_⟩) ?_
          rotate_left
          · intro w
            go_simp
            try with_reducible rfl
          simp only [Act.put, List.setIfInBounds_toArray, List.set_cons_zero, List.set_cons_succ]
          refine wpAny_takeL (i := 6) (v := ?_) rfl (by kernel_rfl) (by kernel_rfl) (by kernel_rfl) (fun _ _ _ h => h) (Or.inl ⟨by rfl, ?_⟩) ?_
          rotate_left
          · intro w
            go_simp
            try with_reducible rfl
          simp only [Act.put, List.setIfInBounds_toArray, List.set_cons_zero, List.set_cons_succ]
          refine wpAny_takeL (i := 7) (v := ?_) rfl (by kernel_rfl) (by kernel_rfl) (by kernel_rfl) (fun _ _ _ h => h) (Or.inl ⟨by rfl, ?_⟩) ?_
          rotate_left
          · intro w
            go_simp
            try with_reducible rfl
          simp only [Act.put, List.setIfInBounds_toArray, List.set_cons_zero, List.set_cons_succ]
          refine wpAny_takeL (i := 9) (v := ?_) rfl (by kernel_rfl) (by kernel_rfl) (by kernel_rfl) (fun _ _ _ h => h) (Or.inl ⟨by rfl, ?_⟩) ?_
          rotate_left
          · intro w
            go_simp
            try with_reducible rfl
          simp only [Act.put, List.setIfInBounds_toArray, List.set_cons_zero, List.set_cons_succ]
          refine wpAny_takeL (i := 10) (v := ?_) rfl (by kernel_rfl) (by kernel_rfl) (by kernel_rfl) (fun _ _ _ h => h) (Or.inl ⟨by rfl, ?_⟩) ?_
          rotate_left
          · intro w
            go_simp
            try with_reducible rfl
          simp only [Act.put, List.setIfInBounds_toArray, List.set_cons_zero, List.set_cons_succ]
          refine wpAny_takeL (i := 11) (v := ?_) rfl (by kernel_rfl) (by kernel_rfl) (by kernel_rfl) (fun _ _ _ h => h) (Or.inl ⟨by rfl, ?_⟩) ?_
          rotate_left
          · intro w
            go_simp
            try with_reducible rfl
          simp only [Act.put, List.setIfInBounds_toArray, List.set_cons_zero, List.set_cons_succ]
          refine wpAny_takeL (i := 12) (v := ?_) rfl (by kernel_rfl) (by kernel_rfl) (by kernel_rfl) (fun _ _ _ h => h) (Or.inl ⟨by rfl, ?_⟩) ?_
          rotate_left
          · intro w
            go_simp
            try with_reducible rfl
          simp only [Act.put, List.setIfInBounds_toArray, List.set_cons_zero, List.set_cons_succ]
          have hl2 : Z.length = 32 * (2 * W - 1) := HZ.out
          have lenA : ((Z.drop ((2 * x - 1) * 32)).take 32).length = 32 := by simp; omega
          have lenB : ((Z.drop (2 * x * 32)).take 32).length = 32 := by simp; omega
          refine wpAny_twoL (i := 8) (j := 13) (vi := .agg (blk ((Z.drop ((2 * x - 1) * 32)).take 32))) (vj := .agg (blk ((Z.drop (2 * x * 32)).take 32))) rfl rfl (by kernel_rfl) (by kernel_rfl) (by kernel_rfl) (by decide) (by kernel_rfl) (by kernel_rfl)
            (yieldsAt_load rfl 29 _ rfl ⟨g, (2 * x - 1) * 32, none⟩ rfl _ _ (r2.drew.part _ 32) Tryz.underlying29 rfl (blk32_info _ lenA))
            (yieldsAt_load rfl 29 _ rfl ⟨g, 2 * x * 32, none⟩ rfl _ _ (r2.drew.part _ 32) Tryz.underlying29 rfl (blk32_info _ lenB)) ?_
          refine wpAny_of_idxL [14, 15, 16] [_, _, _] _ _ rfl rfl (by kernel_rfl) ?_
          clear hl2
          go_wp2_with fail
          refine (node_some _ _ lenA lenB wr.drew).mono ?_
          rintro e w3 ⟨D, rfl, hDl, hb3⟩
          have hb3 : Below wr.heap.size wr.drew w3 := hb3
          have hgl := r2.lt
          have r3 := r2.drew.below hb3 hgl
          have B3 := B2.drew.trans (hb3.mono (Nat.le_of_lt hgl))
          clear lenA lenB
          dsimp only
          iterate 4 go_step
          refine wpList_store_mid rfl 29 (.tmp 65) (.tmp 64) rfl g ((x - 1) * 32) (blk D) (by rfl) (by rfl) (r3.thereAt _ _ (by simp [blk, hDl, HZ.out]; omega)) (blk32_info D hDl) (blk_one D) ?_
          obtain ⟨Z4, r4, hZ4⟩ := r3.lay ((x - 1) * 32) D (by rw [hDl, HZ.out]; omega)
          have B4 := below_setCells (g := g) (Nat.le_refl _) (D.map Sha.bv) ((x - 1) * 32) B3
          rw [HZ.out] at hZ4
          have HZ4 := Lib.hid hZ4
          clear r2 r3 B2 B3 hb3 hZ4
          have e4 : (blk D).toList = D.map Sha.bv := rfl
          rw [e4]
          clear e4
          generalize w3.setCells _ _ _ = w4 at *
          go_wp2_with fail
          go_roundw
          case rel => exact ⟨x - 1, Z4, by omega, congrArg (Value.int .i64) (by omega), r4, HZ4.out, B4⟩
          case measure => simp [intOf]; omega
        · obtain rfl : x = 0 := by omega
          go_wp2_with fail
          go_ret2
          exact ⟨g, Z, by rw [HW.out]; rfl, Nat.le_of_eq HG.out, r2, by rw [HW.out]; exact HZ.out, by rw [HG.out]; exact B2⟩
end Go.Proofs.YtafichokaofngaaGreatDoor
