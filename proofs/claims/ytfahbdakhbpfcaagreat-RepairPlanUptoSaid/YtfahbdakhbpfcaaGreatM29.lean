/-
  Ord: WALK: ring.Order: the servers sorted by digest and number; conditions: 1 to 32 servers; none: an error.
-/
import Derived.Test.YtfahbdakhbpfcaaGreatM28
namespace Go.Proofs.YtfahbdakhbpfcaaGreat
open Go.RowKit
attribute [local go_sem] stepV stepVUpon

set_option maxRecDepth 100000 in
set_option maxHeartbeats 1000000 in
theorem order_none (cs : Array Value) (s : Int) (hs : s < 1) (w : World) :
    Calls Tryz.prog 26 #[.agg cs, .int .i64 s] w fun e w' => e = .returned (.tuple #[.slice none 0 0, .int .i64 2]) ∧ Below w.heap.size w w' := by
  go_enter Tryz.func26, Tryz.ntmps26
  go_wp2_with fail
  go_ret2
  exact ⟨rfl, (Below.refl _ _).alloc (Nat.le_refl _) _⟩

/-- the order's relation on so many servers -/
def cfR (L : List UInt8) (m : Nat) (x y : Fin (m + 1)) : Int := cmpK (key (rD L) x.val) (key (rD L) y.val)
theorem key_len (L : List UInt8) (x : Nat) : (key (rD L) x).length = 33 := by simp [key, rD_len]
theorem key_inj (L : List UInt8) (x y : Nat) (h : key (rD L) x = key (rD L) y) : x = y := by
  have h1 : (key (rD L) x)[32]? = some x := by
    unfold key
    rw [List.getElem?_append_right (by simp [rD_len])]
    simp [rD_len]
  have h2 : (key (rD L) y)[32]? = some y := by
    unfold key
    rw [List.getElem?_append_right (by simp [rD_len])]
    simp [rD_len]
  rw [h, h2] at h1
  exact (Option.some.inj h1).symm
theorem ltR_iff {L : List UInt8} {m : Nat} {x y : Fin (m + 1)} : ltOf (cfR L m) x y = true ↔ cmpK (key (rD L) x.val) (key (rD L) y.val) < 0 := by
  unfold ltOf cfR
  exact decide_eq_true_iff
theorem ltR_niff {L : List UInt8} {m : Nat} {x y : Fin (m + 1)} : ltOf (cfR L m) x y = false ↔ 0 ≤ cmpK (key (rD L) x.val) (key (rD L) y.val) := by
  rw [← Bool.not_eq_true, ltR_iff]
  omega
theorem swoR (L : List UInt8) (m : Nat) : Go.Sort.SWO (ltOf (cfR L m)) where
  irrefl x := by rw [ltR_niff, cmpK_self]; omega
  trans x y z h1 h2 := by
    rw [ltR_iff] at *
    have := cmpK_trans _ _ _ ((key_len L x).trans (key_len L y).symm) ((key_len L y).trans (key_len L z).symm) (Int.le_of_lt h1) (Int.le_of_lt h2)
    rcases Int.lt_or_eq_of_le this.1 with h | h
    · exact h
    · have := (this.2 h).1
      omega
  ntrans x y z h1 h2 := by
    rw [ltR_niff] at *
    have e1 := cmpK_neg (key (rD L) x) (key (rD L) y)
    have e2 := cmpK_neg (key (rD L) y) (key (rD L) z)
    have e3 := cmpK_neg (key (rD L) x) (key (rD L) z)
    have := cmpK_trans _ _ _ ((key_len L z).trans (key_len L y).symm) ((key_len L y).trans (key_len L x).symm) (by omega) (by omega)
    omega
theorem totR (L : List UInt8) (m : Nat) (x y : Fin (m + 1)) (h1 : ltOf (cfR L m) x y = false) (h2 : ltOf (cfR L m) y x = false) : x = y := by
  rw [ltR_niff] at h1 h2
  have e := cmpK_neg (key (rD L) x) (key (rD L) y)
  exact Fin.ext (key_inj L _ _ (cmpK_zero _ _ ((key_len L x).trans (key_len L y).symm) (by omega)))
/-- a stands ahead of b -/
def aheadB (L : List UInt8) (a b : Nat) : Bool := decide (cmpK (key (rD L) a) (key (rD L) b) < 0)
/-- the servers in their order -/
def ordL (L : List UInt8) (s : Nat) : List Nat := (List.range s).mergeSort fun x y => !aheadB L y x
theorem ordL_len (L : List UInt8) (s : Nat) : (ordL L s).length = s := by simp [ordL]
theorem strictR (L : List UInt8) (s : Nat) : Strict s (aheadB L) where
  irrefl x _ := (swoR L x).irrefl ⟨x, by omega⟩
  trans x y z _ _ _ h1 h2 := (swoR L (max x (max y z))).trans ⟨x, by omega⟩ ⟨y, by omega⟩ ⟨z, by omega⟩ h1 h2
  total x y _ _ hne := by
    unfold aheadB
    have e := cmpK_neg (key (rD L) x) (key (rD L) y)
    by_cases h0 : cmpK (key (rD L) x) (key (rD L) y) = 0
    · exact absurd (key_inj L _ _ (cmpK_zero _ _ ((key_len L x).trans (key_len L y).symm) h0)) hne
    · simp only [decide_eq_true_eq]
      omega
theorem ordL_perm (L : List UInt8) (s : Nat) : (ordL L s).Perm (List.range s) := List.mergeSort_perm _ _
theorem ordL_lt (L : List UInt8) (s : Nat) : ∀ x ∈ ordL L s, x < s := fun _ hx => List.mem_range.1 ((ordL_perm L s).mem_iff.1 hx)
theorem aheadB_iff {L : List UInt8} {a b : Nat} : aheadB L a b = true ↔ cmpK (key (rD L) a) (key (rD L) b) < 0 := by
  unfold aheadB
  exact decide_eq_true_iff
theorem ordL_sorted (L : List UInt8) (s : Nat) : (ordL L s).Pairwise fun x y => aheadB L x y = true := by
  have h := List.pairwise_mergeSort (le := fun x y => !aheadB L y x) (fun a b c h1 h2 => by
    simp only [Bool.not_eq_true'] at h1 h2 ⊢
    exact (swoR L (max a (max b c))).ntrans ⟨c, by omega⟩ ⟨b, by omega⟩ ⟨a, by omega⟩ h2 h1) (fun a b => by
    simp only [Bool.or_eq_true, Bool.not_eq_true']
    cases h1 : aheadB L b a with
    | false => exact Or.inl rfl
    | true =>
      right
      cases h2 : aheadB L a b with
      | false => rfl
      | true =>
        have := (swoR L (max a b)).trans ⟨a, by omega⟩ ⟨b, by omega⟩ ⟨a, by omega⟩ h2 h1
        rw [(swoR L (max a b)).irrefl] at this
        cases this) (List.range s)
  have hnd : (ordL L s).Nodup := (ordL_perm L s).nodup_iff.2 List.nodup_range
  have h2 := List.Pairwise.and h hnd
  refine (List.pairwise_iff_getElem.2 fun i j hi hj hij => ?_)
  have h3 := List.pairwise_iff_getElem.1 h2 i j hi hj hij
  simp only [Bool.not_eq_true'] at h3
  have hi' := ordL_lt L s _ (List.getElem_mem hi)
  have hj' := ordL_lt L s _ (List.getElem_mem hj)
  rcases (strictR L s).total _ _ hi' hj' h3.2 with h4 | h4
  · exact h4
  · have h5 : aheadB L ((ordL L s)[j]) ((ordL L s)[i]) = false := h3.1
    rw [h5] at h4
    cases h4

def ordV (L : List UInt8) (s : Nat) : Array Value := ((ordL L s).map fun x : Nat => Value.int .i64 (x : Int)).toArray
theorem ofFn_range (m : Nat) : (List.ofFn fun i : Fin (m + 1) => i).map Fin.val = List.range (m + 1) := by
  apply List.ext_getElem
  · simp
  · intro i h1 h2
    simp only [List.getElem_map, List.getElem_ofFn, List.getElem_range]
theorem ord_fin (L : List UInt8) (m : Nat) : (((Array.ofFn fun i : Fin (m + 1) => i).toList.mergeSort fun x y => !(ltOf (cfR L m)) y x).toArray.map fun x : Fin (m + 1) => Value.int .i64 ((x.val : Nat) : Int)) = ordV L (m + 1) := by
  unfold ordV ordL
  rw [Array.toList_ofFn, ← ofFn_range m, ← List.map_mergeSort (r := fun x y : Fin (m + 1) => !(ltOf (cfR L m)) y x) (fun a _ b _ => rfl)]
  simp
theorem oneFin (m : Nat) : OneCell fun x : Fin (m + 1) => Value.int .i64 ((x.val : Nat) : Int) := fun _ => rfl

theorem idx_info0 : (Tryz.prog.info? 23).map (·.size) = some 16 := by kernel_rfl
theorem idx_info (L : List UInt8) (hL : L.length = 16) : (Tryz.prog.info? 23).map (·.size) = some (blk L).size := by
  rw [blk_size, hL]
  exact idx_info0

def kArr (s k : Nat) : Array Value := arr (fun j => if j < k then .int .i64 (j : Int) else .int .i64 0) s
theorem kArr_zero (s : Nat) : arr (fun _ => Value.int .i64 0) s = kArr s 0 := arr_congr fun i _ => by simp
theorem kArr_set (s k : Nat) : (kArr s k).setIfInBounds k (.int .i64 (k : Int)) = kArr s (k + 1) := by
  unfold kArr
  rw [arr_set]
  refine arr_congr fun i _ => ?_
  by_cases h : i = k
  · subst h
    simp
  · by_cases h2 : i < k
    · have : i < k + 1 := by omega
      simp [h, h2, this]
    · have : ¬ i < k + 1 := by omega
      simp [h, h2, this]
theorem kArr_fin (m : Nat) : kArr (m + 1) (m + 1) = (Array.ofFn fun i : Fin (m + 1) => i).map fun x : Fin (m + 1) => Value.int .i64 ((x.val : Nat) : Int) := by
  apply Array.ext_getElem?
  intro i
  unfold kArr
  by_cases h : i < m + 1
  · rw [arr_get _ _ _ h]
    simp [h]
  · simp [arr, h]

theorem digs_of {w : World} {db s : Nat} {t : TypeId} {L Z : List UInt8} (hR : Row w db t (blk Z)) (hD : ∀ a j, a < s → j < 32 → Z[a * 32 + j]? = (rD L a)[j]?) : Digs w db s (rD L) := fun a k ha hk => by
  rw [hR.cell]
  have h1 := hD a k ha hk
  have h2 : (rD L a)[k]? = some ((rD L a)[k]'(by rw [rD_len]; exact hk)) := List.getElem?_eq_getElem _
  rw [h2] at h1
  simp only [blk, List.getElem?_toArray, List.getElem?_map, h1, Option.map_some, Sha.at8, List.getD, h2, Option.getD_some]
open Go.Sort Go.Shelf in
theorem sort_call (L : List UInt8) (m db bb b : Nat) (W : World) (hm : m + 1 ≤ 32) (hbx : W.cell? ⟨bb, 0, none⟩ = some (.slice (some ⟨db, 0, none⟩) (m + 1) (m + 1))) (hdg : Digs W db (m + 1) (rD L)) (h1 : bb ≠ b) (h2 : db ≠ b)
    (hR : Row W b 3 (kArr (m + 1) (m + 1))) {B : Nat} {a0 : World} (hB : Below B a0 W) (hb : B ≤ b) :
    Calls Tryz.prog 33 #[.slice (some ⟨b, 0, none⟩) (m + 1) (m + 1), .func (.func 34) #[] #[.pointer (some ⟨bb, 0, none⟩)]] W fun e w' =>
      e = .returned (.tuple #[]) ∧ Row w' b 3 (ordV L (m + 1)) ∧ Below B a0 w' := by
  have eg : ∀ args w, (callFunc 34 args).run Tryz.prog w = .ok (.enter 34 args) w := enters_of Tryz.func34 (by kernel_rfl) rfl
  have hcmp : CmpReads Tryz.prog 34 #[.pointer (some ⟨bb, 0, none⟩)] (fun x : Fin (m + 1) => Value.int .i64 ((x.val : Nat) : Int)) (cfR L m) b 0 (m + 1) W := fun n os dk _ x y =>
    cmp_at (m + 1) bb db (rD L) x.val y.val _ hm x.isLt y.isLt (fun i _ => rD_len L i) (sort_other _ hbx h1 n dk os) (fun a k ha hk => sort_other _ (hdg a k ha hk) h2 n dk os)
  have hH : Holds (fun x : Fin (m + 1) => Value.int .i64 ((x.val : Nat) : Int)) W b 0 (Array.ofFn fun i : Fin (m + 1) => i) := fun j hj => by
    have hj' : j < m + 1 := by simpa using hj
    refine ⟨?_, hR.frozen _⟩
    rw [Nat.zero_add, hR.cell, kArr_fin]
    simp [hj']
  have hcon := Any.slices_SortFunc_total sortL (fun x : Fin (m + 1) => Value.int .i64 ((x.val : Nat) : Int)) (oneFin m) (cfR L m) (swoR L m) 34 #[.pointer (some ⟨bb, 0, none⟩)] b 0 (m + 1) (Array.ofFn fun i : Fin (m + 1) => i) W eg
    (by rw [Array.size_ofFn]; exact hcmp.lays) hH hR.lt (by rw [Array.size_ofFn]; omega) (totR L m)
  rw [Array.size_ofFn] at hcon
  refine Calls.mono (P := Tryz.prog) hcon fun e w' ⟨he, n, os, hw⟩ => ⟨he, ?_, ?_⟩
  · rw [hw]
    have h := sort_row (fun x : Fin (m + 1) => Value.int .i64 ((x.val : Nat) : Int)) hR n ((Array.ofFn fun i : Fin (m + 1) => i).toList.mergeSort fun x y => !(ltOf (cfR L m)) y x).toArray os (by simp [kArr])
    rw [ord_fin] at h
    exact h
  · rw [hw]
    exact sort_below _ hB hb n _ os (by have := hR.lt; omega)

set_option maxRecDepth 100000 in
set_option maxHeartbeats 1000000 in
theorem order_at (L : List UInt8) (hL : L.length = 16) (m : Nat) (hm : m + 1 ≤ 32) (w : World) :
    Calls Tryz.prog 26 #[.agg (blk L), .int .i64 ((m + 1 : Nat) : Int)] w fun e w' => e = .returned (.tuple #[.slice (some ⟨w.heap.size + 3, 0, none⟩) (m + 1) (m + 1), .int .i64 0]) ∧ Row w' (w.heap.size + 3) 3 (ordV L (m + 1)) ∧ Below w.heap.size w w' := by
  obtain ⟨s, hs⟩ : ∃ s, s = m + 1 := ⟨_, rfl⟩
  rw [← hs]
  have HS := Lib.hid hs
  have hs1 : 1 ≤ s := by omega
  have hs2 : s ≤ 32 := by omega
  clear hs hm
  have HL := Lib.hid hL
  clear hL
  have hmk1 := make_digests s (by omega)
  have hmk2 := make_ints s (by omega)
  have hd1 : decide ((s : Int) < 1) = false := decide_eq_false (by omega)
  have hd2 : decide ((32 : Int) < (s : Int)) = false := decide_eq_false (by omega)
  go_enter Tryz.func26, Tryz.ntmps26
  go_wp2_with fail
  clear hmk1 hmk2 hd1 hd2
  have R0 := (((Row.new w 23 (blk L)).alloc (.cells (blk (List.replicate (32 * s) 0)) 25)).alloc (.cells #[.slice (some ⟨w.heap.size + 1, 0, none⟩) s s] 74)).alloc (.cells (arr (fun _ => .int .i64 0) s) 3)
  have R1 := ((Row.new (w.alloc (.cells (blk L) 23)) 25 (blk (List.replicate (32 * s) 0))).alloc (.cells #[.slice (some ⟨w.heap.size + 1, 0, none⟩) s s] 74)).alloc (.cells (arr (fun _ => .int .i64 0) s) 3)
  have R2 := (Row.new ((w.alloc (.cells (blk L) 23)).alloc (.cells (blk (List.replicate (32 * s) 0)) 25)) 74 #[.slice (some ⟨w.heap.size + 1, 0, none⟩) s s]).alloc (.cells (arr (fun _ => .int .i64 0) s) 3)
  have R3 := Row.new (((w.alloc (.cells (blk L) 23)).alloc (.cells (blk (List.replicate (32 * s) 0)) 25)).alloc (.cells #[.slice (some ⟨w.heap.size + 1, 0, none⟩) s s] 74)) 3 (arr (fun _ => .int .i64 0) s)
  have B3 := ((((Below.refl w.heap.size w).alloc (Nat.le_refl _) (.cells (blk L) 23)).alloc (by simp) (.cells (blk (List.replicate (32 * s) 0)) 25)).alloc (by simp; omega) (.cells #[.slice (some ⟨w.heap.size + 1, 0, none⟩) s s] 74)).alloc (by simp; omega) (.cells (arr (fun _ => .int .i64 0) s) 3)
  simp only [World.size_alloc] at R1 R2 R3
  generalize (((w.alloc _).alloc _).alloc _).alloc _ = W0 at *
  rw [kArr_zero] at R3
  go_loopw [20] (fun c wr => ∃ k : Nat, k ≤ s ∧ c = .int .i64 k ∧ Row wr w.heap.size 23 (blk L) ∧ Row wr (w.heap.size + 1 + 1) 74 #[.slice (some ⟨w.heap.size + 1, 0, none⟩) s s] ∧
    (∃ Z : List UInt8, Row wr (w.heap.size + 1) 25 (blk Z) ∧ Z.length = 32 * s ∧ ∀ a j, a < k → j < 32 → Z[a * 32 + j]? = (rD L a)[j]?) ∧ Row wr (w.heap.size + 1 + 1 + 1) 3 (kArr s k) ∧ Below w.heap.size w wr) (fun c _ => s - (intOf c).toNat)
  case atStart => exact ⟨0, Nat.zero_le _, rfl, R0, R2, ⟨_, R1, by simp, fun a j ha => absurd ha (Nat.not_lt_zero _)⟩, R3, B3⟩
  case round =>
    clear R0 R1 R2 R3 B3
    obtain ⟨k, hk, rfl, R0, R2, ⟨Z, R1, hZ, hD⟩, R3, hB⟩ := hrel
    have HZ := Lib.hid hZ
    have HD := Lib.hid hD
    clear hZ hD
    by_cases hlt : k < s
    · have hki : (k : Int) < (s : Int) := by omega
      go_wp2_with fail
      refine wp_region_any (by kernel_rfl) ?_
      have hu : IntKind.u32.wrap (k : Int) = (k : Int) := by rw [IntKind.wrap_u32]; omega
      refine wpAny_takeL (i := 1) (v := ?_) rfl (by kernel_rfl) (by kernel_rfl) (by kernel_rfl) (fun _ _ _ h => h) (Or.inl ⟨by rfl, ?_⟩) ?_
      rotate_left
      · intro w
        go_simp
        try with_reducible rfl
      simp only [Act.put, List.setIfInBounds_toArray, List.set_cons_zero, List.set_cons_succ]
      refine wpAny_takeL (i := 2) (v := ?_) rfl (by kernel_rfl) (by kernel_rfl) (by kernel_rfl) (fun _ _ _ h => h) (Or.inl ⟨by rfl, ?_⟩) ?_
      rotate_left
      · intro w
        go_simp
        try with_reducible rfl
      simp only [Act.put, List.setIfInBounds_toArray, List.set_cons_zero, List.set_cons_succ]
      refine wpAny_takeL (i := 3) (v := ?_) rfl (by kernel_rfl) (by kernel_rfl) (by kernel_rfl) (fun _ _ _ h => h) (Or.inl ⟨by rfl, ?_⟩) ?_
      rotate_left
      · intro w
        go_simp
        try with_reducible rfl
      simp only [Act.put, List.setIfInBounds_toArray, List.set_cons_zero, List.set_cons_succ]
      refine wpAny_takeL (i := 5) (v := ?_) rfl (by kernel_rfl) (by kernel_rfl) (by kernel_rfl) (fun _ _ _ h => h) (Or.inl ⟨by rfl, ?_⟩) ?_
      rotate_left
      · intro w
        go_simp
        try with_reducible rfl
      simp only [Act.put, List.setIfInBounds_toArray, List.set_cons_zero, List.set_cons_succ]
      refine wpAny_takeL (i := 6) (v := ?_) rfl (by kernel_rfl) (by kernel_rfl) (by kernel_rfl) (fun _ _ _ h => h) (Or.inl ⟨by rfl, ?_⟩) ?_
      rotate_left
      · intro w
        go_simp
        try with_reducible rfl
      simp only [Act.put, List.setIfInBounds_toArray, List.set_cons_zero, List.set_cons_succ]
      refine wpAny_takeL (i := 8) (v := ?_) rfl (by kernel_rfl) (by kernel_rfl) (by kernel_rfl) (fun _ _ _ h => h) (Or.inl ⟨by rfl, ?_⟩) ?_
      rotate_left
      · intro w
        go_simp
        try with_reducible rfl
      simp only [Act.put, List.setIfInBounds_toArray, List.set_cons_zero, List.set_cons_succ]
      change wpAny _ _ _ _ _ _ _ wr.drew
      refine wpAny_growL 9 [0, 4, 7] [_, _, _] (fun i => if i = 0 then Wd.is (.slice (some ⟨w.heap.size + 1, 0, none⟩) s s) else if i = 4 then Wd.is (.agg (blk L)) else Wd.is (.agg (blk (rD L k)))) (by kernel_rfl) (by kernel_rfl) rfl ⟨?o1, ?o2, ?o3, trivial⟩ ?_
      case o1 =>
        intro f w' hw hV K hK
        have hc : w'.cell? ⟨w.heap.size + 1 + 1, 0, none⟩ = some (.slice (some ⟨w.heap.size + 1, 0, none⟩) s s) := (R2.drew.below hw R2.lt).cell 0
        simp only [putO, Act.put, List.setIfInBounds_toArray, List.set_cons_zero, List.set_cons_succ]
        go_simp
        exact hK _ _ (Below.refl _ _) rfl
      case o2 =>
        intro f w' hw hV K hK
        have hr := R0.drew.below hw R0.lt
        rw [if_pos (by rfl)]
        refine stepV_load 23 (.tmp 2) rfl ⟨w.heap.size, 0, none⟩ rfl (blk L) _ (fun j v hv => ?_) Tryz.underlying23 rfl ?_ (hK _ _ (Below.refl _ _) rfl)
        · rw [Addr.add_mid, Nat.zero_add, hr.cell]
          simpa using hv
        · exact idx_info L HL.out
      case o3 =>
        intro f w' hw hV K hK
        have d4 : f 4 = .agg (blk L) := hV 4 (by kernel_rfl)
        simp only [putO, Act.put, List.setIfInBounds_toArray, List.set_cons_zero, List.set_cons_succ, d4]
        go_simp
        exact (ring_nat L HL.out k (by omega) w').mono fun e w2 ⟨he, hb⟩ => ⟨_, he, hK _ _ hb rfl⟩
      intro f w2 hw hV
      have d0 : f 0 = .slice (some ⟨w.heap.size + 1, 0, none⟩) s s := hV 0 (by simp)
      have d4 : f 4 = .agg (blk L) := hV 4 (by simp)
      have d7 : f 7 = .agg (blk (rD L k)) := hV 7 (by simp)
      simp only [putO, Act.put, List.setIfInBounds_toArray, List.set_cons_zero, List.set_cons_succ, d0, d4, d7]
      simp only [List.drop_succ_cons, List.drop_zero]
      have R0 := R0.drew.below hw R0.lt
      have R1 := R1.drew.below hw R1.lt
      have R2 := R2.drew.below hw R2.lt
      have R3 := R3.drew.below hw R3.lt
      have hB : Below w.heap.size w w2 := (hB.drew).trans (hw.mono hB.size)
      clear hV hw d0 d4 d7 hu
      have hst : w2.there (w.heap.size + 1) (k * 32) (blk (rD L k)).size := R1.thereAt _ _ (by rw [blk_size, rD_len, HZ.out]; omega)
      iterate 3 go_step
      refine wpList_store_mid rfl 25 (.tmp 32) (.tmp 30) rfl (w.heap.size + 1) (k * 32) (blk (rD L k)) rfl rfl hst (blk32_info _ (rD_len L k)) (blk_one _) ?_
      have R1' := R1.lay (k * 32) (rD L k) (by rw [rD_len, HZ.out]; omega)
      have R0' := R0.farCells (g := w.heap.size + 1) (by omega) ((rD L k).map Sha.bv) (k * 32)
      have R2' := R2.farCells (g := w.heap.size + 1) (by omega) ((rD L k).map Sha.bv) (k * 32)
      have R3' := R3.farCells (g := w.heap.size + 1) (by omega) ((rD L k).map Sha.bv) (k * 32)
      have hB' := below_setCells (g := w.heap.size + 1) (by omega) ((rD L k).map Sha.bv) (k * 32) hB
      change wpList _ _ _ _ _ (w2.setCells (w.heap.size + 1) (k * 32) ((rD L k).map Sha.bv))
      clear R0 R1 R2 R3 hB hst
      generalize w2.setCells _ _ _ = w3 at *
      have c3 : w3.cell? ⟨w.heap.size + 1 + 1 + 1, k, none⟩ = some (.int .i64 0) := (R3'.cell k).trans ((arr_get _ _ _ hlt).trans (by simp))
      have f3 := R3'.frozen k
      have R3'' := R3'.store k (.int .i64 (k : Int))
      rw [kArr_set] at R3''
      have R0'' := R0'.other ⟨w.heap.size + 1 + 1 + 1, k, none⟩ (.int .i64 (k : Int)) (by simp; omega)
      have R1'' := R1'.other ⟨w.heap.size + 1 + 1 + 1, k, none⟩ (.int .i64 (k : Int)) (by simp)
      have R2'' := R2'.other ⟨w.heap.size + 1 + 1 + 1, k, none⟩ (.int .i64 (k : Int)) (by simp)
      have hB'' := hB'.setCell (p := ⟨w.heap.size + 1 + 1 + 1, k, none⟩) (by simp; omega) (.int .i64 (k : Int))
      clear R0' R1' R2' R3' hB'
      go_wp2_with fail
      go_roundw
      case rel =>
        refine ⟨k + 1, by omega, by go_num, R0'', R2'', ⟨_, R1'', ?_, fun a j ha hj => ?_⟩, R3'', hB''⟩
        · rw [splice_len _ _ _ (by rw [rD_len, HZ.out]; omega)]
          exact HZ.out
        · by_cases hak : a = k
          · subst hak
            exact splice_get_in _ _ _ _ (by rw [rD_len, HZ.out]; omega) (by rw [rD_len]; exact hj)
          · rw [splice_get_before _ _ _ _ (by rw [rD_len, HZ.out]; omega) (by omega)]
            exact HD.out a j (by omega) hj
      case measure => simp [intOf]; omega
    · obtain rfl : k = s := by omega
      have hmf : ∀ (fn : Fn) (first cap : Array Value) (w : World), (Instr.makeFunc fn first cap).run Tryz.prog w = .ok (.func fn first cap) w := fun _ _ _ _ => rfl
      have hsm := HS.out
      have hcall := sort_call L m (w.heap.size + 1) (w.heap.size + 1 + 1) (w.heap.size + 1 + 1 + 1) wr (by omega) (by rw [← hsm]; exact R2.cell 0) (by rw [← hsm]; exact digs_of R1 HD.out) (by omega) (by omega) (by rw [← hsm]; exact R3) hB (by omega)
      rw [← hsm] at hcall
      clear hsm
      go_wp2_with fail
      refine hcall.mono ?_
      rintro e w2 ⟨rfl, hr, hb2⟩
      go_wp2_with fail
      go_ret2
      exact ⟨rfl, hr, hb2⟩
end Go.Proofs.YtfahbdakhbpfcaaGreat
