/-
  Plan28: WALK: strongroomref28.Plan: the tries, or why none; conditions: at most 100100 pairs a list.
-/
import Derived.Test.YtfahbdakhbpfcaaGreatM40
import Derived.Test.YtfahbdakhbpfcaaGreatM43
import Derived.Test.YtfahbdakhbpfcaaGreatM48
namespace Go.Proofs.YtfahbdakhbpfcaaGreat
open Go.RowKit Go.Shelf Go.Maps

set_option maxRecDepth 100000 in
set_option maxHeartbeats 4000000 in
theorem plan28_5 (cs : Array Value) (L : List UInt8) (k n seg size s : Int) (hv : Vf cs L k n seg size) (pG pB : Option Addr) (nG cG nB cB : Nat) (w : World) (hok : ¬ okC k n seg size) :
    Calls Tryz.prog 8 #[.agg cs, .int .i64 s, .slice pG nG cG, .slice pB nB cB] w fun e w' => e = .returned (.tuple #[.slice none 0 0, .int .i64 5]) ∧ Below w.heap.size w w' := by
  have R := Row.new w 27 cs
  have B := (Below.refl w.heap.size w).alloc (Nat.le_refl _) (.cells cs 27)
  have a2 : (w.alloc (.cells cs 27)).cell? ⟨w.heap.size, 48, none⟩ = some (.int .i64 k) := (R.cell 48).trans hv.c48
  have a3 : (w.alloc (.cells cs 27)).cell? ⟨w.heap.size, 49, none⟩ = some (.int .i64 n) := (R.cell 49).trans hv.c49
  have a4 : (w.alloc (.cells cs 27)).cell? ⟨w.heap.size, 50, none⟩ = some (.int .i64 seg) := (R.cell 50).trans hv.c50
  have a5 : (w.alloc (.cells cs 27)).cell? ⟨w.heap.size, 51, none⟩ = some (.int .i64 size) := (R.cell 51).trans hv.c51
  have HV := Lib.hid hv
  clear hv
  go_enter Tryz.func8, Tryz.ntmps8
  go_wp2_with fail
  clear a2 a3 a4 a5
  refine (again09_at k n seg size _).mono ?_
  rintro e w2 ⟨⟨v', ⟨x0, x1, x2, x3, x4, x5, x6, x7, rfl⟩, ⟨h, _⟩ | ⟨_, rfl⟩⟩, hb⟩
  · exact absurd h hok
  have hB := B.trans (hb.mono (by simp))
  clear R B hb hok
  go_wp2_with fail
  exact bodyPost_ret (results_tmp2 rfl _ _ _) rfl ⟨rfl, hB.alloc hB.size _⟩

theorem round22_any (L : List UInt8) (hL : L.length = 16) (s i : Nat) (hs2 : s ≤ 32) (hi1 : i ≤ 1000) (w : World) :
    Calls Tryz.prog 20 #[.agg (L.map Sha.bv).toArray, .int .i64 s, .int .i64 i] w fun e w' =>
      (∃ v p c, e = .returned (.tuple #[v, .slice p s c]) ∧ w'.ownsRow w.heap.size 3 1 (.slice p s c) s (ints ((rnd L s i).map (·.2)))) ∧ Below w.heap.size w w' := by
  cases s with
  | zero =>
    refine (round22_none L i hL w).mono ?_
    rintro e w1 ⟨rfl, hb⟩
    exact ⟨⟨_, _, _, rfl, World.ownsRow_nil _ _ _ _⟩, hb⟩
  | succ m =>
    refine (round22_at L hL (m + 1) i (by omega) hs2 hi1 w).mono ?_
    rintro e w1 ⟨v, u, rfl, hu, hb⟩
    obtain ⟨p, c, rfl⟩ := own_lit hu
    exact ⟨⟨_, _, _, rfl, hu⟩, hb⟩

attribute [local go_sem] stepV stepVUpon
set_option maxRecDepth 100000 in
set_option maxHeartbeats 4000000 in
theorem plan28_ok (cs : Array Value) (L : List UInt8) (k n seg size s : Int) (hv : Vf cs L k n seg size) (pG pB : Option Addr) (nG cG nB cB : Nat) (good bad : List (Int × Int)) (w : World) (hok : okC k n seg size)
    (hG : HasP w (.slice pG nG cG) good) (hBd : HasP w (.slice pB nB cB) bad) (hnG : nG ≤ 100100) (hnB : nB ≤ 100100) :
    Calls Tryz.prog 8 #[.agg cs, .int .i64 s, .slice pG nG cG, .slice pB nB cB] w fun e w' =>
      ∃ v T, e = .returned (.tuple #[v, .int .i64 (planOut L k n seg size s good bad).1]) ∧ Tries w' w.heap.size v T ∧ T.map keyT = (planOut L k n seg size s good bad).2 ∧ Below w.heap.size w w' := by
  obtain ⟨i0, hi0, hz0, hz1, hz2⟩ := info_parts info_int
  obtain ⟨i1, hi1, hy0, hy1, hy2⟩ := info_parts try_info
  have R := Row.new w 27 cs
  have B := (Below.refl w.heap.size w).alloc (Nat.le_refl _) (.cells cs 27)
  have a2 : (w.alloc (.cells cs 27)).cell? ⟨w.heap.size, 48, none⟩ = some (.int .i64 k) := (R.cell 48).trans hv.c48
  have a3 : (w.alloc (.cells cs 27)).cell? ⟨w.heap.size, 49, none⟩ = some (.int .i64 n) := (R.cell 49).trans hv.c49
  have a4 : (w.alloc (.cells cs 27)).cell? ⟨w.heap.size, 50, none⟩ = some (.int .i64 seg) := (R.cell 50).trans hv.c50
  have a5 : (w.alloc (.cells cs 27)).cell? ⟨w.heap.size, 51, none⟩ = some (.int .i64 size) := (R.cell 51).trans hv.c51
  have HV := Lib.hid hv
  have HG := Lib.hid hG
  have HBD := Lib.hid hBd
  have HOK := Lib.hid hok
  clear hv hG hBd
  go_enter Tryz.func8, Tryz.ntmps8
  go_wp2_with fail
  clear a2 a3 a4 a5
  refine (again09_at k n seg size _).mono ?_
  rintro e w2 ⟨⟨v', ⟨x0, x1, x2, x3, x4, x5, x6, x7, rfl⟩, ⟨_, rfl⟩ | ⟨h, _⟩⟩, hb⟩
  rotate_left
  · exact absurd hok h
  have hR2 := (R.below hb R.lt).alloc (.cells #[.int .i64 x0, .int .i64 x1, .int .i64 x2, .int .i64 x3, .int .i64 x4, .int .i64 x5, .int .i64 x6, .int .i64 x7] 55)
  have hB := B.trans (hb.mono (by simp))
  have hB2 := hB.alloc hB.size (.cells #[.int .i64 x0, .int .i64 x1, .int .i64 x2, .int .i64 x3, .int .i64 x4, .int .i64 x5, .int .i64 x6, .int .i64 x7] 55)
  clear R B hb hok hB
  have fin2 : planOut L k n seg size s good bad = (2, []) → ∀ w', Below w.heap.size w w' → ∃ v T, Ending.returned (Value.tuple #[.slice none 0 0, .int .i64 2]) = Ending.returned (.tuple #[v, .int .i64 (planOut L k n seg size s good bad).1]) ∧ Tries w' w.heap.size v T ∧ T.map keyT = (planOut L k n seg size s good bad).2 ∧ Below w.heap.size w w' := fun hp w' hb' =>
    ⟨_, [], by rw [hp], ⟨World.ownsRow_nil _ _ _ _, OwnT.nil _ _⟩, by rw [hp]; rfl, hb'⟩
  have FIN2 := Lib.hid fin2
  clear fin2
  by_cases hs : 0 ≤ s ∧ s ≤ 32
  · obtain ⟨hs0, hs1⟩ := hs
    have c49 := (hR2.cell 49).trans HV.out.c49
    go_wp2_with fail
    refine (there_at nG cG pG good s n _ hnG (HG.out.later hB2)).mono ?_
    rintro e w3 ⟨rfl, hb3⟩
    have hR3 := hR2.below hb3 hR2.lt
    have hB3 := hB2.trans (hb3.mono hB2.size)
    clear hR2 hB2 hb3 c49
    cases hg : good.all (inB s n) with
    | false =>
      have HP := Lib.hid (planOut_2 (L := L) (s := s) (good := good) (bad := bad) HOK.out fun h => by have := h.2.2.1; rw [hg] at this; cases this)
      clear hg
      go_wp2_with fail
      exact bodyPost_ret (results_tmp2 (t := 8) (u := 9) rfl _ _ _) rfl (FIN2.out HP.out _ hB3)
    | true =>
      have HGA := Lib.hid hg
      clear hg
      have c49 := (hR3.cell 49).trans HV.out.c49
      go_wp2_with fail
      refine (there_at nB cB pB bad s n _ hnB (HBD.out.later hB3)).mono ?_
      rintro e w4 ⟨rfl, hb4⟩
      have hR4 := hR3.below hb4 hR3.lt
      have hB4 := hB3.trans (hb4.mono hB3.size)
      clear hR3 hB3 hb4 c49
      cases hbd : bad.all (inB s n) with
      | false =>
        have HP := Lib.hid (planOut_2 (L := L) (s := s) (good := good) (bad := bad) HOK.out fun h => by have := h.2.2.2; rw [hbd] at this; cases this)
        clear hbd
        go_wp2_with fail
        exact bodyPost_ret (results_tmp2 (t := 8) (u := 9) rfl _ _ _) rfl (FIN2.out HP.out _ hB4)
      | true =>
        have HP := Lib.hid (planOut_0 (L := L) (s := s) (good := good) (bad := bad) HOK.out ⟨hs0, hs1, HGA.out, hbd⟩)
        clear hbd FIN2
        obtain ⟨N, hN⟩ : ∃ m : Nat, n = (m : Int) := ⟨n.toNat, by have := HOK.out.1; omega⟩
        obtain ⟨S, hS⟩ : ∃ m : Nat, s = (m : Int) := ⟨s.toNat, by omega⟩
        have hN1 : N ≤ 255 := by have := HOK.out.2.1; omega
        subst hN hS
        have HP2 := Lib.hid (show planOut L k (N : Int) seg size (S : Int) good bad = (0, planK L S good bad N) from HP.out)
        have hs1' : S ≤ 32 := by omega
        clear HP hs0
        go_wp2_with fail
        go_loopw [12, 13] (fun v i wr => ∃ (q : Nat) (T : List Tr), q ≤ N ∧ i = .int .i64 q ∧ Tries wr w4.heap.size v T ∧ Hid (T.map keyT = planK L S good bad q) ∧ Below w4.heap.size w4 wr) (fun _ i _ => N - (intOf i).toNat)
        case atStart => exact ⟨0, [], Nat.zero_le _, rfl, ⟨World.ownsRow_nil _ _ _ _, OwnT.nil _ _⟩, Lib.hid rfl, Below.refl _ _⟩
        case round =>
          obtain ⟨q, T, hq, rfl, hT, HK, hb⟩ := hrel
          have hVr := hR4.below hb hR4.lt
          have hBr := hB4.trans (hb.mono hB4.size)
          have c49 := (hVr.cell 49).trans HV.out.c49
          have HTT := Lib.hid hT
          clear hT
          by_cases hlt : q < N
          · have hqi : (q : Int) < (N : Int) := by omega
            go_wp2_with fail
            refine (numbered_at nG cG pG good q wr hnG (HG.out.later hBr)).mono ?_
            rintro e w5 ⟨rfl, hb5⟩
            cases hh : hasNum good (q : Int) with
            | true =>
              have HN2 := Lib.hid (HK.out.trans (planK_has hh).symm)
              clear hh c49
              go_wp2_with fail
              go_roundw
              case rel => exact ⟨q + 1, T, by omega, by go_num, HTT.out.below hb5, HN2, hb.trans (hb5.mono hb.size)⟩
              case measure => simp [intOf]; omega
            | false =>
              have HH := Lib.hid hh
              clear hh c49
              have RT := Row.new w5 40 #[.int .i64 q, .slice none 0 0]
              have hV5 := (hVr.below hb5 hVr.lt).alloc (.cells #[.int .i64 q, .slice none 0 0] 40)
              have hB5 := hb5.alloc hb5.size (.cells #[.int .i64 q, .slice none 0 0] 40)
              have hrg : (w5.alloc (.cells #[.int .i64 q, .slice none 0 0] 40)).rangeAt w.heap.size 0 (L.map Sha.bv) := fun j v hv => by
                rw [Nat.zero_add, hV5.cell]
                exact HV.out.idx j v hv
              have HLN := Lib.hid (idx_info L HV.out.len)
              go_wp2_with (refine wpList_load_mid rfl 23 (.tmp 66) rfl w.heap.size 0 rfl (L.map Sha.bv) _ hrg Tryz.underlying23 rfl (by rw [HLN.out, blk_size, List.length_map]) ?_)
              refine (round22_any L HV.out.len S q hs1' (by omega) _).mono ?_
              rintro e w6 ⟨⟨v6, pu, cu, rfl, hu⟩, hb6⟩
              have hR6 := RT.below hb6 RT.lt
              have hB6 := hB5.trans (hb6.mono hB5.size)
              have hl6 := RT.lt
              have hl7 := hb6.size
              have hl5 := hb5.size
              clear RT hV5 hrg HLN hVr
              simp only [World.size_alloc] at hu hl6 hl7
              have HU := Lib.hid hu
              have hR6' := hR6
              clear hu hb6
              go_wp2_with fail
              go_loopw [17] (fun i wq => ∃ j : Nat, j ≤ S ∧ i = .int .i64 j ∧ TryI w6 w5.heap.size (q : Int) bad ((rnd L S q).take j) wq) (fun i _ => S - (intOf i).toNat)
              case atStart => exact ⟨0, Nat.zero_le _, rfl, ⟨rfl, rfl, rfl, Nat.le_refl _, fun _ _ _ => rfl⟩, none, 0, 0, hR6', World.ownsRow_nil _ _ _ _⟩
              case round =>
                obtain ⟨j, hj, rfl, hT6⟩ := hrel
                have hbW : Below _ _ wr := hB6.grown hT6.1 (by omega) (fun r e => by cases e; omega)
                have hB0 := hBr.trans (hbW.mono hBr.size)
                by_cases hlt2 : j < S
                · have hji : (j : Int) < (S : Int) := by omega
                  have hus := owns_grown HU.out hT6.1 (fun r hr hv => by cases hr; have := (HU.out.lt _ hv).1; omega)
                  obtain ⟨x, hx⟩ : ∃ x, (rnd L S q)[j]? = some x := ⟨(rnd L S q)[j]'(by rw [rnd_len]; omega), List.getElem?_eq_getElem _⟩
                  have htk : (rnd L S q).take (j + 1) = (rnd L S q).take j ++ [x] := by
                    rw [List.take_add_one, hx]
                    rfl
                  have hxi : (ints ((rnd L S q).map (·.2)))[j]? = some (.int .i64 x.2) := ints_get (by rw [List.getElem?_map, hx]; rfl)
                  obtain ⟨au, rfl, hcx⟩ := (Has.of_owns hus).cellAt hxi
                  have HTK := Lib.hid htk
                  have HCX := Lib.hid hcx
                  have HT6 := Lib.hid hT6
                  clear hx htk hxi hus hT6
                  go_wp2_with fail
                  refine (has_at nB cB pB bad x.2 (q : Int) wr hnB (HBD.out.later hB0)).mono ?_
                  rintro e w7 ⟨rfl, hb7⟩
                  by_cases hm : (x.2, (q : Int)) ∈ bad
                  · rw [decide_eq_true hm]
                    have HTN := tryI_keep (by omega) HT6.out hb7 hm
                    have H2 := Lib.hid HTN.2.2
                    clear HTN hm hcx hb7
                    go_wp2_with fail
                    go_roundw
                    case rel => exact ⟨j + 1, by omega, by go_num, by rw [HTK.out]; exact H2.out⟩
                    case measure => simp [intOf]; omega
                  · rw [decide_eq_false hm]
                    have HM := Lib.hid hm
                    clear hm hcx
                    go_wp2_with fail
                    obtain ⟨hg6, p, n, c, hr, ho⟩ := HT6.out
                    have hr7 := hr.below hb7 hr.lt
                    have ho7 := owns_below ho hb7 (Nat.le_refl _)
                    have hcx7 := (hb7.cell (p := au.add j) (block_lt_of_cell HCX.out)).trans HCX.out
                    have hgs := hg6.size
                    have hs7 := hb7.size
                    have hln : (selS bad (q : Int) (((rnd L S q).take j).map (·.2))).length ≤ 32 := by
                      have h1 := List.length_filter_le (fun sv => !decide ((sv, (q : Int)) ∈ bad)) (((rnd L S q).take j).map (·.2))
                      rw [List.length_map, List.length_take] at h1
                      unfold selS
                      omega
                    replace hb7 := hb7.drew
                    replace hr7 := hr7.drew
                    replace ho7 : w7.drew.ownsRow w6.heap.size 3 1 (.slice p n c) _ _ := ho7
                    replace hcx7 : w7.drew.cell? (au.add j) = _ := hcx7
                    replace hs7 : wr.heap.size ≤ w7.drew.heap.size := hs7
                    refine wp_region_any (by kernel_rfl) ?_
                    change wpAny _ _ _ _ _ _ _ w7.drew
                    generalize w7.drew = w7 at *
                    refine wpAny_takeL (i := 0) (v := ?_) rfl (by kernel_rfl) (by kernel_rfl) (by kernel_rfl) (fun _ _ _ h => h) (Or.inl ⟨by rfl, ?_⟩) ?_
                    rotate_left
                    · intro w
                      go_simp
                      try with_reducible rfl
                    simp only [Act.put, List.setIfInBounds_toArray, List.set_cons_zero, List.set_cons_succ]
                    refine wpAny_takeL (i := 2) (v := ?_) rfl (by kernel_rfl) (by kernel_rfl) (by kernel_rfl) (fun _ _ _ h => h) (Or.inl ⟨by rfl, ?_⟩) ?_
                    rotate_left
                    · intro w
                      go_simp
                      try with_reducible rfl
                    simp only [Act.put, List.setIfInBounds_toArray, List.set_cons_zero, List.set_cons_succ]
                    refine wpAny_takeL (i := 3) (v := ?_) rfl (by kernel_rfl) (by kernel_rfl) (by kernel_rfl) (fun _ _ _ h => h) (Or.inl ⟨by rfl, ?_⟩) ?_
                    rotate_left
                    · intro w
                      go_simp
                      try with_reducible rfl
                    simp only [Act.put, List.setIfInBounds_toArray, List.set_cons_zero, List.set_cons_succ]
                    refine wpAny_takeL (i := 4) (v := ?_) rfl (by kernel_rfl) (by kernel_rfl) (by kernel_rfl) (fun _ _ _ h => h) (Or.inl ⟨by rfl, ?_⟩) ?_
                    rotate_left
                    · intro w
                      go_simp
                      try with_reducible rfl
                    simp only [Act.put, List.setIfInBounds_toArray, List.set_cons_zero, List.set_cons_succ]
                    refine wpAny_growL 7 [1, 5, 6] [_, _, _] (fun i => if i = 1 then Wd.is (.slice p n c) else if i = 5 then Wd.is (.int .i64 x.2) else Wd.one (.int .i64 x.2) 1 1) (by kernel_rfl) (by kernel_rfl) rfl ⟨?o1, ?o2, ?o3, trivial⟩ ?_
                    case o1 =>
                      intro f w' hw hV K hK
                      have hc1 : w'.cell? ⟨w5.heap.size, 1, none⟩ = some (.slice p n c) := (hr7.below hw hr7.lt).cell 1
                      simp only [putO, Act.put, List.setIfInBounds_toArray, List.set_cons_zero, List.set_cons_succ]
                      go_simp
                      exact hK _ _ (Below.refl _ _) rfl
                    case o2 =>
                      intro f w' hw hV K hK
                      have hc1 := (hw.cell (p := au.add j) (block_lt_of_cell hcx7)).trans hcx7
                      simp only [putO, Act.put, List.setIfInBounds_toArray, List.set_cons_zero, List.set_cons_succ]
                      go_simp
                      exact hK _ _ (Below.refl _ _) rfl
                    case o3 =>
                      intro f w' hw hV K hK
                      have d5 : f 5 = .int .i64 x.2 := hV 5 (by kernel_rfl)
                      simp only [putO, Act.put, List.setIfInBounds_toArray, List.set_cons_zero, List.set_cons_succ, d5]
                      go_simp
                      exact hK _ _ ((Below.refl _ _).alloc (Nat.le_refl _) _) ⟨_, rfl, (Row.new _ _ _).cell 0⟩
                    intro f w8 hw hV
                    have d1 : f 1 = .slice p n c := hV 1 (by simp)
                    have d5 : f 5 = .int .i64 x.2 := hV 5 (by simp)
                    have d6' : (Wd.one (.int .i64 x.2) 1 1).1 w8 (f 6) := hV 6 (by simp)
                    obtain ⟨b6, d6, hc6⟩ := d6'
                    simp only [putO, Act.put, List.setIfInBounds_toArray, List.set_cons_zero, List.set_cons_succ, d1, d5, d6]
                    simp only [List.drop_succ_cons, List.drop_zero]
                    have hb8 := hb7.trans (hw.mono hs7)
                    have ho8 := owns_below ho7 hw (Nat.le_refl _)
                    have hr8 := hr7.below hw hr7.lt
                    have hs8 := hb8.size
                    clear hV hw d1 d5 d6 ho7 hr7 hcx7 hb7
                    refine wpList_append_keep rfl (.tmp 89) (.tmp 94) 38 rfl w6.heap.size 3 i0 (.int .i64 0) 1 8 Tryz.underlying38 hi0 hz0 hz1 hz2 rfl (by decide) (.slice p n c) _ _ rfl ho8 ⟨b6, 0, none⟩ 1 1 [.int .i64 x.2] rfl rfl ?c1 ?c2 ?c3 ?c4 ?c5 ?_
                    case c1 =>
                      intro r u hr
                      cases r with
                      | zero => obtain rfl : Value.int .i64 x.2 = u := by simpa using hr
                                exact hc6
                      | succ r => simp at hr
                    case c2 => intro u hu; simp at hu; subst hu; rfl
                    case c3 => unfold maxLen; omega
                    case c4 => omega
                    case c5 => omega
                    intro v' w9 h2 h3
                    have hadd := tryI_add (x := x) (pre := (rnd L S q).take j) (w2 := w9) (v' := v') (by omega) hg6 hr ho hb8 HM.out h2 h3
                    have hr9 : Row w9 w5.heap.size 40 #[.int .i64 q, .slice p n c] := by
                      rcases h3 with ⟨_, h⟩ | ⟨_, h⟩
                      · refine row_grown hr8 h fun e => ?_
                        have := (ho.lt _ e).1
                        omega
                      · exact row_grown hr8 h (by simp)
                    obtain ⟨p', n', c', rfl⟩ : ∃ p' n' c', v' = .slice p' n' c' := by
                      rcases h2.2 with ⟨h0, _⟩ | ⟨g, cap, cur, h0, _⟩
                      · exact ⟨_, _, _, h0⟩
                      · exact ⟨_, _, _, h0⟩
                    have hput := setCell_put hr9 1 (.slice p' n' c')
                    simp only [List.setIfInBounds_toArray, List.set_cons_succ, List.set_cons_zero] at hput
                    rw [← hput] at hadd
                    have HADD := Lib.hid hadd.2.2
                    clear h2 h3 hadd hr8 ho8 hr ho hput hc6 hb8
                    have c6 := hr9.cell 1
                    have f6 := hr9.frozen 1
                    change w9.cell? ⟨w5.heap.size, 1, none⟩ = some (.slice p n c) at c6
                    go_wp2_with fail
                    go_roundw
                    case rel => exact ⟨j + 1, by omega, by go_num, by rw [HTK.out]; exact HADD.out⟩
                    case measure => simp [intOf]; omega
                · obtain rfl : j = S := by omega
                  rw [List.take_of_length_le (by rw [rnd_len]; omega)] at hT6
                  obtain ⟨hg6, p, n, c, hr, ho⟩ := hT6
                  have hln : T.length ≤ 255 := by
                    have h1 := congrArg List.length HK.out
                    rw [List.length_map] at h1
                    have h2 := planK_len L j good bad q
                    omega
                  have hTW := (owns_below HTT.out.1 hbW (Nat.le_refl _)).alloc (.cells #[.int .i64 q, .slice p n c] 40)
                  have hgs := hg6.size
                  have hszb := hb.size
                  have hrw := hr
                  go_wp2_with (first
                    | (refine wpList_load_row rfl 40 (.tmp 14) rfl w5.heap.size rfl 40 #[.int .i64 q, .slice p n c] (0, 0) _ hrw Tryz.underlying40 rfl try_size ?_)
                    | (at_builtin; refine wpList_append_own _ rfl (.tmp 97) (.tmp 99) 30 rfl w4.heap.size 40 i1 (.agg #[.int .i64 0, .slice none 0 0]) 2 32 Tryz.underlying30 hi1 hy0 hy1 hy2 rfl (by decide) _ T.length _ rfl hTW ⟨wr.heap.size, 0, none⟩ 1 1 [.int .i64 q, .slice p n c] rfl rfl ?e1 ?e2 ?e3 ?e4 ?e5 ?_))
                  case e2 => first | exact ⟨rfl, rfl⟩ | (intro u hu; simp at hu; rcases hu with rfl | rfl <;> rfl)
                  case e3 => unfold maxLen; omega
                  case e4 => omega
                  case e5 => have := hbW.size; first | omega | (simp; omega)
                  intro v5 w9 hown5 hgrow5 _
                  have hb9 : Below w4.heap.size w4 w9 := ((hb.trans (hbW.mono hb.size)).alloc (by have := hbW.size; omega) _).grown hgrow5 (by have := hbW.size; simp; omega) (fun r e => (HTT.out.1.lt r e).1)
                  have hOT : OwnT w9 w4.heap.size T := HTT.out.2.map fun _ _ _ h => owns_other ((owns_below h hbW (Nat.le_refl _)).alloc _) hTW (by decide) hgrow5
                  have hx9 : w9.ownsRow w6.heap.size 3 1 (.slice p n c) (selS bad (q : Int) ((rnd L j q).map (·.2))).length (ints (selS bad (q : Int) ((rnd L j q).map (·.2)))) := owns_other (ho.alloc _) hTW (by decide) hgrow5
                  have hT9 : Tries w9 w4.heap.size v5 (T ++ [(((q : Int), Value.slice p n c, selS bad (q : Int) ((rnd L j q).map (·.2))) : Tr)]) :=
                    ⟨by rw [flatT_snoc, List.length_append]; exact hown5, hOT.snoc (fun y hy b hb' => by have := HTT.out.2.lt y hy b hb'; omega) hx9 (by omega)⟩
                  have hK9 : (T ++ [(((q : Int), Value.slice p n c, selS bad (q : Int) ((rnd L j q).map (·.2))) : Tr)]).map keyT = planK L j good bad (q + 1) := by
                    rw [List.map_append, HK.out, planK_lacks HH.out]
                    rfl
                  have H9 := Lib.hid hT9
                  have HK9 := Lib.hid hK9
                  clear hT9 hK9 hown5 hgrow5 hOT hx9 hTW hr hrw ho hg6
                  go_wp2_with fail
                  go_roundw
                  case rel => exact ⟨q + 1, _, by omega, by go_num, H9.out, HK9, hb9⟩
                  case measure => simp [intOf]; omega
          · obtain rfl : q = N := by omega
            go_wp2_with fail
            exact bodyPost_ret (results_tmp2 (t := 8) (u := 9) rfl _ _ _) rfl ⟨_, T, by rw [HP2.out]; rfl, HTT.out.mono hB4.size, by rw [HP2.out]; exact HK.out, hBr⟩
  · have hp := planOut_2 (L := L) (s := s) (good := good) (bad := bad) HOK.out fun h => hs ⟨h.1, h.2.1⟩
    have HP := Lib.hid hp
    clear hp
    have hs' : s < 0 ∨ (0 ≤ s ∧ 32 < s) := by omega
    clear hs
    rcases hs' with h | ⟨h0, h⟩
    all_goals
      go_wp2_with fail
      exact bodyPost_ret (results_tmp2 (t := 8) (u := 9) rfl _ _ _) rfl (FIN2.out HP.out _ hB2)
end Go.Proofs.YtfahbdakhbpfcaaGreat
