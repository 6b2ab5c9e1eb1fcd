/-
  Write: WALK: sha.Hash.Write of bytes into a hash that has taken none; conditions: at most 2^47 bytes, elsewhere than the hash.
-/
import Derived.Test.YtfahbdakhbpfcaaGreatM8
import Derived.Test.YtfahbdakhbpfcaaGreatM9
import Derived.Laws.Cover3
namespace Go.Proofs.YtfahbdakhbpfcaaGreat
open Go.RowKit

theorem Has.setCell_other {w : World} {v : Value} {xs : List Value} (h : Has w v xs) (a : Addr) (u : Value) (hne : ∀ k, v.ownBlock = some k → k ≠ a.block) : Has (w.setCell a u) v xs := by
  rcases h with h | ⟨p, c, rfl, hc, h⟩
  · exact .inl h
  · refine .inr ⟨p, c, rfl, hc, fun j y hy => ?_⟩
    have e : (p.add j).block = p.block := by unfold Addr.add; split <;> rfl
    rw [World.cell?_setCell_other _ _ _ _ (by intro e'; exact hne _ rfl (by rw [e', e]))]
    exact h j y hy
theorem Has.setCell_of {w : World} {v : Value} {x : List UInt8} (h : Has w v (x.map Sha.bv)) {b : Nat} {s : Sha.St} (hr : Row w b 141 (hCells s (.slice none 0 0) 0)) (u : Value) : Has (w.setCell ⟨b, 10, none⟩ u) v (x.map Sha.bv) := by
  rcases h with h | ⟨p, c, rfl, hc, h⟩
  · exact .inl h
  · refine .inr ⟨p, c, rfl, hc, fun j y hy => ?_⟩
    by_cases e : (⟨b, 10, none⟩ : Addr) = p.add j
    · exfalso
      have h1 := h j y hy
      rw [← e, hr.cell 10] at h1
      obtain ⟨i, hi, rfl⟩ : ∃ i : UInt8, i ∈ x ∧ Sha.bv i = y := by simpa using List.mem_of_getElem? hy
      simp [hCells, Sha.bv] at h1
    · rw [World.cell?_setCell_other _ _ _ _ e]
      exact h j y hy
theorem wordsT_size : (Tryz.prog.info? 139).map (·.size) = some 8 := by kernel_rfl
theorem words_info (m : Sha.St) : (Tryz.prog.info? 139).map (·.size) = some m.cells.size := wordsT_size

theorem hash_store {w : World} {b : Nat} {s : Sha.St} (m : Sha.St) {r : Value} {n : Int} (hr : Row w b 141 (hCells s r n)) : Row (w.setCells b 1 m.cells.toList) b 141 (hCells m r n) := by
  have h := (((((((hr.store 1 (Sha.uv m.a)).store 2 (Sha.uv m.b)).store 3 (Sha.uv m.c)).store 4 (Sha.uv m.d)).store 5 (Sha.uv m.e)).store 6 (Sha.uv m.f)).store 7 (Sha.uv m.g)).store 8 (Sha.uv m.h)
  simpa [hCells, World.setCells, Sha.St.cells] using h
theorem hash_below {w w' : World} {b : Nat} (m : Sha.St) (hb : Below b w w') : Below b w (w'.setCells b 1 m.cells.toList) := by
  have h := (((((((hb.setCell (p := ⟨b, 1, none⟩) (Nat.le_refl _) (Sha.uv m.a)).setCell (p := ⟨b, 2, none⟩) (Nat.le_refl _) (Sha.uv m.b)).setCell (p := ⟨b, 3, none⟩) (Nat.le_refl _) (Sha.uv m.c)).setCell (p := ⟨b, 4, none⟩) (Nat.le_refl _) (Sha.uv m.d)).setCell (p := ⟨b, 5, none⟩) (Nat.le_refl _) (Sha.uv m.e)).setCell (p := ⟨b, 6, none⟩) (Nat.le_refl _) (Sha.uv m.f)).setCell (p := ⟨b, 7, none⟩) (Nat.le_refl _) (Sha.uv m.g)).setCell (p := ⟨b, 8, none⟩) (Nat.le_refl _) (Sha.uv m.h)
  simpa [World.setCells, Sha.St.cells] using h

set_option maxRecDepth 100000 in
set_option maxHeartbeats 4000000 in
theorem write_big (b g o n c : Nat) (x : List UInt8) (w : World) (hr : Row w b 141 (hCells Sha.init (.slice none 0 0) 0)) (hn : x.length = n) (hnc : n ≤ c) (hx : ∀ (j : Nat) u, (x.map Sha.bv)[j]? = some u → w.cell? ⟨g, o + j, none⟩ = some u) (hab : g < b) (hm : n ≤ 140737488355328) :
    Calls Tryz.prog 73 #[.pointer (some ⟨b, 0, none⟩), .slice (some ⟨g, o, none⟩) n c] w fun e w' =>
      e = .returned (.int .i64 0) ∧ ∃ r, Row w' b 141 (hCells (Sha.absorb Sha.init x) r n) ∧ Has w' r ((Sha.left x).map Sha.bv) ∧ Below b w w' := by
  have c0 : w.cell? ⟨b, 0, none⟩ = some (.bool true) := hr.cell 0
  have c9 : w.cell? ⟨b, 9, none⟩ = some (.slice none 0 0) := hr.cell 9
  have c10 : w.cell? ⟨b, 10, none⟩ = some (.int .i64 0) := hr.cell 10
  have f10 := hr.frozen 10
  have hn63 : (n : Int) < 9223372036854775808 := by omega
  have HX := Lib.hid hx
  have HN := Lib.hid hn
  clear hx hn
  go_enter Tryz.func73, Tryz.ntmps73
  go_wp2_with fail
  refine (ok_at b w c0).mono ?_
  rintro e w1 ⟨rfl, rfl⟩
  go_wp2_with fail
  have r1 : Row (w.setCell ⟨b, 10, none⟩ (.int .i64 n)) b 141 (hCells Sha.init (.slice none 0 0) n) := hr.store 10 (.int .i64 n)
  have hb1 := (Below.refl b w).setCell (p := ⟨b, 10, none⟩) (Nat.le_refl _) (.int .i64 n)
  generalize w.setCell _ _ = W1 at *
  clear c0 c9 c10 f10 hr hn63
  go_loopw [1] (fun v wr => ∃ (k : Nat) (s : Sha.St) (q : Addr), 64 * k ≤ n ∧ v = .slice (some q) (n - 64 * k) (c - 64 * k) ∧ (64 * k < c → q = ⟨g, o + 64 * k, none⟩) ∧ Row wr b 141 (hCells s (.slice none 0 0) n) ∧ Sha.absorb s (x.drop (64 * k)) = Sha.absorb Sha.init x ∧ Below b w wr) (fun v _ => (match v with | .slice _ m _ => m | _ => 0))
  case atStart => exact ⟨0, Sha.init, _, Nat.zero_le _, rfl, fun _ => rfl, r1, by simp, hb1⟩
  case round =>
    clear r1 hb1
    obtain ⟨k, s, q, hk, rfl, hq, hr, habs, hb⟩ := hrel
    have HA := Lib.hid habs
    have HQ := Lib.hid hq
    clear habs hq
    by_cases hge : 64 ≤ n - 64 * k
    · obtain rfl : q = ⟨g, o + 64 * k, none⟩ := HQ.out (by omega)
      have hd : decide ((64 : Int) ≤ ((n - 64 * k : Nat) : Int)) = true := decide_eq_true (by omega)
      have hi64 : (64 : Int) ≤ ((n - 64 * k : Nat) : Int) := by omega
      have c1 : wr.cell? ⟨b, 1, none⟩ = some (Sha.uv s.a) := hr.cell 1
      have hat : ∀ w, (Instr.arrayAt 130 (.slice (some ⟨g, o + 64 * k, none⟩) (n - 64 * k) (c - 64 * k))).run Tryz.prog w = .ok (.pointer (some ⟨g, o + 64 * k, none⟩)) w := fun w => run_arrayAt w 130 _ 64 _ _ _ Tryz.underlying130 hge
      go_wp2_with fail
      refine wp_region_any (by kernel_rfl) ?_
      change wpAny _ _ _ _ _ _ _ wr.drew
      refine wpAny_takeL (i := 0) (v := ?_) rfl (by kernel_rfl) (by kernel_rfl) (by kernel_rfl) (fun _ _ _ h => h) (Or.inl ⟨by rfl, ?_⟩) ?_
      rotate_left
      · intro w
        go_simp
        try with_reducible rfl
      simp only [Act.put, List.setIfInBounds_toArray, List.set_cons_zero, List.set_cons_succ]
      refine wpAny_takeL (i := 1) (v := ?_) rfl (by kernel_rfl) (by kernel_rfl) (by kernel_rfl) (fun _ _ _ h => h) (Or.inl ⟨by rfl, ?_⟩) ?_
      rotate_left
      · intro w
        go_simp
        try with_reducible rfl
      simp only [Act.put, List.setIfInBounds_toArray, List.set_cons_zero, List.set_cons_succ]
      refine wpAny_takeL (i := 2) (v := ?_) rfl (by kernel_rfl) (by kernel_rfl) (by kernel_rfl) (fun _ _ _ h => h) (Or.inl ⟨by rfl, ?_⟩) ?_
      rotate_left
      · intro w
        go_simp
        try with_reducible rfl
      simp only [Act.put, List.setIfInBounds_toArray, List.set_cons_zero, List.set_cons_succ]
      refine wpAny_takeL (i := 3) (v := ?_) rfl (by kernel_rfl) (by kernel_rfl) (by kernel_rfl) (fun _ _ _ h => h) (Or.inl ⟨by rfl, ?_⟩) ?_
      rotate_left
      · intro w
        go_simp
        try with_reducible rfl
      simp only [Act.put, List.setIfInBounds_toArray, List.set_cons_zero, List.set_cons_succ]
      refine wpAny_takeL (i := 5) (v := ?_) rfl (by kernel_rfl) (by kernel_rfl) (by kernel_rfl) (fun _ _ _ h => h) (Or.inl ⟨by rfl, ?_⟩) ?_
      rotate_left
      · intro w
        go_simp
        try with_reducible rfl
      simp only [Act.put, List.setIfInBounds_toArray, List.set_cons_zero, List.set_cons_succ]
      refine wpAny_takeL (i := 6) (v := ?_) rfl (by kernel_rfl) (by kernel_rfl) (by kernel_rfl) (fun _ _ _ h => h) (Or.inl ⟨by rfl, ?_⟩) ?_
      rotate_left
      · intro w
        go_simp
        try with_reducible rfl
      simp only [Act.put, List.setIfInBounds_toArray, List.set_cons_zero, List.set_cons_succ]
      have hl64 : ((x.drop (64 * k)).take 64).length = 64 := by
        have := HN.out
        simp
        omega
      have hld1 : (Tryz.prog.info? 139).map (·.size) = some (#[Sha.uv s.a, Sha.uv s.b, Sha.uv s.c, Sha.uv s.d, Sha.uv s.e, Sha.uv s.f, Sha.uv s.g, Sha.uv s.h] : Array Value).size := wordsT_size
      refine wpAny_twoL (i := 4) (j := 7) (vi := .agg #[Sha.uv s.a, Sha.uv s.b, Sha.uv s.c, Sha.uv s.d, Sha.uv s.e, Sha.uv s.f, Sha.uv s.g, Sha.uv s.h]) (vj := .agg (blk ((x.drop (64 * k)).take 64))) rfl rfl (by kernel_rfl) (by kernel_rfl) (by kernel_rfl) (by decide) (by kernel_rfl) (by kernel_rfl)
        (yieldsAt_load rfl 139 _ rfl ⟨b, 1, none⟩ rfl _ _ ?l1 Tryz.underlying139 rfl hld1)
        (yieldsAt_load rfl 130 _ rfl ⟨g, o + 64 * k, none⟩ rfl _ _ ?l2 Tryz.underlying130 rfl ?l3) ?_
      case l1 =>
        intro j v hv
        have hj : j < 8 := by
          have := (List.getElem?_eq_some_iff.1 hv).1
          simpa using this
        rw [Addr.add_mid]
        have hc := hr.cell (1 + j)
        refine (World.cell?_drew wr _).trans (hc.trans ?_)
        rw [← hv]
        rcases (by omega : j = 0 ∨ j = 1 ∨ j = 2 ∨ j = 3 ∨ j = 4 ∨ j = 5 ∨ j = 6 ∨ j = 7) with rfl | rfl | rfl | rfl | rfl | rfl | rfl | rfl <;> rfl
      case l2 =>
        intro j v hv
        rw [Addr.add_mid]
        have hj : j < 64 := by
          have := (List.getElem?_eq_some_iff.1 hv).1
          simp [blk] at this
          omega
        have hxc := HX.out (64 * k + j) v (by
          rw [← hv]
          simp [blk, hj])
        rw [← Nat.add_assoc] at hxc
        exact (World.cell?_drew wr _).trans ((hb.cell (p := ⟨g, o + 64 * k + j, none⟩) hab).trans hxc)
      case l3 => exact blk_info _ hl64
      refine wpAny_of_idxL [8, 9, 10, 11] [_, _, _, _] _ _ rfl rfl (by kernel_rfl) ?_
      go_wp2_with fail
      refine (mix_at s ((x.drop (64 * k)).take 64) hl64 _).mono ?_
      generalize hm' : Sha.mix s ((x.drop (64 * k)).take 64) = m
      have HM := Lib.hid hm'
      clear hm' hat hl64 hld1
      rintro e w3 ⟨rfl, hb3⟩
      have hb3 : Below wr.heap.size wr.drew w3 := hb3
      dsimp only
      iterate 7 go_step
      have r3 := hr.drew.below hb3 hr.lt
      refine wpList_store_mid rfl 139 (.tmp 86) (.tmp 84) rfl b 1 m.cells (by rfl) (by rfl) ?s1 (words_info m) ?s2 ?_
      case s1 =>
        intro j hj
        have hj8 : j < 8 := hj
        refine ⟨?_, r3.frozen _⟩
        rw [r3.cell]
        rcases (by omega : j = 0 ∨ j = 1 ∨ j = 2 ∨ j = 3 ∨ j = 4 ∨ j = 5 ∨ j = 6 ∨ j = 7) with rfl | rfl | rfl | rfl | rfl | rfl | rfl | rfl <;> rfl
      case s2 => exact cells_one m
      have r4 := hash_store m r3
      have b4 := hash_below m (hb.drew.trans (hb3.mono (Nat.le_of_lt hr.lt)))
      generalize w3.setCells b 1 m.cells.toList = w4 at *
      clear r3 hb3 hr hb c1
      have ta : Sha.absorb m (x.drop (64 * (k + 1))) = Sha.absorb Sha.init x := by
        have e64 : 64 * (k + 1) = 64 * k + 64 := by omega
        rw [e64, ← HA.out, Sha.absorb_ge s (x.drop (64 * k)) (by have := HN.out; simp; omega), List.drop_drop, HM.out]
      have TA := Lib.hid ta
      clear ta
      by_cases hcap : c - 64 * k = 64
      · have hcap' : ((c - 64 * k : Nat) : Int) = 64 := by omega
        go_wp2_with fail
        refine ⟨⟨k + 1, m, ⟨g, o + 64 * k, none⟩, by omega, ?_, fun h => absurd h (by omega), r4, TA.out, b4⟩, ?_⟩
        · rw [show n - 64 * (k + 1) = n - 64 * k - 64 by omega, show c - 64 * (k + 1) = 0 by omega]
        · show n - 64 * k - 64 < n - 64 * k
          omega
      · have hcap' : ¬ ((c - 64 * k : Nat) : Int) = 64 := by omega
        go_wp2_with fail
        refine ⟨⟨k + 1, m, ⟨g, o + 64 * k + 64, none⟩, by omega, ?_, fun _ => by rw [show o + 64 * (k + 1) = o + 64 * k + 64 by omega], r4, TA.out, b4⟩, ?_⟩
        · rw [show n - 64 * (k + 1) = n - 64 * k - 64 by omega, show c - 64 * (k + 1) = c - 64 * k - 64 by omega]
        · show n - 64 * k - 64 < n - 64 * k
          omega
    · have hd : decide ((64 : Int) ≤ ((n - 64 * k : Nat) : Int)) = false := decide_eq_false (by omega)
      have c9 : wr.cell? ⟨b, 9, none⟩ = some (.slice none 0 0) := hr.cell 9
      have f9 := hr.frozen 9
      have hkn : k = n / 64 := by omega
      have hlen : (Sha.left x).length = n - 64 * k := by
        have := HN.out
        unfold Sha.left
        rw [List.length_drop]
        omega
      have hleft : Sha.left x = x.drop (64 * k) := by
        unfold Sha.left
        rw [HN.out, hkn]
      have hhas : Has wr (.slice (some q) (n - 64 * k) (c - 64 * k)) ((Sha.left x).map Sha.bv) := by
        refine .inr ⟨q, c - 64 * k, by simp [hlen], by simp [hlen]; omega, fun j u hu => ?_⟩
        have hj : j < n - 64 * k := by
          have := (List.getElem?_eq_some_iff.1 hu).1
          simpa [hlen] using this
        obtain rfl : q = ⟨g, o + 64 * k, none⟩ := HQ.out (by omega)
        rw [Addr.add_mid, Nat.add_assoc]
        refine (hb.cell (p := ⟨g, o + (64 * k + j), none⟩) hab).trans (HX.out _ _ ?_)
        rw [← hu, hleft]
        simp
      have hs : s = Sha.absorb Sha.init x := by
        rw [← HA.out, Sha.absorb_lt]
        rw [← hleft, hlen]
        omega
      obtain ⟨i0, hi, hz0, hz1, hz2⟩ := info_parts info_u8
      have HL := Lib.hid hlen
      have HS := Lib.hid hs
      have hn64 : n - 64 * k < 64 := by omega
      clear hleft hlen hs hkn
      generalize hLL : Sha.left x = L at *
      have HLL := Lib.hid hLL.symm
      clear hLL
      go_wp2_with (at_builtin; refine wpList_append_has rfl (.tmp 93) (.tmp 94) 70 rfl wr.heap.size 5 i0 (.int .u8 0) 1 Tryz.underlying70 hi hz0 hz1 hz2 rfl _ 0 [] rfl (World.ownsRow_nil _ _ _ _) _ (L.map Sha.bv) rfl ?h1 ?h2 ?h3 ?h4 ?h5 ?_)
      case h1 => exact hhas
      case h2 => exact one_bytes _
      case h3 => have := HL.out; simp only [List.length_map]; unfold maxLen; omega
      case h4 => have := HL.out; simp only [List.length_map]; omega
      case h5 => exact Nat.le_refl _
      intro v1 w1 hown1 hgrow1
      have hb1 : Below wr.heap.size wr w1 := (Below.refl _ _).grown hgrow1 (Nat.le_refl _) (fun k hk => by simp [Value.ownBlock] at hk)
      have hhas1 : Has w1 v1 (L.map Sha.bv) := Has.of_owns (by simpa using hown1)
      have hr1 := hr.below hb1 hr.lt
      have f9' := hr1.frozen 9
      have c9' : w1.cell? ⟨b, 9, none⟩ = some (.slice none 0 0) := hr1.cell 9
      obtain ⟨a1, n1, c1, rfl⟩ : ∃ a n c, v1 = .slice a n c := by
        rcases hhas1 with ⟨rfl, _⟩ | ⟨a, c, rfl, _, _⟩
        · exact ⟨_, _, _, rfl⟩
        · exact ⟨_, _, _, rfl⟩
      have hne : ∀ k, (Value.slice a1 n1 c1).ownBlock = some k → k ≠ b := fun k hk => by
        have := (hown1.lt k hk).1
        have := hr.lt
        omega
      have HH := Lib.hid (Has.setCell_other hhas1 ⟨b, 9, none⟩ (.slice a1 n1 c1) hne)
      have rr := hr1.store 9 (.slice a1 n1 c1)
      rw [HS.out] at rr
      have RR := Lib.hid rr
      clear rr
      have BB := Lib.hid ((hb.trans (hb1.mono (Nat.le_of_lt hr.lt))).setCell (p := ⟨b, 9, none⟩) (Nat.le_refl _) (.slice a1 n1 c1))
      clear hown1 hgrow1 hhas1 hhas hne
      go_wp2_with fail
      go_ret
      exact ⟨rfl, _, RR.out, by rw [HLL.out.symm]; exact HH.out, BB.out⟩

set_option maxRecDepth 100000 in
set_option maxHeartbeats 4000000 in
theorem write_small (b : Nat) (p : Option Addr) (n c : Nat) (x : List UInt8) (w : World) (hr : Row w b 141 (hCells Sha.init (.slice none 0 0) 0)) (hx : Has w (.slice p n c) (x.map Sha.bv)) (hm : n < 64) :
    Calls Tryz.prog 73 #[.pointer (some ⟨b, 0, none⟩), .slice p n c] w fun e w' =>
      e = .returned (.int .i64 0) ∧ ∃ r, Row w' b 141 (hCells Sha.init r n) ∧ Has w' r (x.map Sha.bv) ∧ Below b w w' := by
  have c0 : w.cell? ⟨b, 0, none⟩ = some (.bool true) := hr.cell 0
  have c9 : w.cell? ⟨b, 9, none⟩ = some (.slice none 0 0) := hr.cell 9
  have c10 : w.cell? ⟨b, 10, none⟩ = some (.int .i64 0) := hr.cell 10
  have f10 := hr.frozen 10
  have hl : n = x.length := by
    rcases hx with ⟨h, h0⟩ | ⟨a, c', h, _, _⟩
    · simp only [Value.slice.injEq] at h
      have : x = [] := by simpa using h0
      simp [this, h.2.1]
    · simp only [Value.slice.injEq] at h
      simpa using h.2.1
  have HN := Lib.hid hl
  have HX := Lib.hid hx
  clear hx hl
  go_enter Tryz.func73, Tryz.ntmps73
  go_wp2_with fail
  refine (ok_at b w c0).mono ?_
  rintro e w1 ⟨rfl, rfl⟩
  go_wp2_with fail
  have r1 : Row (w.setCell ⟨b, 10, none⟩ (.int .i64 n)) b 141 (hCells Sha.init (.slice none 0 0) n) := hr.store 10 (.int .i64 n)
  have hb1 := (Below.refl b w).setCell (p := ⟨b, 10, none⟩) (Nat.le_refl _) (.int .i64 n)
  have HX1 := Lib.hid (HX.out.setCell_of hr (.int .i64 n))
  generalize w.setCell _ _ = W1 at *
  clear c0 c9 c10 f10 HX
  have c9 : W1.cell? ⟨b, 9, none⟩ = some (.slice none 0 0) := r1.cell 9
  have hd : ¬ (64 : Int) ≤ (n : Int) := by omega
  have hd' : decide ((64 : Int) ≤ (n : Int)) = false := decide_eq_false hd
  refine wp_loop_rounds 1 ?_
  rw [rounds_succ]
  obtain ⟨i0, hi, hz0, hz1, hz2⟩ := info_parts info_u8
  generalize hX : x.map Sha.bv = X at *
  have h1X : ∀ u ∈ X, u.oneCell' = true := hX ▸ one_bytes x
  have hXl : X.length = x.length := by rw [← hX]; simp
  have HXL := Lib.hid hXl
  have HXX := Lib.hid hX
  have H1X := Lib.hid h1X
  clear hX hXl h1X
  go_wp2_with (at_builtin; refine wpList_append_has rfl (.tmp 93) (.tmp 94) 70 rfl W1.heap.size 5 i0 (.int .u8 0) 1 Tryz.underlying70 hi hz0 hz1 hz2 rfl _ 0 [] rfl (World.ownsRow_nil _ _ _ _) _ X rfl ?h1 ?h2 ?h3 ?h4 ?h5 ?_)
  case h1 => exact HX1.out
  case h2 => exact H1X.out
  case h3 => have := HN.out; have := HXL.out; unfold maxLen; omega
  case h4 => have := HN.out; have := HXL.out; omega
  intro v1 w1 hown1 hgrow1
  have hbb1 : Below W1.heap.size W1 w1 := (Below.refl _ _).grown hgrow1 (Nat.le_refl _) (fun k hk => by simp [Value.ownBlock] at hk)
  have hhas1 : Has w1 v1 X := Has.of_owns (by simpa using hown1)
  have hr1 := r1.below hbb1 r1.lt
  have f9' := hr1.frozen 9
  have c9' : w1.cell? ⟨b, 9, none⟩ = some (.slice none 0 0) := hr1.cell 9
  obtain ⟨a1, n1, c1, rfl⟩ : ∃ a n c, v1 = .slice a n c := by
    rcases hhas1 with ⟨rfl, _⟩ | ⟨a, c, rfl, _, _⟩
    · exact ⟨_, _, _, rfl⟩
    · exact ⟨_, _, _, rfl⟩
  have hne : ∀ k, (Value.slice a1 n1 c1).ownBlock = some k → k ≠ b := fun k hk => by
    have := (hown1.lt k hk).1
    have := r1.lt
    omega
  have HH := Lib.hid (Has.setCell_other hhas1 ⟨b, 9, none⟩ (.slice a1 n1 c1) hne)
  have RR := Lib.hid (hr1.store 9 (.slice a1 n1 c1))
  have BB := Lib.hid ((hb1.trans (hbb1.mono (Nat.le_of_lt r1.lt))).setCell (p := ⟨b, 9, none⟩) (Nat.le_refl _) (.slice a1 n1 c1))
  clear hown1 hgrow1 hhas1 hne
  go_wp2_with fail
  go_ret
  exact ⟨rfl, _, RR.out, by rw [HXX.out]; exact HH.out, BB.out⟩

theorem spot_none {w : World} {a : Addr} {v : Value} (h : w.cell? a = some v) : a.spot = none := by
  cases hs : a.spot with
  | none => rfl
  | some s =>
    unfold World.cell? at h
    cases hb : w.heap[a.block]? with
    | none => simp [hb] at h
    | some o => cases o <;> simp [hb, hs] at h

theorem write_at (b : Nat) (p : Option Addr) (n c : Nat) (x : List UInt8) (w : World) (hr : Row w b 141 (hCells Sha.init (.slice none 0 0) 0)) (hx : Has w (.slice p n c) (x.map Sha.bv)) (hlt : ∀ a, p = some a → 0 < n → a.block < b) (hm : n ≤ 140737488355328) :
    Calls Tryz.prog 73 #[.pointer (some ⟨b, 0, none⟩), .slice p n c] w fun e w' =>
      e = .returned (.int .i64 0) ∧ ∃ r, Row w' b 141 (hCells (Sha.absorb Sha.init x) r n) ∧ Has w' r ((Sha.left x).map Sha.bv) ∧ Below b w w' := by
  by_cases h64 : n < 64
  · have hl : x.length < 64 := by
      rcases hx with ⟨h, h0⟩ | ⟨a, c', h, _, _⟩
      · have : x = [] := by simpa using h0
        simp [this]
      · simp only [Value.slice.injEq] at h
        have := h.2.1
        simp at this
        omega
    rw [Sha.absorb_lt _ _ hl, Sha.left_lt _ hl]
    exact write_small b p n c x w hr hx h64
  · rcases hx with ⟨h, h0⟩ | ⟨a, c', h, hc, hcell⟩
    · simp only [Value.slice.injEq] at h
      omega
    · simp only [Value.slice.injEq] at h
      obtain ⟨rfl, hn, rfl⟩ := h
      have hn' : x.length = n := by simp at hn; omega
      cases x with
      | nil => simp at hn'; omega
      | cons y r =>
        have h0 := hcell 0 (Sha.bv y) rfl
        have hs : a.spot = none := by
          have e0 : a.add 0 = a := by simp [Addr.add]
          rw [e0] at h0
          exact spot_none h0
        obtain ⟨g, o, sp⟩ := a
        obtain rfl : sp = none := hs
        exact write_big b g o n c (y :: r) w hr hn' (by simp at hc; simp at hn'; omega) (fun j u hu => by have := hcell j u hu; rwa [Addr.add_mid] at this) (hlt _ rfl (by omega)) hm
end Go.Proofs.YtfahbdakhbpfcaaGreat
