/- WALK: the function that hands the pairs of two reads on, whatever their segments; conditions: each part is at most 2^47 - 4096 bytes. -/
import Derived.Test.YtafichokaofngaaGreatDoorInner
import Derived.Test.YtafichokaofngaaGreatDoorOfA
namespace Go.Proofs.YtafichokaofngaaGreatDoor
open Go.RowKit Go.Shelf
attribute [local go_sem] Oper.semAt_some stepV stepVUpon

/-- v is a slice of these lists of bytes -/
def Segs (w : World) (p : Option Addr) (n : Nat) (ls : List (List UInt8)) : Prop :=
  ls.length = n ∧ ((p = none ∧ n = 0) ∨ ∃ a P C, p = some a ∧ Parts w a P C ls)
theorem KC.parts {w w' : World} {a : Addr} {p : Nat → Option Addr} {c : Nat → Nat} {ls : List (List UInt8)} (hk : KC w.heap.size w w') (h : Parts w a p c ls) : Parts w' a p c ls :=
  ⟨fun i hi => hk.cell (block_lt_of_cell (h.cell i hi)) (h.cell i hi), fun i hi => hk.has (h.has i hi)⟩
theorem Segs.kc {w w' : World} {p : Option Addr} {n : Nat} {ls : List (List UInt8)} (h : Segs w p n ls) (hk : KC w.heap.size w w') : Segs w' p n ls :=
  ⟨h.1, h.2.imp id fun ⟨a, P, C, e, hp⟩ => ⟨a, P, C, e, hk.parts hp⟩⟩
theorem below_cell {w w' : World} {a : Addr} {v : Value} (h : Below w.drew.heap.size w.drew w') (hc : w.cell? a = some v) : w'.cell? a = some v := (h.cell (p := a) (block_lt_of_cell hc)).trans hc
def Wd.nodes (m : Nat) : Wd := ⟨fun w v => ∃ g Z, v = .slice (some ⟨g, 0, none⟩) m m ∧ Row w g 29 (blk Z) ∧ Z.length = 32 * m, fun _ _ _ h ⟨g, Z, e, r, hz⟩ => ⟨g, Z, e, r.below h r.lt, hz⟩⟩

set_option maxRecDepth 100000 in
set_option maxHeartbeats 8000000 in
theorem of1_any (l : Nat) (J Jx : Unit → World → Prop) (B0 : Nat) (hJ : AbidesFrom B0 J) (bx ba bb : Nat) (W : World) (p q : Option Addr) (n m c d : Nat) (X Y : List UInt8) (pa pb : Option Addr) (nA nB cA cB : Nat) (lsA lsB : List (List UInt8))
    (hbx : W.cell? ⟨bx, 0, none⟩ = some (.func (.yield l) #[] #[]))
    (ha0 : W.cell? ⟨ba, 0, none⟩ = some (.slice p n c)) (ha2 : W.cell? ⟨ba, 2, none⟩ = some (.slice pa nA cA)) (hx : Has W (.slice p n c) (X.map Sha.bv)) (hX : X.length ≤ 140737488351232) (sA : Segs W pa nA lsA) (lA : ∀ l ∈ lsA, l.length ≤ 140737488351232) (hnA : nA ≤ 140737488355328)
    (hb0 : W.cell? ⟨bb, 0, none⟩ = some (.slice q m d)) (hb2 : W.cell? ⟨bb, 2, none⟩ = some (.slice pb nB cB)) (hy : Has W (.slice q m d) (Y.map Sha.bv)) (hYl : Y.length ≤ 140737488351232) (sB : Segs W pb nB lsB) (lB : ∀ l ∈ lsB, l.length ≤ 140737488351232) (hnB : nB ≤ 140737488355328)
    (hY : ∀ k u v W1, KC W.heap.size W W1 → J () W1 → OkV W1 (u, v) → YieldAt Fence.wide k Tryz.prog l #[.agg #[u, v]] W1 fun e W' =>
      (e = .returned (.bool true) ∧ J () W' ∧ KC W1.heap.size W1 W') ∨ (e = .returned (.bool false) ∧ Jx () W')) (h0 : J () W) :
    Calls Tryz.prog 43 #[.func (.func 89) #[] #[.pointer (some ⟨bx, 0, none⟩)], .pointer (some ⟨ba, 0, none⟩), .pointer (some ⟨bb, 0, none⟩)] W fun e W' =>
      (∃ v, e = .returned v) ∧ ((J () W' ∧ KC W.heap.size W W') ∨ Jx () W') := by
  have HY := Lib.hid hY
  have HJ := Lib.hid hJ
  have SA := Lib.hid sA
  have SB := Lib.hid sB
  have LA := Lib.hid lA
  have LB := Lib.hid lB
  have HBX := Lib.hid hbx
  clear hY hJ sA sB lA lB hbx
  have l2 := block_lt_of_cell ha0
  have l3 := block_lt_of_cell hb0
  go_enter Tryz.func43, Tryz.ntmps43
  go_wp2_with fail
  have rA := (Row.new W 22 #[.slice p n c]).alloc (.cells #[.slice q m d] 22)
  have rB := Row.new (W.alloc (.cells #[.slice p n c] 22)) 22 #[.slice q m d]
  have hW2 : Below W.heap.size W ((W.alloc (.cells #[.slice p n c] 22)).alloc (.cells #[.slice q m d] 22)) := ((Below.refl _ W).alloc (Nat.le_refl _) _).alloc (by simp) _
  have hsz : ((W.alloc (.cells #[.slice p n c] 22)).alloc (.cells #[.slice q m d] 22)).heap.size = W.heap.size + 2 := by simp
  simp only [World.size_alloc] at rB
  generalize hgW : (W.alloc (.cells #[.slice p n c] 22)).alloc (.cells #[.slice q m d] 22) = W2 at *
  clear hgW
  have kW2 : KC W.heap.size W W2 := KC.of_below hW2
  have cA0 : W2.cell? ⟨W.heap.size, 0, none⟩ = some (.slice p n c) := rA.cell 0
  have cB0 : W2.cell? ⟨W.heap.size + 1, 0, none⟩ = some (.slice q m d) := rB.cell 0
  have hx2 : Has W2 (.slice p n c) (X.map Sha.bv) := hx.later hW2
  have hy2 : Has W2 (.slice q m d) (Y.map Sha.bv) := hy.later hW2
  refine (giver l J Jx B0 HJ.out bx W2 (kW2.cell (block_lt_of_cell HBX.out) HBX.out) (X := framed [word 8, X]) (Y := framed [word 8, Y])
    (fun W' hk => tag8_one W.heap.size 1 p n c X W' (Nat.le_refl _) hX (hk.cell (by simp; omega) cA0) (hk.has hx2))
    (fun W' hk => tag8_one (W.heap.size + 1) 1 q m d Y W' (Nat.le_refl _) hYl (hk.cell (by simp; omega) cB0) (hk.has hy2))
    (fun k u v W1 hk hj hu hv => HY.out k u v W1 (kW2.trans hk.all) hj ⟨_, _, by rw [framed2_len, wordlen8]; omega, by rw [framed2_len, wordlen8]; omega, hu, hv⟩) (abides_below HJ.out h0 hW2)).mono ?_
  rintro e w3 (⟨rfl, hj3, hk3⟩ | ⟨rfl, hx3⟩)
  · have hk : KC W.heap.size W w3 := kW2.trans hk3.all
    have ca2 := hk.cell (p := ⟨ba, 2, none⟩) l2 ha2
    have cb2 := hk.cell (p := ⟨bb, 2, none⟩) l3 hb2
    clear rA rB hx2 hy2 cA0 cB0 hx hy kW2 hW2 hsz hk3
    have HA2 := Lib.hid ha2
    have HB2 := Lib.hid hb2
    clear ha0 hb0 ha2 hb2
    go_wp2_with fail
    obtain ⟨M, hM, hMA, hMB⟩ : ∃ M : Nat, min (nA : Int) (nB : Int) = (M : Int) ∧ M ≤ nA ∧ M ≤ nB := ⟨min nA nB, by omega, by omega, by omega⟩
    rw [hM]
    clear hM
    go_loopw [21] (fun v wr => ∃ k : Nat, k ≤ M ∧ v = .int .i64 k ∧ J () wr ∧ KC W.heap.size W wr) (fun v _ => M - (intOf v).toNat)
    case atStart => exact ⟨0, Nat.zero_le _, rfl, hj3, hk⟩
    case round =>
      clear hj3 hk ca2 cb2
      obtain ⟨k, hkM, rfl, hj, hk⟩ := hrel
      have ca2 : wr.cell? ⟨ba, 2, none⟩ = some (.slice pa nA cA) := hk.cell (p := ⟨ba, 2, none⟩) l2 HA2.out
      have cb2 : wr.cell? ⟨bb, 2, none⟩ = some (.slice pb nB cB) := hk.cell (p := ⟨bb, 2, none⟩) l3 HB2.out
      by_cases hlt : k < M
      · obtain ⟨aa, PA, CA, rfl, partA⟩ : ∃ a P C, pa = some a ∧ Parts wr a P C lsA := by
          rcases (SA.out.kc hk.all).2 with ⟨_, h⟩ | ⟨a, P, C, e, h⟩
          · omega
          · exact ⟨a, P, C, e, h⟩
        obtain ⟨ab, PB, CB, rfl, partB⟩ : ∃ a P C, pb = some a ∧ Parts wr a P C lsB := by
          rcases (SB.out.kc hk.all).2 with ⟨_, h⟩ | ⟨a, P, C, e, h⟩
          · omega
          · exact ⟨a, P, C, e, h⟩
        have kA : k < lsA.length := by rw [SA.out.1]; omega
        have kB : k < lsB.length := by rw [SB.out.1]; omega
        have dA := partA.cell k kA
        have dB := partB.cell k kB
        have eA := partA.has k kA
        have eB := partB.has k kB
        have nXA : (lsA.getD k []).length ≤ 140737488351232 := by
          have h := LA.out (lsA[k]) (List.getElem_mem kA)
          simpa [List.getD, kA] using h
        have nXB : (lsB.getD k []).length ≤ 140737488351232 := by
          have h := LB.out (lsB[k]) (List.getElem_mem kB)
          simpa [List.getD, kB] using h
        generalize lsA.getD k [] = XA at *
        generalize lsB.getD k [] = XB at *
        have kA' : (k : Int) < (nA : Int) := by omega
        have kB' : (k : Int) < (nB : Int) := by omega
        have HEA := Lib.hid eA
        have HEB := Lib.hid eB
        clear partA partB kA kB eA eB
        go_wp2_with fail
        refine wp_region_any (by kernel_rfl) ?_
        change wpAny _ _ _ _ _ _ _ wr.drew
        refine wpAny_takeL (i := 0) (v := ?_) rfl (by kernel_rfl) (by kernel_rfl) (by kernel_rfl) (fun _ _ _ h => h) (Or.inl ⟨by rfl, ?_⟩) ?_
        rotate_left
        · intro w
          go_simp
          try with_reducible rfl
        simp only [Act.put, List.setIfInBounds_toArray, List.set_cons_zero, List.set_cons_succ]
        refine wpAny_takeL (i := 1) (v := ?_) rfl (by kernel_rfl) (by kernel_rfl) (by kernel_rfl) (fun _ _ _ h => h) (Or.inl ⟨by rfl, ?_⟩) ?_
        rotate_left
        · intro w
          go_simp
          try with_reducible rfl
        simp only [Act.put, List.setIfInBounds_toArray, List.set_cons_zero, List.set_cons_succ]
        refine wpAny_takeL (i := 3) (v := ?_) rfl (by kernel_rfl) (by kernel_rfl) (by kernel_rfl) (fun _ _ _ h => h) (Or.inl ⟨by rfl, ?_⟩) ?_
        rotate_left
        · intro w
          go_simp
          try with_reducible rfl
        simp only [Act.put, List.setIfInBounds_toArray, List.set_cons_zero, List.set_cons_succ]
        refine wpAny_takeL (i := 7) (v := ?_) rfl (by kernel_rfl) (by kernel_rfl) (by kernel_rfl) (fun _ _ _ h => h) (Or.inl ⟨by rfl, ?_⟩) ?_
        rotate_left
        · intro w
          go_simp
          try with_reducible rfl
        simp only [Act.put, List.setIfInBounds_toArray, List.set_cons_zero, List.set_cons_succ]
        refine wpAny_takeL (i := 9) (v := ?_) rfl (by kernel_rfl) (by kernel_rfl) (by kernel_rfl) (fun _ _ _ h => h) (Or.inl ⟨by rfl, ?_⟩) ?_
        rotate_left
        · intro w
          go_simp
          try with_reducible rfl
        simp only [Act.put, List.setIfInBounds_toArray, List.set_cons_zero, List.set_cons_succ]
        refine wpAny_growL 13 [2, 4, 5, 6, 8, 10, 11, 12] [_, _, _, _, _, _, _, _] (fun i => if i = 2 then Wd.is (.slice (some aa) nA cA) else if i = 4 then Wd.is (.pointer (some (aa.add k))) else if i = 5 then Wd.is (.slice (PA k) XA.length (CA k)) else if i = 6 then Wd.one (.slice (PA k) XA.length (CA k)) 1 1 else if i = 8 then Wd.is (.slice (some ab) nB cB) else if i = 10 then Wd.is (.pointer (some (ab.add k))) else if i = 11 then Wd.is (.slice (PB k) XB.length (CB k)) else Wd.one (.slice (PB k) XB.length (CB k)) 1 1)
          (by kernel_rfl) rfl rfl ⟨?o1, ?o2, ?o3, ?o4, ?o5, ?o6, ?o7, ?o8, trivial⟩ ?_
        case o1 =>
          intro f w hw hV K hK
          have hc := below_cell hw ca2
          simp only [putO, Act.put, List.setIfInBounds_toArray, List.set_cons_zero, List.set_cons_succ]
          go_simp
          exact hK _ _ (Below.refl _ _) rfl
        case o2 =>
          intro f w hw hV K hK
          have hd : f 2 = .slice (some aa) nA cA := hV 2 (by kernel_rfl)
          simp only [putO, Act.put, List.setIfInBounds_toArray, List.set_cons_zero, List.set_cons_succ, hd]
          go_simp
          exact hK _ _ (Below.refl _ _) rfl
        case o3 =>
          intro f w hw hV K hK
          have hd : f 4 = .pointer (some (aa.add k)) := hV 4 (by kernel_rfl)
          have hc := below_cell hw dA
          simp only [putO, Act.put, List.setIfInBounds_toArray, List.set_cons_zero, List.set_cons_succ, hd]
          go_simp
          exact hK _ _ (Below.refl _ _) rfl
        case o4 =>
          intro f w hw hV K hK
          have hd : f 5 = .slice (PA k) XA.length (CA k) := hV 5 (by kernel_rfl)
          simp only [putO, Act.put, List.setIfInBounds_toArray, List.set_cons_zero, List.set_cons_succ, hd]
          go_simp
          refine hK _ _ ((Below.refl _ _).alloc (Nat.le_refl _) _) ?_
          change (Wd.one _ 1 1).1 _ _
          exact ⟨_, rfl, (Row.new w 22 #[.slice (PA k) XA.length (CA k)]).cell 0⟩
        case o5 =>
          intro f w hw hV K hK
          have hc := below_cell hw cb2
          simp only [putO, Act.put, List.setIfInBounds_toArray, List.set_cons_zero, List.set_cons_succ]
          go_simp
          exact hK _ _ (Below.refl _ _) rfl
        case o6 =>
          intro f w hw hV K hK
          have hd : f 8 = .slice (some ab) nB cB := hV 8 (by kernel_rfl)
          simp only [putO, Act.put, List.setIfInBounds_toArray, List.set_cons_zero, List.set_cons_succ, hd]
          go_simp
          exact hK _ _ (Below.refl _ _) rfl
        case o7 =>
          intro f w hw hV K hK
          have hd : f 10 = .pointer (some (ab.add k)) := hV 10 (by kernel_rfl)
          have hc := below_cell hw dB
          simp only [putO, Act.put, List.setIfInBounds_toArray, List.set_cons_zero, List.set_cons_succ, hd]
          go_simp
          exact hK _ _ (Below.refl _ _) rfl
        case o8 =>
          intro f w hw hV K hK
          have hd : f 11 = .slice (PB k) XB.length (CB k) := hV 11 (by kernel_rfl)
          simp only [putO, Act.put, List.setIfInBounds_toArray, List.set_cons_zero, List.set_cons_succ, hd]
          go_simp
          refine hK _ _ ((Below.refl _ _).alloc (Nat.le_refl _) _) ?_
          change (Wd.one _ 1 1).1 _ _
          exact ⟨_, rfl, (Row.new w 22 #[.slice (PB k) XB.length (CB k)]).cell 0⟩
        intro f w2 hw hV
        obtain ⟨g1, e1, c1⟩ : (Wd.one (.slice (PA k) XA.length (CA k)) 1 1).1 w2 (f 6) := hV 6 (by simp)
        obtain ⟨g2, e2, c2⟩ : (Wd.one (.slice (PB k) XB.length (CB k)) 1 1).1 w2 (f 12) := hV 12 (by simp)
        have z1 : f 2 = .slice (some aa) nA cA := hV 2 (by simp)
        have z2 : f 4 = .pointer (some (aa.add k)) := hV 4 (by simp)
        have z3 : f 5 = .slice (PA k) XA.length (CA k) := hV 5 (by simp)
        have z4 : f 8 = .slice (some ab) nB cB := hV 8 (by simp)
        have z5 : f 10 = .pointer (some (ab.add k)) := hV 10 (by simp)
        have z6 : f 11 = .slice (PB k) XB.length (CB k) := hV 11 (by simp)
        have hw' : Below wr.heap.size wr w2 := ((Below.refl wr.heap.size wr).drew).trans hw
        have hj2 := abides_below HJ.out hj hw'
        have hk2 : KC wr.heap.size wr w2 := KC.of_below hw'
        have hkW := hk.trans hk2.all
        have lx2 := Lib.hid (hkW.cell (block_lt_of_cell HBX.out) HBX.out)
        have sA := hk2.has HEA.out
        have sB := hk2.has HEB.out
        simp only [putO, Act.put, List.setIfInBounds_toArray, List.set_cons_zero, List.set_cons_succ, e1, e2, z1, z2, z3, z4, z5, z6, List.drop_succ_cons, List.drop_zero]
        clear hV e1 e2 z1 z2 z3 z4 z5 z6 ca2 cb2 dA dB
        go_wp2_with fail
        refine (giver (t := 4) l J Jx B0 HJ.out bx w2 lx2.out (X := framed [word 4, XA]) (Y := framed [word 4, XB])
          (fun W' hk' => tag4_one g1 1 _ _ _ XA W' (Nat.le_refl _) nXA (hk'.cell (block_lt_of_cell c1) c1) (hk'.has sA))
          (fun W' hk' => tag4_one g2 1 _ _ _ XB W' (Nat.le_refl _) nXB (hk'.cell (block_lt_of_cell c2) c2) (hk'.has sB))
          (fun k u v W1 hk' hj' hu hv => HY.out k u v W1 (hkW.trans hk'.all) hj' ⟨_, _, by rw [framed2_len, wordlen4]; omega, by rw [framed2_len, wordlen4]; omega, hu, hv⟩) hj2).mono ?_
        rintro e w5 (⟨rfl, hj5, hk5⟩ | ⟨rfl, hx5⟩)
        · have hkk := hkW.trans hk5.all
          clear sA sB c1 c2
          go_wp2_with fail
          go_roundw
          case rel => exact ⟨k + 1, by omega, by go_num, hj5, hkk⟩
          case measure => simp [intOf]; omega
        · go_wp2_with fail
          refine bodyPost_ret (results_none rfl _ _ _) rfl ?_
          exact ⟨⟨_, rfl⟩, .inr hx5⟩
      · have hkM' : ¬ (k : Int) < (M : Int) := by omega
        by_cases hAB : nA = nB
        · subst hAB
          by_cases hpos : 0 < nA
          · have hpos' : (0 : Int) < (nA : Int) := by omega
            by_cases h512 : nA ≤ 512
            · have h512' : (nA : Int) ≤ 512 := by omega
              obtain ⟨aa, PA, CA, rfl, partA⟩ : ∃ a P C, pa = some a ∧ Parts wr a P C lsA := by
                rcases (SA.out.kc hk.all).2 with ⟨_, h⟩ | ⟨a, P, C, e, h⟩
                · omega
                · exact ⟨a, P, C, e, h⟩
              obtain ⟨ab, PB, CB, rfl, partB⟩ : ∃ a P C, pb = some a ∧ Parts wr a P C lsB := by
                rcases (SB.out.kc hk.all).2 with ⟨_, h⟩ | ⟨a, P, C, e, h⟩
                · omega
                · exact ⟨a, P, C, e, h⟩
              have hwd := wid_bd nA hpos h512
              go_wp2_with fail
              refine wp_region_any (by kernel_rfl) ?_
              change wpAny _ _ _ _ _ _ _ wr.drew
              refine wpAny_takeL (i := 0) (v := ?_) rfl (by kernel_rfl) (by kernel_rfl) (by kernel_rfl) (fun _ _ _ h => h) (Or.inl ⟨by rfl, ?_⟩) ?_
              rotate_left
              · intro w
                go_simp
                try with_reducible rfl
              simp only [Act.put, List.setIfInBounds_toArray, List.set_cons_zero, List.set_cons_succ]
              refine wpAny_takeL (i := 3) (v := ?_) rfl (by kernel_rfl) (by kernel_rfl) (by kernel_rfl) (fun _ _ _ h => h) (Or.inl ⟨by rfl, ?_⟩) ?_
              rotate_left
              · intro w
                go_simp
                try with_reducible rfl
              simp only [Act.put, List.setIfInBounds_toArray, List.set_cons_zero, List.set_cons_succ]
              refine wpAny_takeL (i := 6) (v := ?_) rfl (by kernel_rfl) (by kernel_rfl) (by kernel_rfl) (fun _ _ _ h => h) (Or.inl ⟨by rfl, ?_⟩) ?_
              rotate_left
              · intro w
                go_simp
                try with_reducible rfl
              simp only [Act.put, List.setIfInBounds_toArray, List.set_cons_zero, List.set_cons_succ]
              refine wpAny_growL 7 [1, 2, 4, 5] [_, _, _, _] (fun i => if i = 1 then Wd.is (.slice (some aa) nA cA) else if i = 2 then Wd.nodes (2 * wid nA - 1) else if i = 4 then Wd.is (.slice (some ab) nA cB) else Wd.nodes (2 * wid nA - 1))
                (by kernel_rfl) rfl rfl ⟨?o1, ?o2, ?o3, ?o4, trivial⟩ ?_
              case o1 =>
                intro f w hw hV K hK
                have hc := below_cell hw ca2
                simp only [putO, Act.put, List.setIfInBounds_toArray, List.set_cons_zero, List.set_cons_succ]
                go_simp
                exact hK _ _ (Below.refl _ _) rfl
              case o2 =>
                intro f w hw hV K hK
                have hd : f 1 = .slice (some aa) nA cA := hV 1 (by kernel_rfl)
                simp only [putO, Act.put, List.setIfInBounds_toArray, List.set_cons_zero, List.set_cons_succ, hd]
                go_simp
                refine (grown_at nA aa cA PA CA lsA w SA.out.1 hpos h512 (Parts.later (w := wr.drew) ⟨partA.cell, partA.has⟩ hw) LA.out).mono ?_
                rintro e w1 ⟨g, Z, rfl, hg, rZ, hZ, hb⟩
                exact ⟨_, rfl, hK _ _ hb ⟨g, Z, rfl, rZ, hZ⟩⟩
              case o3 =>
                intro f w hw hV K hK
                have hc := below_cell hw cb2
                simp only [putO, Act.put, List.setIfInBounds_toArray, List.set_cons_zero, List.set_cons_succ]
                go_simp
                exact hK _ _ (Below.refl _ _) rfl
              case o4 =>
                intro f w hw hV K hK
                have hd : f 4 = .slice (some ab) nA cB := hV 4 (by kernel_rfl)
                simp only [putO, Act.put, List.setIfInBounds_toArray, List.set_cons_zero, List.set_cons_succ, hd]
                go_simp
                refine (grown_at nA ab cB PB CB lsB w SB.out.1 hpos h512 (Parts.later (w := wr.drew) ⟨partB.cell, partB.has⟩ hw) LB.out).mono ?_
                rintro e w1 ⟨g, Z, rfl, hg, rZ, hZ, hb⟩
                exact ⟨_, rfl, hK _ _ hb ⟨g, Z, rfl, rZ, hZ⟩⟩
              intro f w2 hw hV
              obtain ⟨g1, Z1, e1, r1, z1⟩ : (Wd.nodes (2 * wid nA - 1)).1 w2 (f 2) := hV 2 (by simp)
              obtain ⟨g2, Z2, e2, r2, z2⟩ : (Wd.nodes (2 * wid nA - 1)).1 w2 (f 5) := hV 5 (by simp)
              have y1 : f 1 = .slice (some aa) nA cA := hV 1 (by simp)
              have y2 : f 4 = .slice (some ab) nA cB := hV 4 (by simp)
              have hw' : Below wr.heap.size wr w2 := ((Below.refl wr.heap.size wr).drew).trans hw
              have hj2 := abides_below HJ.out hj hw'
              have hk2 : KC wr.heap.size wr w2 := KC.of_below hw'
              have hkW := hk.trans hk2.all
              have lx2 := Lib.hid (hkW.cell (block_lt_of_cell HBX.out) HBX.out)
              have Z1' := Lib.hid z1
              have Z2' := Lib.hid z2
              simp only [putO, Act.put, List.setIfInBounds_toArray, List.set_cons_zero, List.set_cons_succ, e1, e2, y1, y2, List.drop_succ_cons, List.drop_zero]
              clear hV e1 e2 y1 y2 z1 z2 ca2 cb2 partA partB
              generalize hwm : 2 * wid nA - 1 = mm at *
              have hmm : mm ≤ 1100 := by omega
              clear hwm
              go_wp2_with fail
              refine (inner_at l J Jx B0 HJ.out bx g1 g2 mm Z1 Z2 w2 lx2.out r1 Z1'.out r2 Z2'.out hmm (fun k u v W1 hk' hj' hv' => HY.out k u v W1 (hkW.trans hk'.all) hj' hv') hj2).mono ?_
              rintro e w5 (⟨rfl, hj5, hk5⟩ | ⟨rfl, hx5⟩)
              · go_wp2_with fail
                go_end0
                exact ⟨⟨_, rfl⟩, .inl ⟨hj5, hkW.trans hk5.all⟩⟩
              · go_wp2_with fail
                go_end0
                exact ⟨⟨_, rfl⟩, .inr hx5⟩
            · have h512' : ¬ (nA : Int) ≤ 512 := by omega
              go_wp2_with fail
              go_end0
              exact ⟨⟨_, rfl⟩, .inl ⟨hj, hk⟩⟩
          · have hpos' : ¬ (0 : Int) < (nA : Int) := by omega
            go_wp2_with fail
            go_end0
            exact ⟨⟨_, rfl⟩, .inl ⟨hj, hk⟩⟩
        · have hAB' : ¬ (nA : Int) = (nB : Int) := by omega
          have hAB2 : ((nA : Int) == (nB : Int)) = false := beq_eq_false_iff_ne.2 hAB'
          go_wp2_with fail
          go_end0
          exact ⟨⟨_, rfl⟩, .inl ⟨hj, hk⟩⟩
  · go_wp2_with fail
    refine bodyPost_ret (results_none rfl _ _ _) rfl ?_
    exact ⟨⟨_, rfl⟩, .inr hx3⟩
end Go.Proofs.YtafichokaofngaaGreatDoor
