/- WALK: clash.first: the first pair that is a clash, in memory of its own; none: ErrSame; conditions: the iterator hands slices of bytes on. -/
import Derived.Test.YtafichokaofngaaGreatDoorProves
import Derived.Test.YtafichokaofngaaGreatDoorGrowIn
import Derived.Test.YtafichokaofngaaGreatDoorFirst0
namespace Go.Proofs.YtafichokaofngaaGreatDoor
open Go.RowKit Go.Shelf
attribute [local go_sem] Oper.semAt_some stepV stepVUpon

theorem proves_any (p q : Option Addr) (n m c d : Nat) (x y : List UInt8) (w : World) (hx : Has w (.slice p n c) (x.map Sha.bv)) (hy : Has w (.slice q m d) (y.map Sha.bv)) (hn : n ≤ 140737488355328) (hm : m ≤ 140737488355328) :
    Calls Tryz.prog 15 #[.agg #[.slice p n c, .slice q m d]] w fun e w' => e = .returned (.bool (!(x == y) && Sha.digest x == Sha.digest y)) ∧ Below w.heap.size w w' := by
  cases h : (x == y) with
  | true =>
    obtain rfl : x = y := by simpa using h
    exact proves_same p q n m c d x w hx hy
  | false => exact proves_unlike p q n m c d x y w hx hy hn hm h

def Wd.has (B : Nat) (x : List UInt8) : Wd := ⟨fun w v => Has w v (x.map Sha.bv) ∧ ∀ k, v.ownBlock = some k → B ≤ k, fun _ _ _ h hh => ⟨hh.1.later h, hh.2⟩⟩
/-- two unlike texts of one digest -/
def Clashing (B : Nat) (W : World) (v1 v2 : Value) : Prop := (∀ k, v1.ownBlock = some k → B ≤ k) ∧ (∀ k, v2.ownBlock = some k → B ≤ k) ∧ ∃ X Y : List UInt8, X.length ≤ 140737488355000 ∧ Y.length ≤ 140737488355000 ∧ Has W v1 (X.map Sha.bv) ∧ Has W v2 (Y.map Sha.bv) ∧ (X == Y) = false ∧ (Sha.digest X == Sha.digest Y) = true
theorem Clashing.kc {B : Nat} {W W' : World} {v1 v2 : Value} (h : Clashing B W v1 v2) (hk : KC W.heap.size W W') : Clashing B W' v1 v2 := by
  obtain ⟨o1, o2, X, Y, h1, h2, h3, h4, h5, h6⟩ := h
  exact ⟨o1, o2, X, Y, h1, h2, hk.has h3, hk.has h4, h5, h6⟩
theorem OkV.kc {W W' : World} {x : Value × Value} (hk : KC W.heap.size W W') (h : OkV W x) : OkV W' x := by
  obtain ⟨X, Y, h1, h2, h3, h4⟩ := h
  exact ⟨X, Y, h1, h2, hk.has h3, hk.has h4⟩
def FirstPost (w : World) (e : Ending) (w' : World) : Prop := Below w.heap.size w w' ∧ ((∃ v1 v2, e = .returned (.tuple #[.agg #[v1, v2], .int .i64 0]) ∧ Clashing w.heap.size w' v1 v2) ∨ e = .returned (.tuple #[.agg #[.slice none 0 0, .slice none 0 0], .int .i64 290]))

set_option maxRecDepth 100000 in
set_option maxHeartbeats 1000000 in
theorem first_any (lb : Array Value) (w : World)
    (hseq : ∀ W, KC w.heap.size w W → SeqOk Fence.wide 8 Tryz.prog 88 lb (fun x : Value × Value => #[.agg #[x.1, x.2]]) OkV W) :
    Calls Tryz.prog 36 #[.func (.func 88) #[] lb] w (FirstPost w) := by
  have HS := Lib.hid hseq
  clear hseq
  refine (callsIn_wide (n := 9)).1 ?_
  refine callsIn_of_wp_marks Tryz.func36 rfl trivial ?_ rfl
  simp only [Tryz.ntmps36, List.size_toArray, List.length_cons, List.length_nil, Nat.reduceAdd, Nat.reduceSub, Array.replicate_succ, Array.replicate_zero, List.push_toArray, List.append_toArray, List.nil_append, List.cons_append]
  gi_wp2_with fail
  have hb2 : Below w.heap.size w ((w.alloc (.cells #[.slice none 0 0, .slice none 0 0] 54)).alloc (.cells #[.int .i64 0] 40)) := ((Below.refl _ w).alloc (Nat.le_refl _) _).alloc (by simp) _
  have r2 := (Row.new w 54 #[.slice none 0 0, .slice none 0 0]).alloc (.cells #[.int .i64 0] 40)
  have r3 := Row.new (w.alloc (.cells #[.slice none 0 0, .slice none 0 0] 54)) 40 #[.int .i64 0]
  simp only [World.size_alloc] at r3
  have hsz : ((w.alloc (.cells #[.slice none 0 0, .slice none 0 0] 54)).alloc (.cells #[.int .i64 0] 40)).heap.size = w.heap.size + 2 := by simp
  generalize hgW : (w.alloc (.cells #[.slice none 0 0, .slice none 0 0] 54)).alloc (.cells #[.int .i64 0] 40) = W2 at *
  clear hgW
  have kW2 : KC w.heap.size w W2 := KC.of_below hb2
  refine wpIn_rangeFunc_ok (F := Fence.wide) rfl (by decide) (gf := 88) (lb := lb) rfl trivial (enters_of Tryz.func88 (by kernel_rfl) rfl) (HS.out W2 kW2) (KC.refl _ _) (fun _ => rfl) (fun W W' x hk h => OkV.kc hk h)
    (fun _ W => Below w.heap.size w W) (fun c _ W => c = .ret ∧ ∃ v1 v2, Row W w.heap.size 54 #[v1, v2] ∧ Row W (w.heap.size + 1) 40 #[.int .i64 0] ∧ Clashing w.heap.size W v1 v2 ∧ Below w.heap.size w W) (ownFrom_below (Nat.le_refl _) (by omega)) ?hIx hb2
    (fun x a' W => ∃ B, Row W B 54 #[x.1, x.2] ∧ a' = { tmps := #[.func (.func 88) #[] lb, undef, .pointer (some ⟨w.heap.size, 0, none⟩), .pointer (some ⟨w.heap.size + 1, 0, none⟩), .pointer (some ⟨B, 0, none⟩), .func (.func 88) #[] lb, .agg #[x.1, x.2], undef, undef, undef, undef, undef, undef, undef, undef, undef, undef], defers := [] })
    ?hAx ?assign ?body ?done ?stop
  case hAx =>
    rintro x a' _ W W' row ⟨B, hr, rfl⟩ hg hrow
    exact ⟨B, (KC.of_grown (B := B + 1) hg hrow).row (by omega) hr, rfl⟩
  case hIx =>
    rintro c s A C row ⟨rfl, v1, v2, q1, q2, hcl, hbl⟩ hg hr
    have hk : KC (A.heap.size) A C := KC.of_grown hg (fun r e => (hr r e).2)
    exact ⟨rfl, v1, v2, hk.row q1.lt q1, hk.row q2.lt q2, hcl.kc hk, ownFrom_below (β := Unit) (w₀ := w) (n₀ := w.heap.size) (B := W2.heap.size) (Nat.le_refl _) (by omega) s A C row hbl hg hr⟩
  case assign =>
    rintro l ⟨p, q⟩ W K hkW hbb ⟨X, Y, _, _, h1, h2⟩ hK
    obtain ⟨a1, n1, c1, rfl⟩ := h1.slice
    obtain ⟨a2, n2, c2, rfl⟩ := h2.slice
    gi_wp2_with fail
    exact hK _ _ (KC.of_below ((Below.refl _ W).alloc (Nat.le_refl _) _)) (KeepsOthers.alloc _ _) (hbb.alloc hbb.size _) ⟨W.heap.size, Row.new _ _ _, rfl⟩
  case body =>
    rintro l ⟨p, q⟩ a' W hkW hbb ⟨X, Y, hX, hY, h1, h2⟩ ⟨B, hr, rfl⟩
    obtain ⟨a1, n1, c1, rfl⟩ := h1.slice
    obtain ⟨a2, n2, c2, rfl⟩ := h2.slice
    have k0 : W.cell? ⟨B, 0, none⟩ = some (.slice a1 n1 c1) := hr.cell 0
    have k1 : W.cell? ⟨B, 1, none⟩ = some (.slice a2 n2 c2) := hr.cell 1
    gi_wp2_with fail
    have hn1 : n1 = X.length := by simpa using h1.len
    have hn2 : n2 = Y.length := by simpa using h2.len
    refine ⟨trivial, (CallsIn.inRound l (callsIn_wide.2 (proves_any a1 a2 n1 n2 c1 c2 X Y W h1 h2 (by omega) (by omega)))).mono ?_⟩
    rintro e w1 ⟨rfl, hb1⟩
    cases hp : (!(X == Y) && Sha.digest X == Sha.digest Y) with
    | false =>
      gi_wp2_with fail
      exact ⟨keepsOthers_below hb1, KC.of_below hb1, hbb.trans (hb1.mono hbb.size)⟩
    | true =>
      have hr1 := hr.below hb1 hr.lt
      have k0 : w1.cell? ⟨B, 0, none⟩ = some (.slice a1 n1 c1) := hr1.cell 0
      have k1 : w1.cell? ⟨B, 1, none⟩ = some (.slice a2 n2 c2) := hr1.cell 1
      have h1' := h1.later hb1
      have h2' := h2.later hb1
      have HP := Lib.hid hp
      have HN1 := Lib.hid hn1
      have HN2 := Lib.hid hn2
      clear hp hn1 hn2
      gi_wp2_with fail
      refine wpIn_region_any (by kernel_rfl) ?_
      change wpAnyIn _ _ _ _ _ _ _ _ _ w1.drew
      refine wpAnyIn_growL 6 [0, 1, 2, 3, 4, 5] [_, _, _, _, _, _] (fun i => if i = 0 then Wd.is (.pointer (some ⟨B, 0, none⟩)) else if i = 1 then Wd.is (.slice a1 n1 c1) else if i = 2 then Wd.has w1.heap.size X else if i = 3 then Wd.is (.pointer (some ⟨B, 1, none⟩)) else if i = 4 then Wd.is (.slice a2 n2 c2) else Wd.has w1.heap.size Y)
        (by kernel_rfl) (by kernel_rfl) rfl rfl ⟨?o1, ?o2, ?o3, ?o4, ?o5, ?o6, trivial⟩ ?_
      case o1 =>
        intro f w' hw hV K hK
        simp only [putO, Act.put, List.setIfInBounds_toArray, List.set_cons_zero, List.set_cons_succ]
        go_simp
        exact hK _ _ (Below.refl _ _) rfl
      case o2 =>
        intro f w' hw hV K hK
        have hd : f 0 = .pointer (some ⟨B, 0, none⟩) := hV 0 (by kernel_rfl)
        have hc := below_cell hw k0
        simp only [putO, Act.put, List.setIfInBounds_toArray, List.set_cons_zero, List.set_cons_succ, hd]
        go_simp
        exact hK _ _ (Below.refl _ _) rfl
      case o3 =>
        intro f w' hw hV K hK
        have hd : f 1 = .slice a1 n1 c1 := hV 1 (by kernel_rfl)
        simp only [putO, Act.put, List.setIfInBounds_toArray, List.set_cons_zero, List.set_cons_succ, hd]
        go_simp
        refine (bytesClone a1 n1 c1 X w' (Has.later (w := w1.drew) h1' hw) (by have := HN1.out; omega)).mono ?_
        rintro e w4 ⟨v, rfl, hown, hb⟩
        exact ⟨_, rfl, hK _ _ hb ⟨Has.of_owns hown, fun k hk => Nat.le_trans hw.size (hown.lt k hk).1⟩⟩
      case o4 =>
        intro f w' hw hV K hK
        simp only [putO, Act.put, List.setIfInBounds_toArray, List.set_cons_zero, List.set_cons_succ]
        go_simp
        exact hK _ _ (Below.refl _ _) rfl
      case o5 =>
        intro f w' hw hV K hK
        have hd : f 3 = .pointer (some ⟨B, 1, none⟩) := hV 3 (by kernel_rfl)
        have hc := below_cell hw k1
        simp only [putO, Act.put, List.setIfInBounds_toArray, List.set_cons_zero, List.set_cons_succ, hd]
        go_simp
        exact hK _ _ (Below.refl _ _) rfl
      case o6 =>
        intro f w' hw hV K hK
        have hd : f 4 = .slice a2 n2 c2 := hV 4 (by kernel_rfl)
        simp only [putO, Act.put, List.setIfInBounds_toArray, List.set_cons_zero, List.set_cons_succ, hd]
        go_simp
        refine (bytesClone a2 n2 c2 Y w' (Has.later (w := w1.drew) h2' hw) (by have := HN2.out; omega)).mono ?_
        rintro e w4 ⟨v, rfl, hown, hb⟩
        exact ⟨_, rfl, hK _ _ hb ⟨Has.of_owns hown, fun k hk => Nat.le_trans hw.size (hown.lt k hk).1⟩⟩
      intro f w2 hw hV
      have g2' : (Wd.has w1.heap.size X).1 w2 (f 2) := hV 2 (by simp)
      have g5' : (Wd.has w1.heap.size Y).1 w2 (f 5) := hV 5 (by simp)
      obtain ⟨g2, o2⟩ := g2'
      obtain ⟨g5, o5⟩ := g5'
      have z0 : f 0 = .pointer (some ⟨B, 0, none⟩) := hV 0 (by simp)
      have z1 : f 1 = .slice a1 n1 c1 := hV 1 (by simp)
      have z3 : f 3 = .pointer (some ⟨B, 1, none⟩) := hV 3 (by simp)
      have z4 : f 4 = .slice a2 n2 c2 := hV 4 (by simp)
      obtain ⟨b1, m1, d1, z2⟩ := g2.slice
      obtain ⟨b2, m2, d2, z5⟩ := g5.slice
      rw [z2] at g2 o2
      rw [z5] at g5 o5
      have hw' : Below w1.heap.size w1 w2 := ((Below.refl w1.heap.size w1).drew).trans hw
      have hkw : KC W2.heap.size W2 w2 := (hkW.trans (KC.of_below hb1).all).trans (KC.of_below hw').all
      have q2 := hkw.row (by omega) r2
      have q3 := hkw.row (by omega) r3
      have j0 : w2.cell? ⟨w.heap.size, 0, none⟩ = some (.slice none 0 0) := q2.cell 0
      have j1 : w2.cell? ⟨w.heap.size, 1, none⟩ = some (.slice none 0 0) := q2.cell 1
      have j2 : w2.cell? ⟨w.heap.size + 1, 0, none⟩ = some (.int .i64 0) := q3.cell 0
      have f0 := q2.frozen 0
      have f1 := q2.frozen 1
      have f2 := q3.frozen 0
      have hbw : Below w.heap.size w w2 := (hbb.trans (hb1.mono hbb.size)).trans (hw'.mono (Nat.le_trans hbb.size hb1.size))
      simp only [putO, Act.put, List.setIfInBounds_toArray, List.set_cons_zero, List.set_cons_succ, z0, z1, z2, z3, z4, z5, List.drop_succ_cons, List.drop_zero]
      clear hV z0 z1 z2 z3 z4 z5
      gi_wp2_with fail
      have hlt : w.heap.size + 1 < w1.heap.size := by
        have h1 := hkW.size
        have h2 := hb1.size
        omega
      have p2 := ((q2.store 0 (.slice b1 m1 d1)).store 1 (.slice b2 m2 d2)).other ⟨w.heap.size + 1, 0, none⟩ (.int .i64 0) (by simp)
      have p3 := ((q3.other ⟨w.heap.size, 0, none⟩ (.slice b1 m1 d1) (by simp)).other ⟨w.heap.size, 1, none⟩ (.slice b2 m2 d2) (by simp)).store 0 (.int .i64 0)
      have y2 := Has.setCell_other (Has.setCell_other (Has.setCell_other g2 ⟨w.heap.size, 0, none⟩ (.slice b1 m1 d1) (fun k hk => by have := o2 k hk; simp; omega)) ⟨w.heap.size, 1, none⟩ (.slice b2 m2 d2) (fun k hk => by have := o2 k hk; simp; omega)) ⟨w.heap.size + 1, 0, none⟩ (.int .i64 0) (fun k hk => by have := o2 k hk; simp; omega)
      have y5 := Has.setCell_other (Has.setCell_other (Has.setCell_other g5 ⟨w.heap.size, 0, none⟩ (.slice b1 m1 d1) (fun k hk => by have := o5 k hk; simp; omega)) ⟨w.heap.size, 1, none⟩ (.slice b2 m2 d2) (fun k hk => by have := o5 k hk; simp; omega)) ⟨w.heap.size + 1, 0, none⟩ (.int .i64 0) (fun k hk => by have := o5 k hk; simp; omega)
      have hp' := HP.out
      simp only [Bool.and_eq_true, Bool.not_eq_true'] at hp'
      refine ⟨(((keepsOthers_below (hb1.trans (hw'.mono hb1.size))).trans (KeepsOthers.setCell _ ⟨w.heap.size, 0, none⟩ (.slice b1 m1 d1))).trans (KeepsOthers.setCell _ ⟨w.heap.size, 1, none⟩ (.slice b2 m2 d2))).trans (KeepsOthers.setCell _ ⟨w.heap.size + 1, 0, none⟩ (.int .i64 0)), rfl, _, _, p2, p3, ⟨fun k hk => by have := o2 k hk; omega, fun k hk => by have := o5 k hk; omega, X, Y, hX, hY, y2, y5, hp'.1, hp'.2⟩, ?_⟩
      exact ((hbw.setCell (p := ⟨w.heap.size, 0, none⟩) (Nat.le_refl _) (.slice b1 m1 d1)).setCell (p := ⟨w.heap.size, 1, none⟩) (Nat.le_refl _) (.slice b2 m2 d2)).setCell (p := ⟨w.heap.size + 1, 0, none⟩) (by simp) (.int .i64 0)
  case done =>
    rintro D W hD hkW hbb hK
    have q2 := hkW.row (by omega) r2
    have q3 := hkW.row (by omega) r3
    have k0 : W.cell? ⟨w.heap.size, 0, none⟩ = some (.slice none 0 0) := q2.cell 0
    have k1 : W.cell? ⟨w.heap.size, 1, none⟩ = some (.slice none 0 0) := q2.cell 1
    have k2 : W.cell? ⟨w.heap.size + 1, 0, none⟩ = some (.int .i64 0) := q3.cell 0
    have f0 := q2.frozen 0
    have f1 := q2.frozen 1
    have f2 := q3.frozen 0
    gi_wp2_with fail
    have hK1 := ((((KeepsOthers.setCell W ⟨w.heap.size, 0, none⟩ (.slice none 0 0)).trans (KeepsOthers.setCell _ ⟨w.heap.size, 1, none⟩ (.slice none 0 0))).trans (KeepsOthers.setCell _ ⟨w.heap.size + 1, 0, none⟩ (.int .i64 290))).same D _ hK rfl)
    have q2' := ((q2.store 0 (.slice none 0 0)).store 1 (.slice none 0 0)).other ⟨w.heap.size + 1, 0, none⟩ (.int .i64 290) (by simp)
    have q3' := (((q3.other ⟨w.heap.size, 0, none⟩ (.slice none 0 0) (by simp)).other ⟨w.heap.size, 1, none⟩ (.slice none 0 0) (by simp)).store 0 (.int .i64 290))
    have hst := (((hbb.setCell (p := ⟨w.heap.size, 0, none⟩) (Nat.le_refl _) (.slice none 0 0)).setCell (p := ⟨w.heap.size, 1, none⟩) (Nat.le_refl _) (.slice none 0 0)).setCell (p := ⟨w.heap.size + 1, 0, none⟩) (by simp) (.int .i64 290))
    generalize hgW' : ((W.setCell _ _).setCell _ _).setCell _ _ = W3 at *
    clear hgW'
    have hkD := kc_put W3 D _ (.deferred none) hK1 rfl
    have z2 := (hkD (w.heap.size + 2)).row (by omega) q2'
    have z3 := (hkD (w.heap.size + 2)).row (by omega) q3'
    refine ⟨by simp, .inl ⟨_, _, rfl, run_takeDeferred hK1, ?_⟩⟩
    exact ⟨_, results_row_cell Tryz.results36 _ _ _ _ _ _ _ _ rfl rfl z2 z3 clash_desc rfl clash_size Tryz.underlying40, hst.trans (belowK_b (w := w) (Nat.le_refl _) W3 D _ _ (by omega) hK1 rfl rfl), .inr rfl⟩
  case stop =>
    rintro D c W hD ⟨rfl, v1, v2, q1, q2, hcl, hbl⟩ hK
    refine wpIn_ret ?_
    have hkD := kc_put W D _ (.deferred none) hK rfl
    have z2 := (hkD (w.heap.size + 2)).row (by omega) q1
    have z3 := (hkD (w.heap.size + 2)).row (by omega) q2
    have hc2 := hcl.kc (hkD W.heap.size)
    refine ⟨by simp, .inl ⟨_, _, rfl, run_takeDeferred hK, ?_⟩⟩
    exact ⟨_, results_row_cell Tryz.results36 _ _ _ _ _ _ _ _ rfl rfl z2 z3 clash_desc rfl clash_size Tryz.underlying40, hbl.trans (belowK_b (w := w) (Nat.le_refl _) W D _ _ (by omega) hK rfl rfl), .inl ⟨_, _, rfl, hc2⟩⟩
end Go.Proofs.YtafichokaofngaaGreatDoor
