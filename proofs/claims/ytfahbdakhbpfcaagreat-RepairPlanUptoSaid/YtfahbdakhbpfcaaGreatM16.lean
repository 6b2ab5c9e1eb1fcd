/-
  Join: WALKS: slices.Grow, slices.Concat, octet.Join at lists of bytes; condition: two short lists.
  Tag: WALKS: package tag: the text of a tag, whether parts fit, the tagged bytes; condition: the whole is at most 2^47 bytes.
-/
import Derived.Test.YtfahbdakhbpfcaaGreatM15
import Derived.Lib.SlBytesConst
namespace Go.Proofs.YtfahbdakhbpfcaaGreat
open Go.RowKit

set_option maxRecDepth 100000 in
set_option maxHeartbeats 1000000 in
theorem growBytes (n : Nat) (h1 : 1 ≤ n) (h2 : n ≤ 1000) (w : World) :
    Calls Tryz.prog 104 #[.slice none 0 0, .int .i64 n] w fun e w' =>
      ∃ v, e = .returned v ∧ w'.ownsRow w.heap.size 5 1 v 0 [] ∧ Below w.heap.size w w' := by
  obtain ⟨i0, hi, hz0, hz1, hz2⟩ := info_parts info_u8
  have hold : (Builtin.firstCells i0.size 0 (.slice none 0 0)).run Tryz.prog w.drew = .ok [].toArray w.drew := run_firstCells_none w.drew i0.size 0 0 0
  have hrz := fun ty => Lib.run_append_grow_zeros (P := Tryz.prog) w 70 3 ty 5 i0 (.int .u8 0) .i64 .i64 Tryz.underlying70 Tryz.underlying3 hi hz0 none 0 0 [] hold n (by omega) (by omega) (by omega) (by omega) (by rw [hz2]; omega)
    (growslice_fits (by omega) (by rw [hz2]; omega))
  simp only [Nat.zero_add] at hrz
  have hGn : n ≤ grownCap w n 0 5 := grownCap_ge w _ _ _
  have hGm : grownCap w n 0 5 ≤ maxLen := grownCap_le_maxLen w n 0 5 (by unfold maxLen; omega)
  have hsz : ([].toArray ++ Builtin.zeroCells (Value.int .u8 0).cells n ++ Builtin.zeroCells (Value.int .u8 0).cells (grownCap w n 0 5 - n)).size = grownCap w n 0 5 := by
    simp [Builtin.zeroCells, Value.cells]
    omega
  generalize grownCap w n 0 5 = G at *
  generalize [].toArray ++ Builtin.zeroCells (Value.int .u8 0).cells n ++ Builtin.zeroCells (Value.int .u8 0).cells (G - n) = cur at *
  have HZ := Lib.hid hsz
  have hG63 : G ≤ 9223372036854775807 := by unfold maxLen at hGm; omega
  have HM := Lib.hid hGm
  clear hsz hGm hold
  go_enter Tryz.func104, Tryz.ntmps104
  go_wp2_with (at_builtin; refine Lib.wpList_append_run _ rfl _ _ _ _ rfl _ _ rfl rfl _ _ (hrz _) ?_)
  go_ret
  exact ⟨_, rfl, World.ownsRow_made w cur G (Nat.le_refl _) HM.out (by rw [HZ.out]; simp), ((Below.refl _ _).alloc (Nat.le_refl _) _).drew⟩

set_option maxRecDepth 100000 in
set_option maxHeartbeats 1000000 in
theorem concatBytes (b n0 n1 c0 c1 cp : Nat) (p0 p1 : Option Addr) (xs0 xs1 : List Value) (w : World) (h0 : w.cell? ⟨b, 0, none⟩ = some (.slice p0 n0 c0)) (h1 : w.cell? ⟨b, 1, none⟩ = some (.slice p1 n1 c1))
    (hx0 : Has w (.slice p0 n0 c0) xs0) (hx1 : Has w (.slice p1 n1 c1) xs1) (hl0 : xs0.length = n0) (hl1 : xs1.length = n1) (hp : 1 ≤ n0 + n1) (hm : n0 + n1 ≤ 1000)
    (ho0 : ∀ u ∈ xs0, u.oneCell' = true) (ho1 : ∀ u ∈ xs1, u.oneCell' = true) :
    Calls Tryz.prog 100 #[.slice (some ⟨b, 0, none⟩) 2 cp] w fun e w' =>
      ∃ v, e = .returned v ∧ w'.ownsRow w.heap.size 5 1 v (n0 + n1) (xs0 ++ xs1) ∧ Below w.heap.size w w' := by
  obtain ⟨i0, hi, hz0, hz1, hz2⟩ := info_parts info_u8
  have H0 := Lib.hid hl0
  have H1 := Lib.hid hl1
  clear hl0 hl1
  go_enter Tryz.func100, Tryz.ntmps100
  go_wp2
  refine wp_loop_rounds 3 ?_
  rw [rounds_succ]
  go_wp2_with fail
  rw [rounds_succ]
  go_wp2_with fail
  rw [rounds_succ]
  go_wp2_with fail
  have hg := growBytes (n0 + n1) hp hm w
  rw [Int.natCast_add] at hg
  refine hg.mono ?_
  clear hg
  rintro e w1 ⟨v, rfl, hown, hb⟩
  have hx0' := hx0.later hb
  have hc := bcell hb
  have h0' : w1.cell? ⟨b, 0, none⟩ = some (.slice p0 n0 c0) := (hc.1 b 0 (block_lt_of_cell h0)).trans h0
  have h1' : w1.cell? ⟨b, 1, none⟩ = some (.slice p1 n1 c1) := (hc.1 b 1 (block_lt_of_cell h1)).trans h1
  clear hc
  go_wp2_with fail
  refine wp_loop_rounds 3 ?_
  rw [rounds_succ]
  go_wp2_with (at_builtin; refine wpList_append_has rfl _ _ 70 rfl w.heap.size 5 i0 (.int .u8 0) 1 Tryz.underlying70 hi hz0 hz1 hz2 rfl _ _ _ rfl hown _ xs0 rfl ?a1 ?a2 ?a3 ?a4 ?a5 ?_)
  case a1 => exact hx0'
  case a2 => exact ho0
  case a3 => have := H0.out; unfold maxLen; omega
  case a4 => have := H0.out; omega
  case a5 => exact hb.size
  intro v1 w2 hown1 hgrow1
  have hb2 : Below w.heap.size w w2 := hb.grown hgrow1 hb.size (fun k hk => (hown.lt k hk).1)
  have hx1' := hx1.later hb2
  have hc := bcell hb2
  have h1'' : w2.cell? ⟨b, 1, none⟩ = some (.slice p1 n1 c1) := (hc.1 b 1 (block_lt_of_cell h1)).trans h1
  clear hc hgrow1 hown hb hx0' h0' h1'
  go_wp2_with fail
  rw [rounds_succ]
  go_wp2_with (at_builtin; refine wpList_append_has rfl _ _ 70 rfl w.heap.size 5 i0 (.int .u8 0) 1 Tryz.underlying70 hi hz0 hz1 hz2 rfl _ _ _ rfl hown1 _ xs1 rfl ?b1 ?b2 ?b3 ?b4 ?b5 ?_)
  case b1 => exact hx1'
  case b2 => exact ho1
  case b3 => have := H0.out; have := H1.out; unfold maxLen; omega
  case b4 => have := H0.out; have := H1.out; omega
  case b5 => exact hb2.size
  intro v2 w3 hown2 hgrow2
  have hb3 : Below w.heap.size w w3 := hb2.grown hgrow2 hb2.size (fun k hk => (hown1.lt k hk).1)
  have hown3 : w3.ownsRow w.heap.size 5 1 v2 (n0 + n1) (xs0 ++ xs1) := by
    have := hown2
    rw [H0.out, H1.out] at this
    simpa using this
  clear hgrow2 hown1 hb2 hx1' h1'' hown2
  go_wp2_with fail
  rw [rounds_succ]
  go_wp2_with fail
  go_ret
  exact ⟨_, rfl, hown3, hb3⟩

theorem join2 (b n0 n1 c0 c1 cp : Nat) (p0 p1 : Option Addr) (xs0 xs1 : List Value) (w : World) (h0 : w.cell? ⟨b, 0, none⟩ = some (.slice p0 n0 c0)) (h1 : w.cell? ⟨b, 1, none⟩ = some (.slice p1 n1 c1))
    (hx0 : Has w (.slice p0 n0 c0) xs0) (hx1 : Has w (.slice p1 n1 c1) xs1) (hl0 : xs0.length = n0) (hl1 : xs1.length = n1) (hp : 1 ≤ n0 + n1) (hm : n0 + n1 ≤ 1000)
    (ho0 : ∀ u ∈ xs0, u.oneCell' = true) (ho1 : ∀ u ∈ xs1, u.oneCell' = true) :
    Calls Tryz.prog 89 #[.slice (some ⟨b, 0, none⟩) 2 cp] w fun e w' =>
      ∃ v, e = .returned v ∧ w'.ownsRow w.heap.size 5 1 v (n0 + n1) (xs0 ++ xs1) ∧ Below w.heap.size w w' := by
  have H0 := Lib.hid hl0
  have H1 := Lib.hid hl1
  clear hl0 hl1
  go_enter Tryz.func89, Tryz.ntmps89
  go_wp2_with fail
  refine (concatBytes b n0 n1 c0 c1 cp p0 p1 xs0 xs1 w h0 h1 hx0 hx1 H0.out H1.out hp hm ho0 ho1).mono ?_
  rintro e w1 ⟨v, rfl, hown, hb⟩
  go_wp2_with fail
  go_ret
  exact ⟨_, rfl, hown, hb⟩
end Go.Proofs.YtfahbdakhbpfcaaGreat
namespace Go.Proofs.YtfahbdakhbpfcaaGreat
open Go.RowKit

/-- the texts of the tags, as bytes -/
def wordB : Nat → ByteArray
  | 1 => ⟨#[115, 116, 114, 111, 110, 103, 114, 111, 111, 109, 32, 107, 101, 121]⟩
  | 2 => ⟨#[115, 116, 114, 111, 110, 103, 114, 111, 111, 109, 32, 105, 110, 100, 101, 120]⟩
  | 3 => ⟨#[115, 116, 114, 111, 110, 103, 114, 111, 111, 109, 32, 98, 108, 111, 99, 107]⟩
  | 4 => ⟨#[115, 116, 114, 111, 110, 103, 114, 111, 111, 109, 32, 115, 101, 103, 109, 101, 110, 116]⟩
  | 5 => ⟨#[115, 116, 114, 111, 110, 103, 114, 111, 111, 109, 32, 114, 111, 111, 116]⟩
  | 6 => ⟨#[115, 116, 114, 111, 110, 103, 114, 111, 111, 109, 32, 110, 111, 100, 101]⟩
  | 7 => ⟨#[115, 116, 114, 111, 110, 103, 114, 111, 111, 109, 32, 112, 97, 100]⟩
  | 8 => ⟨#[115, 116, 114, 111, 110, 103, 114, 111, 111, 109, 32, 117, 101, 98]⟩
  | 9 => ⟨#[115, 116, 114, 111, 110, 103, 114, 111, 111, 109, 32, 114, 105, 110, 103]⟩
  | _ => ⟨#[]⟩

theorem word4 (w : World) : Calls Tryz.prog 68 #[.int .u8 4] w fun e w' => e = .returned (.string (wordB 4)) ∧ w = w' := by
  go_enter Tryz.func68, Tryz.ntmps68
  go_wp2
  go_ret
  exact ⟨rfl, rfl⟩
theorem word6 (w : World) : Calls Tryz.prog 68 #[.int .u8 6] w fun e w' => e = .returned (.string (wordB 6)) ∧ w = w' := by
  go_enter Tryz.func68, Tryz.ntmps68
  go_wp2
  go_ret
  exact ⟨rfl, rfl⟩
theorem word8 (w : World) : Calls Tryz.prog 68 #[.int .u8 8] w fun e w' => e = .returned (.string (wordB 8)) ∧ w = w' := by
  go_enter Tryz.func68, Tryz.ntmps68
  go_wp2
  go_ret
  exact ⟨rfl, rfl⟩

set_option maxRecDepth 100000 in
set_option maxHeartbeats 1000000 in
theorem fit8 (b : Nat) (p : Option Addr) (n c cp : Nat) (w : World) (hc : w.cell? ⟨b, 0, none⟩ = some (.slice p n c)) :
    Calls Tryz.prog 69 #[.int .u8 8, .slice (some ⟨b, 0, none⟩) 1 cp] w fun e w' => e = .returned (.bool true) ∧ Below w.heap.size w w' := by
  have hl := block_lt_of_cell hc
  go_enter Tryz.func69, Tryz.ntmps69
  go_wp2
  go_rounds 2
  go_ret
  exact ⟨rfl, (Below.refl _ _).alloc (Nat.le_refl _) _⟩
set_option maxRecDepth 100000 in
set_option maxHeartbeats 1000000 in
theorem fit4 (b : Nat) (p : Option Addr) (n c cp : Nat) (w : World) (hc : w.cell? ⟨b, 0, none⟩ = some (.slice p n c)) :
    Calls Tryz.prog 69 #[.int .u8 4, .slice (some ⟨b, 0, none⟩) 1 cp] w fun e w' => e = .returned (.bool true) ∧ Below w.heap.size w w' := by
  have hl := block_lt_of_cell hc
  go_enter Tryz.func69, Tryz.ntmps69
  go_wp2
  go_rounds 2
  go_ret
  exact ⟨rfl, (Below.refl _ _).alloc (Nat.le_refl _) _⟩
set_option maxRecDepth 100000 in
set_option maxHeartbeats 1000000 in
theorem fit6 (b : Nat) (p q : Option Addr) (c d cp : Nat) (w : World) (hc : w.cell? ⟨b, 0, none⟩ = some (.slice p 32 c)) (hd : w.cell? ⟨b, 1, none⟩ = some (.slice q 32 d)) :
    Calls Tryz.prog 69 #[.int .u8 6, .slice (some ⟨b, 0, none⟩) 2 cp] w fun e w' => e = .returned (.bool true) ∧ Below w.heap.size w w' := by
  have hmf : ∀ (fn : Fn) (first cap : Array Value) (w : World), (Instr.makeFunc fn first cap).run Tryz.prog w = .ok (.func fn first cap) w := fun _ _ _ _ => rfl
  have hl := block_lt_of_cell hc
  have hl1 : b < w.heap.size + 1 := Nat.lt_succ_of_lt hl
  have hl2 : b < w.heap.size + 1 + 1 := Nat.lt_succ_of_lt hl1
  go_enter Tryz.func69, Tryz.ntmps69
  go_wp2
  go_rounds 3
  go_ret
  exact ⟨rfl, (((Below.refl _ _).alloc (Nat.le_refl _) _).alloc (by simp) _).alloc (by simp; omega) _⟩
end Go.Proofs.YtfahbdakhbpfcaaGreat
