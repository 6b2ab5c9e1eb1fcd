/-
  Octet: WALKS: package octet's numbers as bytes; conditions: none.
  Framed: WALK: octet.Framed: lists of bytes one behind the other, each with its length in eight bytes ahead; condition: the whole is at most 2^47 bytes.
-/
import Derived.Test.YtfahbdakhbpfcaaGreatM1
import Derived.Test.YtfahbdakhbpfcaaGreatM2
import Derived.Test.YtfahbdakhbpfcaaGreatProg
import Derived.KernelRfl
namespace Go.Proofs.YtfahbdakhbpfcaaGreat
open Go.RowKit

set_option maxRecDepth 100000 in
set_option maxHeartbeats 400000 in
theorem width64 (w : World) : Calls Tryz.prog 96 #[] w fun e w' => e = .returned (.int .i64 8) ∧ w = w' := by
  go_enter Tryz.func96, Tryz.ntmps96
  go_wp2
  go_rounds 9
  go_ret
  exact ⟨rfl, rfl⟩

theorem make8 (w : World) : (Instr.makeSlice 70 (.int .i64 8) (.int .i64 8)).run Tryz.prog w = .ok (.slice (some ⟨w.heap.size, 0, none⟩) 8 8) (w.alloc (.cells #[.int .u8 0, .int .u8 0, .int .u8 0, .int .u8 0, .int .u8 0, .int .u8 0, .int .u8 0, .int .u8 0] 5)) := by kernel_rfl

theorem bv_ofNat (n : Nat) : Sha.bv (UInt8.ofNat n) = .int .u8 ((n : Int) % 256) := by
  simp [Sha.bv]

/-- the cells of a number's eight bytes, as the walk spells them -/
theorem be64_cells (x : Nat) (hx : (x : Int) < 18446744073709551616) :
    #[Value.int .u8 ((x : Int) / 72057594037927936), .int .u8 ((x : Int) / 281474976710656 % 256), .int .u8 ((x : Int) / 1099511627776 % 256), .int .u8 ((x : Int) / 4294967296 % 256),
      .int .u8 ((x : Int) / 16777216 % 256), .int .u8 ((x : Int) / 65536 % 256), .int .u8 ((x : Int) / 256 % 256), .int .u8 ((x : Int) % 256)] = ((Sha.be64 x).map Sha.bv).toArray := by
  have h : (x : Int) / 72057594037927936 = (x : Int) / 72057594037927936 % 256 := by omega
  rw [h]
  simp only [Sha.be64, List.map_cons, List.map_nil, bv_ofNat]
  simp

set_option maxRecDepth 100000 in
set_option maxHeartbeats 1000000 in
theorem big64 (x : Nat) (hx : (x : Int) < 18446744073709551616) (w : World) : Calls Tryz.prog 83 #[.int .u64 x] w fun e w' =>
    e = .returned (.slice (some ⟨w.heap.size, 0, none⟩) 8 8) ∧ w' = w.alloc (.cells ((Sha.be64 x).map Sha.bv).toArray 5) := by
  have hmk := make8
  have HC := Lib.hid (be64_cells x hx)
  go_enter Tryz.func83, Tryz.ntmps83
  go_wp2_with fail
  refine (width64 _).mono ?_
  rintro e w' ⟨rfl, rfl⟩
  go_wp2
  go_rounds 9
  go_ret
  exact ⟨rfl, by rw [← HC.out]⟩
end Go.Proofs.YtfahbdakhbpfcaaGreat
namespace Go.Proofs.YtfahbdakhbpfcaaGreat
open Go.RowKit

/-- a list of lists of bytes that lies from address a on: each a slice, p its place, c its capacity -/
structure Parts (w : World) (a : Addr) (p : Nat → Option Addr) (c : Nat → Nat) (ls : List (List UInt8)) : Prop where
  cell : ∀ i, i < ls.length → w.cell? (a.add i) = some (.slice (p i) (ls.getD i []).length (c i))
  has : ∀ i, i < ls.length → Has w (.slice (p i) (ls.getD i []).length (c i)) ((ls.getD i []).map Sha.bv)

theorem Parts.later {w w' : World} {a : Addr} {p : Nat → Option Addr} {c : Nat → Nat} {ls : List (List UInt8)} (h : Parts w a p c ls) (hb : Below w.heap.size w w') : Parts w' a p c ls := by
  refine ⟨fun i hi => ?_, fun i hi => (h.has i hi).later hb⟩
  have hc := h.cell i hi
  rw [hb.cell (block_lt_of_cell hc)]
  exact hc

def framed (ls : List (List UInt8)) : List UInt8 := ls.flatMap fun l => Sha.be64 l.length ++ l
def framedTo (ls : List (List UInt8)) (k : Nat) : List UInt8 := framed (ls.take k)
theorem framedTo_succ (ls : List (List UInt8)) (k : Nat) (h : k < ls.length) : framedTo ls (k + 1) = framedTo ls k ++ Sha.be64 (ls.getD k []).length ++ ls.getD k [] := by
  unfold framedTo framed
  rw [List.take_succ_eq_append_getElem h, List.flatMap_append]
  simp [List.getD, List.getElem?_eq_getElem h]
theorem framedTo_all (ls : List (List UInt8)) : framedTo ls ls.length = framed ls := by simp [framedTo]
theorem framed_take_le (ls : List (List UInt8)) (k : Nat) : (framedTo ls k).length ≤ (framed ls).length := by
  have h : framed ls = framedTo ls k ++ framed (ls.drop k) := by
    unfold framedTo framed
    rw [← List.flatMap_append, List.take_append_drop]
  rw [h]
  simp

theorem info_u8 : (Tryz.prog.info? 5).map (fun i => (i.zero, i.size, i.bytes)) = some (some (.int .u8 0), 1, 1) := by kernel_rfl
theorem one_bytes (l : List UInt8) : ∀ u ∈ l.map Sha.bv, u.oneCell' = true := by
  intro u hu
  obtain ⟨b, _, rfl⟩ := List.mem_map.1 hu
  rfl

set_option maxRecDepth 100000 in
set_option maxHeartbeats 1000000 in
theorem framed_any (a : Addr) (n cp : Nat) (p : Nat → Option Addr) (c : Nat → Nat) (ls : List (List UInt8)) (w : World) (hn : n = ls.length) (hm : n ≤ 9223372036854775807)
    (hsum : (framed ls).length ≤ 140737488355328) (hp : Parts w a p c ls) :
    Calls Tryz.prog 70 #[.slice (some a) n cp] w fun e w' =>
      ∃ v, e = .returned v ∧ w'.ownsRow w.heap.size 5 1 v (framed ls).length ((framed ls).map Sha.bv) ∧ Below w.heap.size w w' := by
  obtain ⟨i0, hi, hz0, hz1, hz2⟩ := info_parts info_u8
  have Hn := Lib.hid hn
  clear hn
  go_enter Tryz.func70, Tryz.ntmps70
  go_wp2
  go_loopw [3, 8] (fun v i wr => ∃ k : Nat, k ≤ n ∧ i = .int .i64 k ∧ wr.ownsRow w.heap.size 5 1 v (framedTo ls k).length ((framedTo ls k).map Sha.bv) ∧ Below w.heap.size w wr)
    (fun _ i _ => n - (intOf i).toNat)
  case atStart => exact ⟨0, Nat.zero_le _, rfl, World.ownsRow_nil _ _ _ _, Below.refl _ _⟩
  case round =>
    obtain ⟨k, hk, rfl, hown, hb⟩ := hrel
    by_cases hlt : k < n
    · have hkl : k < ls.length := by rw [← Hn.out]; exact hlt
      have hcell := (hp.later hb).cell k hkl
      have hhas := (hp.later hb).has k hkl
      have hlen : (ls.getD k []).length ≤ 140737488355328 := by
        have h1 := framed_take_le ls (k + 1)
        rw [framedTo_succ ls k hkl] at h1
        simp only [List.length_append] at h1
        omega
      generalize hl : ls.getD k [] = l at *
      have HL := Lib.hid hl
      clear hl
      have hF := framed_take_le ls (k + 1)
      rw [framedTo_succ ls k hkl, HL.out] at hF
      simp only [List.length_append] at hF
      have hF8 : (Sha.be64 l.length).length = 8 := rfl
      rw [hF8] at hF
      have HF := Lib.hid hF
      have HF8 := Lib.hid hF8
      clear hF hF8
      go_wp2_with fail
      refine (big64 l.length (by omega) _).mono ?_
      rintro e w1 ⟨rfl, rfl⟩
      go_wp2_with (at_builtin; refine wpList_append_has rfl _ _ 70 rfl w.heap.size 5 i0 (.int .u8 0) 1 Tryz.underlying70 hi hz0 hz1 hz2 rfl _ _ _ rfl (hown.alloc _) _ ((Sha.be64 l.length).map Sha.bv) rfl ?h1 ?h2 ?h3 ?h4 ?h5 ?_)
      case h1 => exact has_new wr 5 ((Sha.be64 l.length).map Sha.bv) 8 (Nat.le_refl _)
      case h2 => exact one_bytes _
      case h3 => have := HF.out; have := HF8.out; simp only [List.length_map]; unfold maxLen; omega
      case h4 => have := HF.out; have := HF8.out; simp only [List.length_map]; omega
      case h5 => have := hb.size; simp; omega
      intro v1 w1 hown1 hgrow1
      have hb1 : Below w.heap.size w w1 := (hb.alloc hb.size _).grown hgrow1 (by have := hb.size; simp; omega) (fun k hk => (hown.lt k hk).1)
      have hhas1 := (hp.later hb1).has k hkl
      rw [HL.out] at hhas1
      clear hgrow1 hown
      go_wp2_with (at_builtin; refine wpList_append_has rfl _ _ 70 rfl w.heap.size 5 i0 (.int .u8 0) 1 Tryz.underlying70 hi hz0 hz1 hz2 rfl _ _ _ rfl hown1 _ (l.map Sha.bv) rfl ?h6 ?h7 ?h8 ?h9 ?h10 ?_)
      case h6 => exact hhas1
      case h7 => exact one_bytes _
      case h8 => have := HF.out; have := HF8.out; simp only [List.length_map]; unfold maxLen; omega
      case h9 => have := HF.out; have := HF8.out; simp only [List.length_map]; omega
      case h10 => exact hb1.size
      intro v2 w2 hown2 hgrow2
      have hb2 : Below w.heap.size w w2 := hb1.grown hgrow2 hb1.size (fun k hk => (hown1.lt k hk).1)
      have hown3 : w2.ownsRow w.heap.size 5 1 v2 (framedTo ls (k + 1)).length ((framedTo ls (k + 1)).map Sha.bv) := by
        rw [framedTo_succ ls k hkl, HL.out]
        simpa [List.append_assoc, Nat.add_assoc] using hown2
      clear hown2 hgrow2 hown1 hb1 hb hhas1 hhas hcell
      go_wp2
      go_roundw
      case rel => exact ⟨k + 1, by omega, by go_num, hown3, hb2⟩
      case measure => simp [intOf]; omega
    · have hkn : k = n := by omega
      subst hkn
      rw [Hn.out, framedTo_all] at hown
      go_wp2
      go_ret
      exact ⟨_, rfl, hown, hb⟩
end Go.Proofs.YtfahbdakhbpfcaaGreat
