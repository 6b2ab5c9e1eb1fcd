/- WALKS: bytes.Equal, bytes.Clone; conditions: lengths below 2^47. -/
import Derived.Test.YtafichokaofngaaGreatDoorFramed
import Derived.Lib.SliceRun
import Derived.Laws.BytesString
namespace Go.Proofs.YtafichokaofngaaGreatDoor
open Go.RowKit

theorem fold_push (x : List UInt8) : ∀ acc : ByteArray, (x.map fun b => (b.toNat : Int)).foldl (fun r n => r.push (UInt8.ofNat n.toNat)) acc = ⟨(acc.data.toList ++ x).toArray⟩ := by
  induction x with
  | nil => intro acc; simp
  | cons b x ih =>
    intro acc
    simp only [List.map_cons, List.foldl_cons]
    rw [ih]
    simp [ByteArray.push]

theorem has_to_string {P : Program} {src dst e : TypeId} (hs : P.underlying src = some (.slice e)) (he : P.underlying e = some (.int .u8)) (hd : P.underlying dst = some .string)
    {w : World} {p : Option Addr} {n c : Nat} {x : List UInt8} (h : Has w (.slice p n c) (x.map Sha.bv)) : (convert src dst (.slice p n c)).run P w = .ok (.string ⟨x.toArray⟩) w := by
  rw [run_convert_bytes_string w src dst e p n c hs he hd]
  rcases h with ⟨h, hx⟩ | ⟨a, c', h, _, hc⟩
  · simp only [Value.slice.injEq] at h
    obtain ⟨rfl, rfl, rfl⟩ := h
    have hx' : x = [] := by simpa using hx
    subst hx'
    simp [Conv.bytesToString]
    rfl
  · simp only [Value.slice.injEq] at h
    obtain ⟨rfl, rfl, rfl⟩ := h
    have hl := run_loadCells_list (P := P) w a (x.map Sha.bv) hc
    have e1 : x.map Sha.bv = (x.map fun b => (b.toNat : Int)).map (Value.int .u8) := by simp [Sha.bv]
    rw [e1] at hl
    rw [run_bytesToString w a _ _ (x.map fun b => (b.toNat : Int)) (by simpa using hl), fold_push]
    simp

set_option maxRecDepth 100000 in
set_option maxHeartbeats 1000000 in
theorem bytesEqual (p q : Option Addr) (n m c d : Nat) (x y : List UInt8) (w : World) (hx : Has w (.slice p n c) (x.map Sha.bv)) (hy : Has w (.slice q m d) (y.map Sha.bv)) :
    Calls Tryz.prog 39 #[.slice p n c, .slice q m d] w fun e w' => e = .returned (.bool (x == y)) ∧ w = w' := by
  have c1 := has_to_string (P := Tryz.prog) Tryz.underlying22 Tryz.underlying5 Tryz.underlying9 hx
  have c2 := has_to_string (P := Tryz.prog) Tryz.underlying22 Tryz.underlying5 Tryz.underlying9 hy
  go_enter Tryz.func39, Tryz.ntmps39
  go_wp2
  go_ret
  exact ⟨rfl, rfl⟩

set_option maxRecDepth 100000 in
set_option maxHeartbeats 1000000 in
theorem bytesClone (p : Option Addr) (n c : Nat) (x : List UInt8) (w : World) (hx : Has w (.slice p n c) (x.map Sha.bv)) (hm : n ≤ 140737488355328) :
    Calls Tryz.prog 77 #[.slice p n c] w fun e w' => ∃ v, e = .returned v ∧ w'.ownsRow w.heap.size 5 1 v n (x.map Sha.bv) ∧ Below w.heap.size w w' := by
  obtain ⟨i0, hi, hz0, hz1, hz2⟩ := info_parts info_u8
  have q22 : ∀ (w : World) (a : Option Addr) (n c n' c' : Nat), (binOp .eql 22 (.slice a n c) (.slice none n' c')).run Tryz.prog w = .ok (.bool a.isNone) w := fun w a n c n' c' => Lib.run_eql_slice_nil w _ _ a n c n' c' Tryz.underlying22
  rcases hx with ⟨h, hx⟩ | ⟨a, c', h, hcc, hc⟩
  · simp only [Value.slice.injEq] at h
    obtain ⟨rfl, rfl, rfl⟩ := h
    have hx' : x = [] := by simpa using hx
    subst hx'
    go_enter Tryz.func77, Tryz.ntmps77
    go_wp2
    go_ret
    exact ⟨_, rfl, World.ownsRow_nil _ _ _ _, Below.refl _ _⟩
  · simp only [Value.slice.injEq] at h
    obtain ⟨rfl, rfl, rfl⟩ := h
    have hh : Has w (.slice (some a) (x.map Sha.bv).length c) (x.map Sha.bv) := .inr ⟨a, c, rfl, hcc, hc⟩
    have HH := Lib.hid (hh.later ((Below.refl _ w).alloc (Nat.le_refl _) (.cells #[] 5)))
    clear hc hcc hh
    go_enter Tryz.func77, Tryz.ntmps77
    go_wp2_with (at_builtin; refine wpList_append_has rfl _ _ 22 rfl w.heap.size 5 i0 (.int .u8 0) 1 Tryz.underlying22 hi hz0 hz1 hz2 rfl _ 0 [] rfl (World.ownsRow_made w #[] 0 (Nat.le_refl _) (Nat.zero_le _) rfl) _ (x.map Sha.bv) rfl ?h1 ?h2 ?h3 ?h4 ?h5 ?_)
    case h1 => exact HH.out
    case h2 => exact one_bytes _
    case h3 => unfold maxLen; omega
    case h4 => omega
    case h5 => simp
    intro v1 w1 hown1 hgrow1
    have hb1 : Below w.heap.size w w1 := ((Below.refl _ _).alloc (Nat.le_refl _) _).grown hgrow1 (by simp) (fun k hk => by simp [Value.ownBlock] at hk; omega)
    have hown2 : w1.ownsRow w.heap.size 5 1 v1 (x.map Sha.bv).length (x.map Sha.bv) := by simpa using hown1
    clear hgrow1 hown1
    go_wp2
    go_ret
    exact ⟨_, rfl, hown2, hb1⟩
end Go.Proofs.YtafichokaofngaaGreatDoor
