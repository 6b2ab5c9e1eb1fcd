/-
  Bytes: WALK: tag.Bytes: the tagged bytes of a tag and parts that fit; condition: the whole is at most 2^47 bytes.
-/
import Derived.Test.YtfahbdakhbpfcaaGreatM16
namespace Go.Proofs.YtfahbdakhbpfcaaGreat
open Go.RowKit

def word (t : Nat) : List UInt8 := (wordB t).data.toList
theorem word_len (t : Nat) : (word t).length = (wordB t).size := by
  unfold word
  rw [Array.length_toList]
  rfl
theorem has_string (w : World) (t : TypeId) (s : ByteArray) (c : Nat) (fr : Nat × Nat) (hc : s.size ≤ c) :
    Has (w.alloc (.cells (bytesRow s c) t fr)) (.slice (some ⟨w.heap.size, 0, none⟩) s.size c) (s.data.toList.map Sha.bv) := by
  have hl : (s.data.toList.map Sha.bv).length = s.size := by rw [List.length_map, Array.length_toList]; rfl
  refine .inr ⟨⟨w.heap.size, 0, none⟩, c, by rw [hl], by rw [hl]; exact hc, fun j u hu => ?_⟩
  have e : (⟨w.heap.size, 0, none⟩ : Addr).add j = ⟨w.heap.size, j, none⟩ := by unfold Addr.add; split <;> simp_all
  rw [e, World.cell?_alloc_mark]
  have hj : j < s.data.size := by
    have := (List.getElem?_eq_some_iff.1 hu).1
    simpa using this
  rw [bytesRow_at s c j hj]
  rw [List.getElem?_map, Array.getElem?_toList, Array.getElem?_eq_getElem hj] at hu
  simpa using hu

/-- the values of the parts' slices -/
def sliceVals (p : Nat → Option Addr) (c : Nat → Nat) (ls : List (List UInt8)) : List Value := (List.range ls.length).map fun i => .slice (p i) (ls.getD i []).length (c i)
theorem sliceVals_len (p : Nat → Option Addr) (c : Nat → Nat) (ls : List (List UInt8)) : (sliceVals p c ls).length = ls.length := by simp [sliceVals]
theorem sliceVals_get (p : Nat → Option Addr) (c : Nat → Nat) (ls : List (List UInt8)) (i : Nat) (h : i < ls.length) : (sliceVals p c ls)[i]? = some (.slice (p i) (ls.getD i []).length (c i)) := by
  simp [sliceVals, h]
theorem sliceVals_one (p : Nat → Option Addr) (c : Nat → Nat) (ls : List (List UInt8)) : ∀ u ∈ sliceVals p c ls, u.oneCell' = true := by
  intro u hu
  obtain ⟨i, _, rfl⟩ := List.mem_map.1 hu
  rfl

theorem Parts.has_vals {w : World} {b cp : Nat} {p : Nat → Option Addr} {c : Nat → Nat} {ls : List (List UInt8)} {n : Nat} (hp : Parts w ⟨b, 0, none⟩ p c ls) (hn : ls.length = n) (hcp : n ≤ cp) :
    Has w (.slice (some ⟨b, 0, none⟩) n cp) (sliceVals p c ls) := by
  refine .inr ⟨_, cp, by rw [sliceVals_len, hn], by rw [sliceVals_len, hn]; exact hcp, fun j u hu => ?_⟩
  have hj : j < ls.length := by
    have := (List.getElem?_eq_some_iff.1 hu).1
    rwa [sliceVals_len] at this
  rw [hp.cell j hj, ← sliceVals_get p c ls j hj]
  exact hu

/-- the world in which tag.Bytes has laid the tag's text, the list of it, the list of both lists -/
theorem tag_world (T1 T2 T3 : TypeId) (w1 : World) (b n cp G : Nat) (s : ByteArray) (fr : Nat × Nat) (hG : s.size ≤ G) (p : Nat → Option Addr) (c : Nat → Nat) (ls : List (List UInt8)) (hp : Parts w1 ⟨b, 0, none⟩ p c ls) (hn : ls.length = n) (hcp : n ≤ cp)
    (W : World) (hW : W = (((w1.alloc (.cells (bytesRow s G) T1 fr)).alloc (.cells #[.slice (some ⟨w1.heap.size, 0, none⟩) s.size G] T2)).alloc (.cells #[.slice (some ⟨w1.heap.size + 1, 0, none⟩) 1 1, .slice (some ⟨b, 0, none⟩) n cp] T3)).drew) :
    W.cell? ⟨w1.heap.size + 1 + 1, 0, none⟩ = some (.slice (some ⟨w1.heap.size + 1, 0, none⟩) 1 1) ∧ W.cell? ⟨w1.heap.size + 1 + 1, 1, none⟩ = some (.slice (some ⟨b, 0, none⟩) n cp) ∧
    Has W (.slice (some ⟨w1.heap.size + 1, 0, none⟩) 1 1) [.slice (some ⟨w1.heap.size, 0, none⟩) s.size G] ∧ Has W (.slice (some ⟨b, 0, none⟩) n cp) (sliceVals p c ls) ∧
    Has W (.slice (some ⟨w1.heap.size, 0, none⟩) s.size G) (s.data.toList.map Sha.bv) ∧ Below w1.heap.size w1 W ∧ Parts W ⟨b, 0, none⟩ p c ls := by
  have hb : Below w1.heap.size w1 W := by
    subst hW
    exact ((((Below.refl _ _).alloc (Nat.le_refl _) _).alloc (by simp) _).alloc (by simp; omega) _).drew
  refine ⟨?_, ?_, ?_, ?_, ?_, hb, hp.later hb⟩
  · subst hW
    have h := (Row.new ((w1.alloc (.cells (bytesRow s G) T1 fr)).alloc (.cells #[.slice (some ⟨w1.heap.size, 0, none⟩) s.size G] T2)) T3 #[.slice (some ⟨w1.heap.size + 1, 0, none⟩) 1 1, .slice (some ⟨b, 0, none⟩) n cp]).cell 0
    simpa using h
  · subst hW
    have h := (Row.new ((w1.alloc (.cells (bytesRow s G) T1 fr)).alloc (.cells #[.slice (some ⟨w1.heap.size, 0, none⟩) s.size G] T2)) T3 #[.slice (some ⟨w1.heap.size + 1, 0, none⟩) 1 1, .slice (some ⟨b, 0, none⟩) n cp]).cell 1
    simpa using h
  · subst hW
    have h := has_new (w1.alloc (.cells (bytesRow s G) T1 fr)) T2 [.slice (some ⟨w1.heap.size, 0, none⟩) s.size G] 1 (Nat.le_refl _)
    simp only [World.size_alloc] at h
    exact h.later (((Below.refl _ _).alloc (Nat.le_refl _) _).drew)
  · exact (hp.has_vals hn hcp).later hb
  · subst hW
    exact (has_string w1 T1 s G fr hG).later ((((Below.refl _ _).alloc (Nat.le_refl _) _).alloc (by simp) _).drew)

theorem parts_cons {w : World} {a a' : Addr} {q : Option Addr} {G : Nat} {l0 : List UInt8} {p : Nat → Option Addr} {c : Nat → Nat} {ls : List (List UInt8)}
    (hc : ∀ (j : Nat) u, ([Value.slice q l0.length G] ++ sliceVals p c ls)[j]? = some u → w.cell? (a.add j) = some u) (hx : Has w (.slice q l0.length G) (l0.map Sha.bv)) (hp : Parts w a' p c ls) :
    Parts w a (fun i => if i = 0 then q else p (i - 1)) (fun i => if i = 0 then G else c (i - 1)) (l0 :: ls) := by
  refine ⟨fun i hi => ?_, fun i hi => ?_⟩
  · refine hc i _ ?_
    cases i with
    | zero => simp
    | succ i =>
      have hi' : i < ls.length := by simpa using hi
      simp only [List.cons_append, List.nil_append, List.getElem?_cons_succ, List.getD_cons_succ, Nat.add_sub_cancel, Nat.succ_ne_zero, if_false]
      exact sliceVals_get p c ls i hi'
  · cases i with
    | zero => simpa using hx
    | succ i =>
      have hi' : i < ls.length := by simpa using hi
      simpa using hp.has i hi'

set_option maxRecDepth 100000 in
set_option maxHeartbeats 1000000 in
theorem bytes_any (t : Nat) (_ht : (t : Int) < 256) (b cp : Nat) (p : Nat → Option Addr) (c : Nat → Nat) (ls : List (List UInt8)) (n : Nat) (w : World) (hn : ls.length = n) (hn1 : 1 ≤ n) (hn2 : n ≤ 900) (hcp : n ≤ cp)
    (hword : ∀ w, Calls Tryz.prog 68 #[.int .u8 t] w fun e w' => e = .returned (.string (wordB t)) ∧ w = w') (hne : ((wordB t).toList.isEmpty) = false)
    (hfit : ∀ w, Parts w ⟨b, 0, none⟩ p c ls → Calls Tryz.prog 69 #[.int .u8 t, .slice (some ⟨b, 0, none⟩) n cp] w fun e w' => e = .returned (.bool true) ∧ Below w.heap.size w w')
    (hsum : (framed (word t :: ls)).length ≤ 140737488355328) (hp : Parts w ⟨b, 0, none⟩ p c ls) :
    Calls Tryz.prog 59 #[.int .u8 t, .slice (some ⟨b, 0, none⟩) n cp] w fun e w' =>
      ∃ v, e = .returned (.tuple #[v, .int .i64 0]) ∧ w'.ownsRow w.heap.size 5 1 v (framed (word t :: ls)).length ((framed (word t :: ls)).map Sha.bv) ∧ Below w.heap.size w w' := by
  have HW := Lib.hid hword
  have HF := Lib.hid hfit
  have Hn := Lib.hid hn
  clear hword hfit hn
  have hconv := fun W => run_bytes_of_string (P := Tryz.prog) W 9 70 5 (wordB t) Tryz.underlying9 Tryz.underlying70 Tryz.underlying5
  go_enter Tryz.func59, Tryz.ntmps59
  go_wp2_with fail
  refine (HW.out _).mono ?_
  rintro e w1 ⟨rfl, rfl⟩
  go_wp2_with fail
  refine (HF.out _ hp).mono ?_
  rintro e w1 ⟨rfl, hb1⟩
  go_wp2_with fail
  refine (HW.out _).mono ?_
  rintro e w2 ⟨rfl, rfl⟩
  go_wp2_with fail
  have hG := grownCap_ge w1 (wordB t).size 0 5
  clear hconv
  generalize grownCap w1 (wordB t).size 0 5 = G at *
  generalize hWd : (((w1.alloc _).alloc _).alloc _).drew = W
  obtain ⟨k0, k1, hx0, hx1, hxw, hbW, hpW⟩ := tag_world _ _ _ w1 b n cp G (wordB t) _ hG p c ls (hp.later hb1) Hn.out hcp W hWd.symm
  clear hWd
  refine (concatParts _ 1 n _ _ _ _ _ _ _ W k0 k1 hx0 hx1 rfl (by rw [sliceVals_len]; exact Hn.out) (by omega) (by omega) (by simp [Value.oneCell']) (sliceVals_one _ _ _)).mono ?_
  rintro e w2 ⟨v, rfl, hown, hb2⟩
  rcases hown.2 with ⟨_, h0⟩ | ⟨g, cap, cur, rfl, _⟩
  · omega
  have hcl := hown.cells rfl
  have hxw2 := hxw.later hb2
  have hpw2 := hpW.later hb2
  rw [← word_len] at hcl hxw2
  have hP := parts_cons (l0 := word t) hcl hxw2 hpw2
  have HP := Lib.hid hP
  clear hcl hxw2 hpw2 hP k0 k1 hx0 hx1 hxw hpW
  go_wp2_with fail
  refine (framed_any _ (1 + n) cap _ _ (word t :: ls) w2 (by simp [Hn.out]; omega) (by omega) hsum HP.out).mono ?_
  rintro e w3 ⟨v3, rfl, hown3, hb3⟩
  have hbb : Below w.heap.size w w3 := ((hb1.trans (hbW.mono hb1.size)).trans (hb2.mono (Nat.le_trans hb1.size hbW.size))).trans (hb3.mono (Nat.le_trans (Nat.le_trans hb1.size hbW.size) hb2.size))
  have hown4 : w3.ownsRow w.heap.size 5 1 v3 (framed (word t :: ls)).length ((framed (word t :: ls)).map Sha.bv) := owns_mono hown3 (Nat.le_trans (Nat.le_trans hb1.size hbW.size) hb2.size)
  clear hown3 hown
  go_wp2_with fail
  go_ret2
  exact ⟨_, rfl, hown4, hbb⟩
end Go.Proofs.YtfahbdakhbpfcaaGreat
