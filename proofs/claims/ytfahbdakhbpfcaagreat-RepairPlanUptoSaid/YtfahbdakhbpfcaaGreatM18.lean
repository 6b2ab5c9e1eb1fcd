/-
  Tags: WALK: tag.Bytes at the tags of one part that may be anything, and of two digests; conditions: the part is at most 2^47 - 4096 bytes.
-/
import Derived.Test.YtfahbdakhbpfcaaGreatM17
namespace Go.Proofs.YtfahbdakhbpfcaaGreat
open Go.RowKit

theorem Has.slice {w : World} {v : Value} {xs : List Value} (h : Has w v xs) : ∃ a n c, v = .slice a n c := by
  rcases h with ⟨rfl, _⟩ | ⟨a, c, rfl, _, _⟩
  · exact ⟨_, _, _, rfl⟩
  · exact ⟨_, _, _, rfl⟩
theorem Has.len {w : World} {p : Option Addr} {n c : Nat} {xs : List Value} (h : Has w (.slice p n c) xs) : n = xs.length := by
  rcases h with ⟨h, rfl⟩ | ⟨a, c', h, _, _⟩
  · simp only [Value.slice.injEq] at h
    exact h.2.1
  · simp only [Value.slice.injEq] at h
    exact h.2.1
theorem be64_len (n : Nat) : (Sha.be64 n).length = 8 := rfl
theorem framed2_len (a b : List UInt8) : (framed [a, b]).length = a.length + b.length + 16 := by
  simp [framed, be64_len]
  omega
theorem framed3_len (a b c : List UInt8) : (framed [a, b, c]).length = a.length + b.length + c.length + 24 := by
  simp [framed, be64_len]
  omega
theorem wordlen4 : (word 4).length = 18 := by decide
theorem wordlen6 : (word 6).length = 15 := by decide
theorem wordlen8 : (word 8).length = 14 := by decide

theorem parts_one {w : World} {b : Nat} {p : Option Addr} {n c : Nat} {X : List UInt8} (hc : w.cell? ⟨b, 0, none⟩ = some (.slice p n c)) (hx : Has w (.slice p n c) (X.map Sha.bv)) :
    Parts w ⟨b, 0, none⟩ (fun _ => p) (fun _ => c) [X] := by
  have hn : n = X.length := by simpa using hx.len
  subst hn
  refine ⟨fun i hi => ?_, fun i hi => ?_⟩
  · obtain rfl : i = 0 := by simpa using hi
    simpa [Addr.add] using hc
  · obtain rfl : i = 0 := by simpa using hi
    simpa using hx
theorem parts_two {w : World} {b : Nat} {p q : Option Addr} {n c m d : Nat} {X Y : List UInt8} (hc : w.cell? ⟨b, 0, none⟩ = some (.slice p n c)) (hx : Has w (.slice p n c) (X.map Sha.bv))
    (hd : w.cell? ⟨b, 1, none⟩ = some (.slice q m d)) (hy : Has w (.slice q m d) (Y.map Sha.bv)) :
    Parts w ⟨b, 0, none⟩ (fun i => if i = 0 then p else q) (fun i => if i = 0 then c else d) [X, Y] := by
  have hn : n = X.length := by simpa using hx.len
  have hm : m = Y.length := by simpa using hy.len
  subst hn hm
  refine ⟨fun i hi => ?_, fun i hi => ?_⟩
  · rcases i with _ | _ | i
    · simpa [Addr.add] using hc
    · simpa [Addr.add] using hd
    · simp only [List.length_cons, List.length_nil] at hi
      omega
  · rcases i with _ | _ | i
    · simpa using hx
    · simpa using hy
    · simp only [List.length_cons, List.length_nil] at hi
      omega

theorem tag8_one (b cp : Nat) (p : Option Addr) (n c : Nat) (X : List UInt8) (w : World) (hcp : 1 ≤ cp) (hm : X.length ≤ 140737488351232) (hc : w.cell? ⟨b, 0, none⟩ = some (.slice p n c)) (hx : Has w (.slice p n c) (X.map Sha.bv)) :
    Calls Tryz.prog 59 #[.int .u8 (8 : Nat), .slice (some ⟨b, 0, none⟩) 1 cp] w fun e w' =>
      ∃ v, e = .returned (.tuple #[v, .int .i64 0]) ∧ w'.ownsRow w.heap.size 5 1 v (framed [word 8, X]).length ((framed [word 8, X]).map Sha.bv) ∧ Below w.heap.size w w' :=
  bytes_any 8 (by decide) b cp _ _ [X] 1 w rfl (by omega) (by omega) hcp word8 (by kernel_rfl) (fun w' hp => fit8 b _ _ _ cp w' (by simpa [Addr.add] using hp.cell 0 (by simp)))
    (by rw [framed2_len, wordlen8]; omega) (parts_one hc hx)
theorem tag4_one (b cp : Nat) (p : Option Addr) (n c : Nat) (X : List UInt8) (w : World) (hcp : 1 ≤ cp) (hm : X.length ≤ 140737488351232) (hc : w.cell? ⟨b, 0, none⟩ = some (.slice p n c)) (hx : Has w (.slice p n c) (X.map Sha.bv)) :
    Calls Tryz.prog 59 #[.int .u8 (4 : Nat), .slice (some ⟨b, 0, none⟩) 1 cp] w fun e w' =>
      ∃ v, e = .returned (.tuple #[v, .int .i64 0]) ∧ w'.ownsRow w.heap.size 5 1 v (framed [word 4, X]).length ((framed [word 4, X]).map Sha.bv) ∧ Below w.heap.size w w' :=
  bytes_any 4 (by decide) b cp _ _ [X] 1 w rfl (by omega) (by omega) hcp word4 (by kernel_rfl) (fun w' hp => fit4 b _ _ _ cp w' (by simpa [Addr.add] using hp.cell 0 (by simp)))
    (by rw [framed2_len, wordlen4]; omega) (parts_one hc hx)
theorem tag6_two (b cp : Nat) (p q : Option Addr) (c d : Nat) (X Y : List UInt8) (w : World) (hcp : 2 ≤ cp) (hX : X.length = 32) (hY : Y.length = 32) (hc : w.cell? ⟨b, 0, none⟩ = some (.slice p 32 c)) (hx : Has w (.slice p 32 c) (X.map Sha.bv))
    (hd : w.cell? ⟨b, 1, none⟩ = some (.slice q 32 d)) (hy : Has w (.slice q 32 d) (Y.map Sha.bv)) :
    Calls Tryz.prog 59 #[.int .u8 (6 : Nat), .slice (some ⟨b, 0, none⟩) 2 cp] w fun e w' =>
      ∃ v, e = .returned (.tuple #[v, .int .i64 0]) ∧ w'.ownsRow w.heap.size 5 1 v (framed [word 6, X, Y]).length ((framed [word 6, X, Y]).map Sha.bv) ∧ Below w.heap.size w w' :=
  bytes_any 6 (by decide) b cp _ _ [X, Y] 2 w rfl (by omega) (by omega) hcp word6 (by kernel_rfl)
    (fun w' hp => fit6 b _ _ _ _ cp w' (by have := hp.cell 0 (by simp); simp [Addr.add, hX] at this; exact this) (by have := hp.cell 1 (by simp); simp [Addr.add, hY] at this; exact this))
    (by rw [framed3_len, wordlen6, hX, hY]; omega) (parts_two hc hx hd hy)

theorem wordlen9 : (word 9).length = 15 := by decide
theorem word9 (w : World) : Calls Tryz.prog 68 #[.int .u8 9] w fun e w' => e = .returned (.string (wordB 9)) ∧ w = w' := by
  go_enter Tryz.func68, Tryz.ntmps68
  go_wp2
  go_ret
  exact ⟨rfl, rfl⟩
set_option maxRecDepth 100000 in
set_option maxHeartbeats 1000000 in
theorem fit9 (b : Nat) (p q : Option Addr) (c d cp : Nat) (w : World) (hc : w.cell? ⟨b, 0, none⟩ = some (.slice p 16 c)) (hd : w.cell? ⟨b, 1, none⟩ = some (.slice q 4 d)) :
    Calls Tryz.prog 69 #[.int .u8 9, .slice (some ⟨b, 0, none⟩) 2 cp] w fun e w' => e = .returned (.bool true) ∧ Below w.heap.size w w' := by
  have hmf : ∀ (fn : Fn) (first cap : Array Value) (w : World), (Instr.makeFunc fn first cap).run Tryz.prog w = .ok (.func fn first cap) w := fun _ _ _ _ => rfl
  have hl := block_lt_of_cell hc
  have hl1 : b < w.heap.size + 1 := Nat.lt_succ_of_lt hl
  have hl2 : b < w.heap.size + 1 + 1 := Nat.lt_succ_of_lt hl1
  go_enter Tryz.func69, Tryz.ntmps69
  go_wp2
  go_rounds 3
  go_ret
  exact ⟨rfl, (((Below.refl _ _).alloc (Nat.le_refl _) _).alloc (by simp) _).alloc (by simp; omega) _⟩
theorem tag9_two (b cp : Nat) (p q : Option Addr) (c d : Nat) (X Y : List UInt8) (w : World) (hcp : 2 ≤ cp) (hX : X.length = 16) (hY : Y.length = 4) (hc : w.cell? ⟨b, 0, none⟩ = some (.slice p 16 c)) (hx : Has w (.slice p 16 c) (X.map Sha.bv))
    (hd : w.cell? ⟨b, 1, none⟩ = some (.slice q 4 d)) (hy : Has w (.slice q 4 d) (Y.map Sha.bv)) :
    Calls Tryz.prog 59 #[.int .u8 (9 : Nat), .slice (some ⟨b, 0, none⟩) 2 cp] w fun e w' =>
      ∃ v, e = .returned (.tuple #[v, .int .i64 0]) ∧ w'.ownsRow w.heap.size 5 1 v (framed [word 9, X, Y]).length ((framed [word 9, X, Y]).map Sha.bv) ∧ Below w.heap.size w w' :=
  bytes_any 9 (by decide) b cp _ _ [X, Y] 2 w rfl (by omega) (by omega) hcp word9 (by kernel_rfl)
    (fun w' hp => fit9 b _ _ _ _ cp w' (by have := hp.cell 0 (by simp); simp [Addr.add, hX] at this; exact this) (by have := hp.cell 1 (by simp); simp [Addr.add, hY] at this; exact this))
    (by rw [framed3_len, wordlen9, hX, hY]; omega) (parts_two hc hx hd hy)
end Go.Proofs.YtfahbdakhbpfcaaGreat
