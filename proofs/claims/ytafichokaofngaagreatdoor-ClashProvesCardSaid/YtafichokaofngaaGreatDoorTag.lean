/- WALKS: package tag: the text of a tag, whether parts fit, the tagged bytes; condition: the whole is at most 2^47 bytes. -/
import Derived.Test.YtafichokaofngaaGreatDoorConcat
import Derived.Lib.SlBytesConst
namespace Go.Proofs.YtafichokaofngaaGreatDoor
open Go.RowKit

/-- the texts of the tags, as bytes -/
def wordB : Nat → ByteArray
  | 1 => ⟨#[115, 116, 114, 111, 110, 103, 114, 111, 111, 109, 32, 107, 101, 121]⟩
  | 2 => ⟨#[115, 116, 114, 111, 110, 103, 114, 111, 111, 109, 32, 105, 110, 100, 101, 120]⟩
  | 3 => ⟨#[115, 116, 114, 111, 110, 103, 114, 111, 111, 109, 32, 98, 108, 111, 99, 107]⟩
  | 4 => ⟨#[115, 116, 114, 111, 110, 103, 114, 111, 111, 109, 32, 115, 101, 103, 109, 101, 110, 116]⟩
  | 5 => ⟨#[115, 116, 114, 111, 110, 103, 114, 111, 111, 109, 32, 114, 111, 111, 116]⟩
  | 6 => ⟨#[115, 116, 114, 111, 110, 103, 114, 111, 111, 109, 32, 110, 111, 100, 101]⟩
  | 7 => ⟨#[115, 116, 114, 111, 110, 103, 114, 111, 111, 109, 32, 112, 97, 100]⟩
  | 8 => ⟨#[115, 116, 114, 111, 110, 103, 114, 111, 111, 109, 32, 117, 101, 98]⟩
  | 9 => ⟨#[115, 116, 114, 111, 110, 103, 114, 111, 111, 109, 32, 114, 105, 110, 103]⟩
  | _ => ⟨#[]⟩

theorem word4 (w : World) : Calls Tryz.prog 148 #[.int .u8 4] w fun e w' => e = .returned (.string (wordB 4)) ∧ w = w' := by
  go_enter Tryz.func148, Tryz.ntmps148
  go_wp2
  go_ret
  exact ⟨rfl, rfl⟩
theorem word6 (w : World) : Calls Tryz.prog 148 #[.int .u8 6] w fun e w' => e = .returned (.string (wordB 6)) ∧ w = w' := by
  go_enter Tryz.func148, Tryz.ntmps148
  go_wp2
  go_ret
  exact ⟨rfl, rfl⟩
theorem word8 (w : World) : Calls Tryz.prog 148 #[.int .u8 8] w fun e w' => e = .returned (.string (wordB 8)) ∧ w = w' := by
  go_enter Tryz.func148, Tryz.ntmps148
  go_wp2
  go_ret
  exact ⟨rfl, rfl⟩

set_option maxRecDepth 100000 in
set_option maxHeartbeats 1000000 in
theorem fit8 (b : Nat) (p : Option Addr) (n c cp : Nat) (w : World) (hc : w.cell? ⟨b, 0, none⟩ = some (.slice p n c)) :
    Calls Tryz.prog 149 #[.int .u8 8, .slice (some ⟨b, 0, none⟩) 1 cp] w fun e w' => e = .returned (.bool true) ∧ Below w.heap.size w w' := by
  have hl := block_lt_of_cell hc
  go_enter Tryz.func149, Tryz.ntmps149
  go_wp2
  go_rounds 2
  go_ret
  exact ⟨rfl, (Below.refl _ _).alloc (Nat.le_refl _) _⟩
set_option maxRecDepth 100000 in
set_option maxHeartbeats 1000000 in
theorem fit4 (b : Nat) (p : Option Addr) (n c cp : Nat) (w : World) (hc : w.cell? ⟨b, 0, none⟩ = some (.slice p n c)) :
    Calls Tryz.prog 149 #[.int .u8 4, .slice (some ⟨b, 0, none⟩) 1 cp] w fun e w' => e = .returned (.bool true) ∧ Below w.heap.size w w' := by
  have hl := block_lt_of_cell hc
  go_enter Tryz.func149, Tryz.ntmps149
  go_wp2
  go_rounds 2
  go_ret
  exact ⟨rfl, (Below.refl _ _).alloc (Nat.le_refl _) _⟩
set_option maxRecDepth 100000 in
set_option maxHeartbeats 1000000 in
theorem fit6 (b : Nat) (p q : Option Addr) (c d cp : Nat) (w : World) (hc : w.cell? ⟨b, 0, none⟩ = some (.slice p 32 c)) (hd : w.cell? ⟨b, 1, none⟩ = some (.slice q 32 d)) :
    Calls Tryz.prog 149 #[.int .u8 6, .slice (some ⟨b, 0, none⟩) 2 cp] w fun e w' => e = .returned (.bool true) ∧ Below w.heap.size w w' := by
  have hmf : ∀ (fn : Fn) (first cap : Array Value) (w : World), (Instr.makeFunc fn first cap).run Tryz.prog w = .ok (.func fn first cap) w := fun _ _ _ _ => rfl
  have hl := block_lt_of_cell hc
  have hl1 : b < w.heap.size + 1 := Nat.lt_succ_of_lt hl
  have hl2 : b < w.heap.size + 1 + 1 := Nat.lt_succ_of_lt hl1
  go_enter Tryz.func149, Tryz.ntmps149
  go_wp2
  go_rounds 3
  go_ret
  exact ⟨rfl, (((Below.refl _ _).alloc (Nat.le_refl _) _).alloc (by simp) _).alloc (by simp; omega) _⟩
end Go.Proofs.YtafichokaofngaaGreatDoor
