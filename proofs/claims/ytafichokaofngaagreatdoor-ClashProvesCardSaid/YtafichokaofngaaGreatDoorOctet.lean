/- WALKS: package octet's numbers as bytes; conditions: none. -/
import Derived.Test.YtafichokaofngaaGreatDoorProg
import Derived.Test.YtafichokaofngaaGreatDoorBase
import Derived.Test.YtafichokaofngaaGreatDoorSha
import Derived.KernelRfl
namespace Go.Proofs.YtafichokaofngaaGreatDoor
open Go.RowKit

set_option maxRecDepth 100000 in
set_option maxHeartbeats 400000 in
theorem width64 (w : World) : Calls Tryz.prog 233 #[] w fun e w' => e = .returned (.int .i64 8) ∧ w = w' := by
  go_enter Tryz.func233, Tryz.ntmps233
  go_wp2
  go_rounds 9
  go_ret
  exact ⟨rfl, rfl⟩

theorem make8 (w : World) : (Instr.makeSlice 22 (.int .i64 8) (.int .i64 8)).run Tryz.prog w = .ok (.slice (some ⟨w.heap.size, 0, none⟩) 8 8) (w.alloc (.cells #[.int .u8 0, .int .u8 0, .int .u8 0, .int .u8 0, .int .u8 0, .int .u8 0, .int .u8 0, .int .u8 0] 5)) := by kernel_rfl

theorem bv_ofNat (n : Nat) : Sha.bv (UInt8.ofNat n) = .int .u8 ((n : Int) % 256) := by
  simp [Sha.bv]

/-- the cells of a number's eight bytes, as the walk spells them -/
theorem be64_cells (x : Nat) (hx : (x : Int) < 18446744073709551616) :
    #[Value.int .u8 ((x : Int) / 72057594037927936), .int .u8 ((x : Int) / 281474976710656 % 256), .int .u8 ((x : Int) / 1099511627776 % 256), .int .u8 ((x : Int) / 4294967296 % 256),
      .int .u8 ((x : Int) / 16777216 % 256), .int .u8 ((x : Int) / 65536 % 256), .int .u8 ((x : Int) / 256 % 256), .int .u8 ((x : Int) % 256)] = ((Sha.be64 x).map Sha.bv).toArray := by
  have h : (x : Int) / 72057594037927936 = (x : Int) / 72057594037927936 % 256 := by omega
  rw [h]
  simp only [Sha.be64, List.map_cons, List.map_nil, bv_ofNat]
  simp

set_option maxRecDepth 100000 in
set_option maxHeartbeats 1000000 in
theorem big64 (x : Nat) (hx : (x : Int) < 18446744073709551616) (w : World) : Calls Tryz.prog 198 #[.int .u64 x] w fun e w' =>
    e = .returned (.slice (some ⟨w.heap.size, 0, none⟩) 8 8) ∧ w' = w.alloc (.cells ((Sha.be64 x).map Sha.bv).toArray 5) := by
  have hmk := make8
  have HC := Lib.hid (be64_cells x hx)
  go_enter Tryz.func198, Tryz.ntmps198
  go_wp2_with fail
  refine (width64 _).mono ?_
  rintro e w' ⟨rfl, rfl⟩
  go_wp2
  go_rounds 9
  go_ret
  exact ⟨rfl, by rw [← HC.out]⟩
end Go.Proofs.YtafichokaofngaaGreatDoor
