/- WALK: clash.Proves of one text twice: false; conditions: none. -/
import Derived.Test.YtafichokaofngaaGreatDoorSlices
namespace Go.Proofs.YtafichokaofngaaGreatDoor
open Go.RowKit

set_option maxRecDepth 100000 in
set_option maxHeartbeats 1000000 in
theorem proves_same (p q : Option Addr) (n m c d : Nat) (x : List UInt8) (w : World) (hx : Has w (.slice p n c) (x.map Sha.bv)) (hy : Has w (.slice q m d) (x.map Sha.bv)) :
    Calls Tryz.prog 15 #[.agg #[.slice p n c, .slice q m d]] w fun e w' => e = .returned (.bool false) ∧ Below w.heap.size w w' := by
  have hb0 : Below w.heap.size w (w.alloc (.cells #[.slice p n c, .slice q m d] 54)) := (Below.refl _ _).alloc (Nat.le_refl _) _
  have H1 := Lib.hid (hx.later hb0)
  have H2 := Lib.hid (hy.later hb0)
  clear hx hy
  go_enter Tryz.func15, Tryz.ntmps15
  go_wp2
  go_quiet ((go_at_call 39; exact quiet_same (bytesEqual _ _ _ _ _ _ x x _ (H1.out.drewN _) (H2.out.drewN _))))
  go_wp2
  go_ret
  exact ⟨rfl, below_drewN hb0 _⟩
end Go.Proofs.YtafichokaofngaaGreatDoor
