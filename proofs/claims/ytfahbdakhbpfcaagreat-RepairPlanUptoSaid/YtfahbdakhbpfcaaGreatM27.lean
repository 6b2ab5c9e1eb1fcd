/-
  Cmp: WALK: ring.Order's own comparison: the first difference of two digests, else of the numbers; conditions: the digests are there.
  SortL: LAID, by the kit's tool in its plain mode: the shelf's contract of slices.SortFunc at this seat's numbers (the numbers are this seat's own: print it anew at another); conditions: none.
-/
import Derived.Test.YtfahbdakhbpfcaaGreatM26
import Derived.Ground.SlsfProg
import Derived.Shelf.SlSortCmp.NoneTotal
import Derived.Test.YtfahbdakhbpfcaaGreatProg
namespace Go.Proofs.YtfahbdakhbpfcaaGreat
open Go.RowKit

/-- n digests in one block -/
def Digs (w : World) (db n : Nat) (D : Nat → List UInt8) : Prop := ∀ a k, a < n → k < 32 → w.cell? ⟨db, a * 32 + k, none⟩ = some (Sha.bv (Sha.at8 (D a) k))
/-- a server's place: its digest, then its number -/
def key (D : Nat → List UInt8) (a : Nat) : List Nat := (D a).map UInt8.toNat ++ [a]

set_option maxRecDepth 100000 in
set_option maxHeartbeats 2000000 in
theorem cmp_at (n bb db : Nat) (D : Nat → List UInt8) (a b : Nat) (W : World) (hn : n ≤ 32) (ha : a < n) (hb : b < n) (hD : ∀ i, i < n → (D i).length = 32)
    (hbx : W.cell? ⟨bb, 0, none⟩ = some (.slice (some ⟨db, 0, none⟩) n n)) (hdg : Digs W db n D) :
    Calls Tryz.prog 34 #[.int .i64 a, .int .i64 b, .pointer (some ⟨bb, 0, none⟩)] W fun e w' => e = .returned (.int .i64 (cmpK (key D a) (key D b))) ∧ ∃ q, w' = W.drewN q := by
  go_enter Tryz.func34, Tryz.ntmps34
  go_wp2_with fail
  go_loopw [7] (fun i wr => ∃ k : Nat, k ≤ 32 ∧ i = .int .i64 k ∧ (∀ j, j < k → Sha.at8 (D a) j = Sha.at8 (D b) j) ∧ ∃ q, wr = W.drewN q) (fun i _ => 32 - (intOf i).toNat)
  case atStart => exact ⟨0, Nat.zero_le _, rfl, fun j hj => absurd hj (Nat.not_lt_zero _), 0, rfl⟩
  case round =>
    obtain ⟨k, hk, rfl, hsame, q, rfl⟩ := hrel
    have hai : (a : Int) < (n : Int) := by omega
    have hbi : (b : Int) < (n : Int) := by omega
    by_cases hlt : k < 32
    · have hki : (k : Int) < 32 := by omega
      have ca := hdg a k ha hlt
      have cb := hdg b k hb hlt
      have HS := Lib.hid hsame
      have HDG := Lib.hid hdg
      have HDL := Lib.hid hD
      clear hsame hdg hD
      unfold Sha.bv at ca cb
      by_cases heq : Sha.at8 (D a) k = Sha.at8 (D b) k
      · rw [← heq] at cb
        have HE := Lib.hid heq
        clear heq
        go_wp2_with fail
        go_quiet (fail)
        go_wp2_with fail
        go_roundw
        case rel =>
          refine ⟨k + 1, by omega, by go_num, fun j hj => ?_, q + nq, rfl⟩
          by_cases hjk : j = k
          · subst hjk
            exact HE.out
          · exact HS.out j (by omega)
        case measure => simp [intOf]; omega
      · have hx : ((Sha.at8 (D a) k).toNat : Int) ≤ 255 := by have := (Sha.at8 (D a) k).toNat_lt; omega
        have hy : ((Sha.at8 (D b) k).toNat : Int) ≤ 255 := by have := (Sha.at8 (D b) k).toNat_lt; omega
        have hxy : (((Sha.at8 (D a) k).toNat : Int) != ((Sha.at8 (D b) k).toNat : Int)) = true := by
          simp only [bne_iff_ne, ne_eq]
          intro e
          exact heq (UInt8.toNat_inj.1 (by omega))
        have e1 : IntKind.i64.wrap ((Sha.at8 (D a) k).toNat : Int) = ((Sha.at8 (D a) k).toNat : Int) := IntWalk.i64_in _ ⟨by omega, by omega⟩
        have e2 : IntKind.i64.wrap ((Sha.at8 (D b) k).toNat : Int) = ((Sha.at8 (D b) k).toNat : Int) := IntWalk.i64_in _ ⟨by omega, by omega⟩
        have e3 : IntKind.i64.wrap (((Sha.at8 (D a) k).toNat : Int) - ((Sha.at8 (D b) k).toNat : Int)) = ((Sha.at8 (D a) k).toNat : Int) - ((Sha.at8 (D b) k).toNat : Int) := IntWalk.i64_in _ ⟨by omega, by omega⟩
        have hres : cmpK (key D a) (key D b) = ((Sha.at8 (D a) k).toNat : Int) - ((Sha.at8 (D b) k).toNat : Int) := by
          have la := HDL.out a ha
          have lb := HDL.out b hb
          refine cmpK_at ((D a).map UInt8.toNat) ((D b).map UInt8.toNat) [a] [b] k (by simp [la, lb]) (fun j hj => ?_) _ _ (by simp [Sha.at8, la, hlt]) (by simp [Sha.at8, lb, hlt]) (fun e => heq (UInt8.toNat_inj.1 e))
          have h1 : (D a)[j]? = some ((D a)[j]'(by omega)) := List.getElem?_eq_getElem _
          have h2 : (D b)[j]? = some ((D b)[j]'(by omega)) := List.getElem?_eq_getElem _
          have h3 := HS.out j hj
          simp only [Sha.at8, List.getD, h1, h2, Option.getD_some] at h3
          simp only [List.getElem?_map, h1, h2, Option.map_some, h3]
        have HR := Lib.hid hres
        clear hres heq
        go_wp2_with fail
        go_quiet (fail)
        go_wp2_with fail
        go_quiet (fail)
        go_wp2_with fail
        go_ret
        exact ⟨by rw [HR.out]; rfl, _, by rw [World.drewN_drewN, World.drewN_drewN]⟩
    · obtain rfl : k = 32 := by omega
      have hres : cmpK (key D a) (key D b) = (a : Int) - (b : Int) := by
        have la := hD a ha
        have lb := hD b hb
        have hab : D a = D b := List.ext_getElem? fun j => by
          by_cases hj : j < 32
          · have h1 : (D a)[j]? = some ((D a)[j]'(by omega)) := List.getElem?_eq_getElem _
            have h2 : (D b)[j]? = some ((D b)[j]'(by omega)) := List.getElem?_eq_getElem _
            have h3 := hsame j hj
            simp only [Sha.at8, List.getD, h1, h2, Option.getD_some] at h3
            rw [h1, h2, h3]
          · rw [List.getElem?_eq_none (by omega), List.getElem?_eq_none (by omega)]
        unfold key
        rw [hab, cmpK_eq, cmpK_one]
      have HR := Lib.hid hres
      clear hres hsame hdg hD
      go_wp2_with fail
      go_ret
      exact ⟨by rw [HR.out]; rfl, q, rfl⟩
end Go.Proofs.YtfahbdakhbpfcaaGreat
namespace Go.Proofs.YtfahbdakhbpfcaaGreat
open Go.Shelf
def sortL_ren : Go.Shelf.Ren := ⟨fun | 6 => 33 | 15 => 42 | 14 => 41 | 28 => 55 | 29 => 56 | 20 => 47 | 21 => 48 | 22 => 49 | 23 => 50 | 24 => 51 | 25 => 52 | 26 => 53 | 27 => 54 | 46 => 61 | 47 => 62 | 48 => 63 | 49 => 64 | 50 => 65 | 57 => 75 | n => n, fun | 22 => 38 | 24 => 3 | 25 => 63 | 3 => 3 | 39 => 85 | 0 => 0 | 53 => 76 | 55 => 91 | 4 => 4 | 46 => 94 | 45 => 93 | 50 => 98 | 5 => 5 | 9 => 9 | 66 => 107 | 70 => 111 | 76 => 123 | 77 => 124 | n => n, fun | n => n⟩
theorem sortL : Go.Proofs.SlLaysF.n6 Tryz.prog sortL_ren := {
  mixed := by kernel_rfl
  f6 := ⟨Tryz.f33.name, by decide, Tryz.func33.trans (congrArg some (by kernel_rfl))⟩
  f14 := ⟨Tryz.f41.name, by decide, Tryz.func41.trans (congrArg some (by kernel_rfl))⟩
  f15 := Tryz.func42.trans (congrArg some (by kernel_rfl))
  f20 := ⟨Tryz.f47.name, by decide, Tryz.func47.trans (congrArg some (by kernel_rfl))⟩
  f21 := ⟨Tryz.f48.name, by decide, Tryz.func48.trans (congrArg some (by kernel_rfl))⟩
  f22 := ⟨Tryz.f49.name, by decide, Tryz.func49.trans (congrArg some (by kernel_rfl))⟩
  f23 := ⟨Tryz.f50.name, by decide, Tryz.func50.trans (congrArg some (by kernel_rfl))⟩
  f24 := ⟨Tryz.f51.name, by decide, Tryz.func51.trans (congrArg some (by kernel_rfl))⟩
  f25 := ⟨Tryz.f52.name, by decide, Tryz.func52.trans (congrArg some (by kernel_rfl))⟩
  f26 := ⟨Tryz.f53.name, by decide, Tryz.func53.trans (congrArg some (by kernel_rfl))⟩
  f27 := ⟨Tryz.f54.name, by decide, Tryz.func54.trans (congrArg some (by kernel_rfl))⟩
  f28 := Tryz.func55.trans (congrArg some (by kernel_rfl))
  f29 := Tryz.func56.trans (congrArg some (by kernel_rfl))
  f46 := ⟨Tryz.f61.name, by decide, Tryz.func61.trans (congrArg some (by kernel_rfl))⟩
  f47 := Tryz.func62.trans (congrArg some (by kernel_rfl))
  f48 := Tryz.func63.trans (congrArg some (by kernel_rfl))
  f49 := ⟨Tryz.f64.name, by decide, Tryz.func64.trans (congrArg some (by kernel_rfl))⟩
  f50 := ⟨Tryz.f65.name, by decide, Tryz.func65.trans (congrArg some (by kernel_rfl))⟩
  f57 := ⟨Tryz.f75.name, by decide, Tryz.func75.trans (congrArg some (by kernel_rfl))⟩
  t0 := Tryz.underlying0
  a0 := Tryz.isAgg0
  z0 := Tryz.sizeOf0
  v0 := Tryz.zeroValue0
  t3 := Tryz.underlying3
  a3 := Tryz.isAgg3
  z3 := Tryz.sizeOf3
  v3 := Tryz.zeroValue3
  t4 := Tryz.underlying4
  a4 := Tryz.isAgg4
  z4 := Tryz.sizeOf4
  v4 := Tryz.zeroValue4
  t5 := Tryz.underlying5
  a5 := Tryz.isAgg5
  z5 := Tryz.sizeOf5
  v5 := Tryz.zeroValue5
  t9 := Tryz.underlying9
  a9 := Tryz.isAgg9
  z9 := Tryz.sizeOf9
  v9 := Tryz.zeroValue9
  t22 := Tryz.underlying38
  a22 := Tryz.isAgg38
  z22 := Tryz.sizeOf38
  v22 := Tryz.zeroValue38
  a24 := Tryz.isAgg3
  z24 := Tryz.sizeOf3
  t25 := Tryz.underlying63
  a25 := Tryz.isAgg63
  z25 := Tryz.sizeOf63
  v25 := Tryz.zeroValue63
  t39 := Tryz.underlying85
  a39 := Tryz.isAgg85
  z39 := Tryz.sizeOf85
  v39 := Tryz.zeroValue85
  t45 := Tryz.underlying93
  a45 := Tryz.isAgg93
  z45 := Tryz.sizeOf93
  v45 := Tryz.zeroValue93
  t46 := Tryz.underlying94
  a46 := Tryz.isAgg94
  z46 := Tryz.sizeOf94
  v46 := Tryz.zeroValue94
  t50 := Tryz.underlying98
  a50 := Tryz.isAgg98
  z50 := Tryz.sizeOf98
  v50 := Tryz.zeroValue98
  t53 := Tryz.underlying76
  a53 := Tryz.isAgg76
  z53 := Tryz.sizeOf76
  v53 := Tryz.zeroValue76
  t55 := Tryz.underlying91
  a55 := Tryz.isAgg91
  z55 := Tryz.sizeOf91
  v55 := Tryz.zeroValue91
  t66 := Tryz.underlying107
  a66 := Tryz.isAgg107
  z66 := Tryz.sizeOf107
  v66 := Tryz.zeroValue107
  t70 := Tryz.underlying111
  a70 := Tryz.isAgg111
  z70 := Tryz.sizeOf111
  v70 := Tryz.zeroValue111
  t76 := Tryz.underlying123
  a76 := Tryz.isAgg123
  z76 := Tryz.sizeOf123
  v76 := Tryz.zeroValue123
  t77 := Tryz.underlying124
  a77 := Tryz.isAgg124
  z77 := Tryz.sizeOf124
  v77 := Tryz.zeroValue124 }
end Go.Proofs.YtfahbdakhbpfcaaGreat
