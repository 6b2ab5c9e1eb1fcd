/- A read argument opened: a []byte field as the bytes that it has, a [][]byte field as the segments that it has, each with the bound that the reach gives. -/
import Derived.Test.YtafichokaofngaaGreatDoorLaw
import Derived.Deep.Matrix
import Derived.SizedLaws
namespace Go.Proofs.YtafichokaofngaaGreatDoor
open Go.ChangeShapes Go.WideShapes Go.Deep

def toU8 (z : Int) : UInt8 := UInt8.ofNat z.toNat

theorem bv_toU8 {z : Int} (h : (Lit.int .u8 z).wf = true) : Sha.bv (toU8 z) = .int .u8 z := by
  have h1 : (0 : Int) ≤ z ∧ z ≤ 255 := by
    have h2 : (decide (IntKind.u8.min ≤ z) && decide (z ≤ IntKind.u8.max)) = true := h
    rw [Bool.and_eq_true] at h2
    exact ⟨of_decide_eq_true h2.1, of_decide_eq_true h2.2⟩
  have : ((toU8 z).toNat : Int) = z := by
    unfold toU8
    rw [UInt8.toNat_ofNat']
    omega
  simp only [Sha.bv, this]

theorem bytes_u8 : Tryz.prog.bytesOf 5 = 1 := by kernel_rfl
theorem bytes_row : Tryz.prog.bytesOf 22 = 24 := by kernel_rfl
theorem ccells_u8 : Tryz.prog.cellsOf 5 = 1 := by kernel_rfl
theorem ccells_row : Tryz.prog.cellsOf 22 = 1 := by kernel_rfl

/-- the cells of a row, as the bytes -/
theorem has_of_ints {w : World} {a : Addr} {n c : Nat} {zs : List Int} (hl : n ≤ c) (hz : zs.length = c) (hw : ∀ m ∈ zs, (Lit.int .u8 m).wf = true)
    (hcell : ∀ i, i < c → w.cell? (a.add i) = some (.int .u8 (zs.getD i 0))) : Has w (.slice (some a) n c) (((zs.take n).map toU8).map Sha.bv) := by
  refine .inr ⟨a, c, ?_, ?_, fun j u hu => ?_⟩
  · simp [Nat.min_eq_left (show n ≤ zs.length by omega)]
  · simp; omega
  · have hj : j < n := by
      have := (List.getElem?_eq_some_iff.1 hu).1
      simp at this
      omega
    have hj' : j < zs.length := by omega
    rw [hcell j (by omega)]
    simp only [List.getElem?_map, List.getElem?_take_of_lt hj, List.getElem?_eq_getElem hj', Option.map_some, Option.some.injEq] at hu
    rw [← hu, bv_toU8 (hw _ (List.getElem_mem hj'))]
    simp [List.getD, List.getElem?_eq_getElem hj']

section
variable {H : Type} {enc : TypeId × Value → H} {w : World} {base : Nat} {held : Bool}

theorem lits_length {k : IntKind} {zs : List Int} : (lits (H := H) k zs).length = zs.length := by simp [lits]

theorem open_bytes {fuel : Nat} {cs : List Value} {x : DataW H × List MemPlace} (h : DataW.trod enc Tryz.prog w base (fun _ => true) held fuel 22 cs = some x) :
    ∃ (p : Option Addr) (n c : Nat) (X : List UInt8), cs = [.slice p n c] ∧ Has w (.slice p n c) (X.map Sha.bv) ∧ X.length = n ∧ ∀ R, (∀ k ∈ x.1.weights Tryz.prog 22, k ≤ R) → n ≤ R := by
  rcases open_ints Tryz.underlying22 Tryz.underlying5 ccells_u8 h with ⟨rfl, rfl⟩ | ⟨a, n, c, zs, rfl, _, hl, _, hz, rfl, hcell, hw⟩
  · exact ⟨none, 0, 0, [], rfl, Has.nil w, rfl, fun _ _ => Nat.zero_le _⟩
  · simp only [if_true] at hz
    refine ⟨some a, n, c, (zs.take n).map toU8, rfl, has_of_ints hl hz hw (fun i hi => hcell i (by omega)), by simp; omega, fun R hR => ?_⟩
    have := hR ((lits (H := H) .u8 (zs.take n)).length + (lits (H := H) .u8 (zs.drop n)).length) (by simp [DataW.weights, Tryz.underlying22, bytes_u8])
    simp only [lits_length, List.length_take, List.length_drop] at this
    omega

theorem weights_mem_all {P : Program} {e : TypeId} : ∀ {ds : List (DataW H)} {d : DataW H}, d ∈ ds → ∀ n ∈ d.weights P e, n ∈ DataW.weightsAll P e ds
  | d0 :: ds, d, hd, n, hn => by
    simp only [DataW.weightsAll, List.mem_append]
    rcases List.mem_cons.1 hd with rfl | hd
    · exact Or.inl hn
    · exact Or.inr (weights_mem_all hd n hn)
  | [], _, hd, _, _ => by cases hd

theorem open_segs {fuel : Nat} {cs : List Value} {x : DataW H × List MemPlace} (h : DataW.trod enc Tryz.prog w base (fun _ => true) held fuel 37 cs = some x) :
    ∃ (p : Option Addr) (n c : Nat) (ls : List (List UInt8)), cs = [.slice p n c] ∧ Segs w p n ls ∧ ∀ R, (∀ k ∈ x.1.weights Tryz.prog 37, k ≤ R) → n ≤ R ∧ ∀ l ∈ ls, l.length ≤ R := by
  rcases open_int_rows Tryz.underlying37 Tryz.underlying22 Tryz.underlying5 ccells_row ccells_u8 h with ⟨rfl, rfl⟩ | ⟨a, n, c, A, L, C, Z, rfl, _, hl, _, rfl, hr⟩
  · exact ⟨none, 0, 0, [], rfl, ⟨rfl, .inl ⟨rfl, rfl⟩⟩, fun _ _ => ⟨Nat.zero_le _, fun l hl => by cases hl⟩⟩
  · have hlen : ∀ r, r < n → (((Z r).take (L r)).map toU8).length = L r := fun r hrn => by
      obtain ⟨_, h1, _, h3, _⟩ := hr r (by omega)
      simp; omega
    have hget : ∀ r, r < n → (((List.range n).map fun r => ((Z r).take (L r)).map toU8).getD r []) = ((Z r).take (L r)).map toU8 := fun r hrn => by simp [List.getD, hrn]
    refine ⟨some a, n, c, (List.range n).map fun r => ((Z r).take (L r)).map toU8, rfl, ⟨by simp, .inr ⟨a, A, C, rfl, ⟨fun i hi => ?_, fun i hi => ?_⟩⟩⟩, fun R hR => ?_⟩
    · have hi' : i < n := by simpa using hi
      rw [hget i hi', hlen i hi']
      exact (hr i (by omega)).1
    · have hi' : i < n := by simpa using hi
      rw [hget i hi', hlen i hi']
      obtain ⟨_, h1, _, h3, h4, h5, h6⟩ := hr i (by omega)
      cases hA : A i with
      | none =>
        have hC := h5 hA
        have hL : L i = 0 := by omega
        rw [hC, hL]
        simpa using Has.nil w
      | some a' => exact has_of_ints h1 h3 h4 (h6 a' hA).2
    · have hR' : ∀ r, r < n → L r ≤ R := fun r hrn => by
        obtain ⟨_, h1, _, h3, h4, h5, h6⟩ := hr r (by omega)
        cases hA : A r with
        | none =>
          have hC := h5 hA
          omega
        | some a' =>
          have hm : (Z r).length ∈ (intRow (H := H) .u8 (A r) (L r) (Z r)).weights Tryz.prog 22 := by
            rw [hA]
            simp only [intRow, DataW.weights, Tryz.underlying22, bytes_u8, lits_length, List.length_take, List.length_drop, List.mem_cons]
            left; omega
          have := hR _ (by
            simp only [DataW.weights, Tryz.underlying37, List.mem_cons, List.mem_append]
            right; left
            exact weights_mem_all (List.mem_map.2 ⟨r, List.mem_range.2 hrn, rfl⟩) _ hm)
          omega
      refine ⟨?_, fun l hl' => ?_⟩
      · have := hR _ (by
          simp only [DataW.weights, Tryz.underlying37, List.mem_cons]
          left; rfl)
        simp only [bytes_row, List.length_map, List.length_range] at this
        omega
      · obtain ⟨r, hr', rfl⟩ := List.mem_map.1 hl'
        have hrn := List.mem_range.1 hr'
        rw [hlen r hrn]
        exact hR' r hrn

end
end Go.Proofs.YtafichokaofngaaGreatDoor
