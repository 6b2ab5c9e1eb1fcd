/- PLAIN LAW: the types that a type leads to, reckoned in a few rounds instead of as many as there are types; conditions: none. -/
import Derived.Test.YtbbfdnknbghffaaGreatDoorRows
import Derived.JoinedOf
import Derived.LaidMore
import Derived.Seven
namespace Go.Proofs.YtbbfdnknbghffaaGreatDoor

theorem grown_fix {P : Program} {l : List TypeId} (h : P.grow l = l) : ∀ n, P.grown n l = l
  | 0 => rfl
  | n + 1 => by
    unfold Program.grown
    rw [h]
    exact grown_fix h n
theorem grown_add {P : Program} : ∀ (a b : Nat) (l : List TypeId), P.grown (a + b) l = P.grown b (P.grown a l)
  | 0, b, l => by rw [Nat.zero_add]; rfl
  | a + 1, b, l => by
    rw [Nat.succ_add]
    show P.grown (a + b) (P.grow l) = P.grown b (P.grown a (P.grow l))
    exact grown_add a b _
/-- behind k rounds nothing more comes -/
def stableB (P : Program) (k : Nat) (t : TypeId) : Bool := decide (k ≤ P.types.size) && (P.grow (P.grown k [t]) == P.grown k [t])
theorem book_k {P : Program} {k : Nat} {t : TypeId} (h : stableB P k t = true) : P.book t = P.grown k [t] := by
  simp only [stableB, Bool.and_eq_true, decide_eq_true_eq, beq_iff_eq] at h
  unfold Program.book
  obtain ⟨d, hd⟩ := Nat.exists_eq_add_of_le h.1
  rw [hd, grown_add, grown_fix h.2]
theorem any_eq {α : Type} {f g : α → Bool} : ∀ {l : List α}, (∀ x ∈ l, f x = g x) → l.any f = l.any g
  | [], _ => rfl
  | x :: l, h => by
    simp only [List.any_cons]
    rw [h x (by simp), any_eq fun y hy => h y (by simp [hy])]
theorem all_eq {α : Type} {f g : α → Bool} : ∀ {l : List α}, (∀ x ∈ l, f x = g x) → l.all f = l.all g
  | [], _ => rfl
  | x :: l, h => by
    simp only [List.all_cons]
    rw [h x (by simp), all_eq fun y hy => h y (by simp [hy])]
def readK (P : Program) (k : Nat) (t : TypeId) : Bool := (P.grown k [t]).all fun u => P.fineRow u && (P.partsOf u).all ((P.grown k [t]).contains ·)
def mapsK (P : Program) (k : Nat) (t : TypeId) : Bool := (P.grown k [t]).any fun u => match P.underlying u with | some (.map _ _) => true | _ => false
def ifacesK (P : Program) (k : Nat) (t : TypeId) : Bool := (P.grown k [t]).any fun u => match P.underlying u with | some (.interface _) => true | _ => false
def veiledK (P : Program) (k : Nat) (t : TypeId) : Bool := (P.grown k [t]).any fun u => match P.underlying u with | some (.func ..) | some (.chan ..) | some .unsafePointer => true | _ => false
def wideK (P : Program) (k : Nat) (t : TypeId) : Bool :=
  (P.grown k [t]).any fun u => match P.underlying u with
    | some (.map k _) => (match P.underlying k with | some (.array _ _) | some (.struct _) => true | _ => false)
    | _ => false
def loopsK (P : Program) (k : Nat) (t : TypeId) : Bool := (P.grown k [t]).any fun u => (P.partsOf u).any fun v => (P.grown k [v]).contains u
theorem read_k {P : Program} {k : Nat} {t : TypeId} (h : stableB P k t = true) : P.readableRec t = readK P k t := by unfold Program.readableRec; rw [book_k h]; rfl
theorem maps_k {P : Program} {k : Nat} {t : TypeId} (h : stableB P k t = true) : P.mapsRec t = mapsK P k t := by unfold Program.mapsRec; rw [book_k h]; rfl
theorem ifaces_k {P : Program} {k : Nat} {t : TypeId} (h : stableB P k t = true) : P.ifacesRec t = ifacesK P k t := by unfold Program.ifacesRec; rw [book_k h]; rfl
theorem veiled_k {P : Program} {k : Nat} {t : TypeId} (h : stableB P k t = true) : P.veiledRec t = veiledK P k t := by unfold Program.veiledRec; rw [book_k h]; rfl
theorem wide_k {P : Program} {k : Nat} {t : TypeId} (h : stableB P k t = true) : P.wideKeysFrom t = wideK P k t := by unfold Program.wideKeysFrom; rw [book_k h]; rfl
/-- .. and so of all that it leads to -/
def stableAllB (P : Program) (k : Nat) (t : TypeId) : Bool := stableB P k t && (P.grown k [t]).all fun u => (P.partsOf u).all fun v => stableB P k v
theorem loops_k {P : Program} {k : Nat} {t : TypeId} (h : stableAllB P k t = true) : P.loopsFrom t = loopsK P k t := by
  simp only [stableAllB, Bool.and_eq_true, List.all_eq_true] at h
  unfold Program.loopsFrom loopsK
  rw [book_k h.1]
  refine any_eq fun u hu => any_eq fun v hv => ?_
  rw [book_k (h.2 u hu v hv)]
def ownK (P : Program) (k : Nat) (t : TypeId) : Bool := !veiledK P k t || (let L := P.libraryStructs; (P.grown k [t]).all fun u => !(P.libraryStructIn L u && veiledK P k u))
theorem own_no {P : Program} {k : Nat} {t : TypeId} (h : stableB P k t = true) (hv : veiledK P k t = false) : P.veiledOwn t = true := by
  unfold Program.veiledOwn
  rw [veiled_k h, hv]
  rfl
end Go.Proofs.YtbbfdnknbghffaaGreatDoor
