/- PLAIN LAW: a load of a whole row in a drawn region; conditions: none. -/
import Derived.Test.YtbbfdnknbghffaaGreatDoorGrow
namespace Go.Proofs.YtbbfdnknbghffaaGreatDoor
open Go.RowKit

theorem stepV_load {P : Program} {w : World} {op : Oper} {ρ : Operand → Value} {K : Value → World → Prop} (ty : TypeId) (x : Operand) (ho : op.op = .load ty x)
    (ad : Addr) (hx : ρ x = .pointer (some ad)) (cs : Array Value) (d : TypeDesc) (hc : ∀ j v, cs.toList[j]? = some v → w.cell? (ad.add j) = some v)
    (hu : P.underlying ty = some d) (hd : d.isRow = true) (hi : (P.info? ty).map (·.size) = some cs.size) (h : K (.agg cs) w) : stepV P op ρ w K := by
  have hl := run_loadVar_at (P := P) w ad ty cs.toList d hc hu hd (by simpa using hi)
  unfold stepV execOp
  simp only [ho, hx, Instr.loadAt, Instr.sureAddr, Sem.run_bind, Sem.run_pure, Result.andThen_ok, hl, Array.toArray_toList]
  exact h
theorem setRow_same {w : World} {b : Nat} {t : TypeId} {cs : Array Value} (h : Row w b t cs) : w.setRow b cs = w := by
  have hm : (w.setRow b cs).heap = w.heap := by
    apply Array.ext_getElem?
    intro i
    by_cases hi : i = b
    · subst hi
      have h' : w.heap[i]? = some (.cells cs t (0, 0)) := h
      rw [setRow_heap w i cs cs t (0, 0) h', h']
    · exact Go.setRow_other w b i cs hi
  show ({ w with heap := (w.setRow b cs).heap } : World) = w
  rw [hm]
/-- a store of what lies there already -/
theorem stepV_store_same {P : Program} {w : World} {op : Oper} {ρ : Operand → Value} {K : Value → World → Prop} (ty : TypeId) (x y : Operand) (ho : op.op = .store ty x y)
    (g : Nat) (hx : ρ x = .pointer (some ⟨g, 0, none⟩)) (cells : Array Value) (hy : ρ y = .agg cells) (t : TypeId) (hg : Row w g t cells) (hi : (P.info? ty).map (·.size) = some cells.size) (h1 : cells.all (·.oneCell') = true) (hK : K undef w) : stepV P op ρ w K := by
  have hr := run_storeVar_row (P := P) w g t ty cells cells hg hi rfl h1
  rw [setRow_same hg] at hr
  unfold stepV execOp
  simp only [ho, Instr.storeAt, hx, hy, Instr.sureAddr, Sem.run_bind, Sem.run_pure, Result.andThen_ok, hr]
  exact hK
end Go.Proofs.YtbbfdnknbghffaaGreatDoor
