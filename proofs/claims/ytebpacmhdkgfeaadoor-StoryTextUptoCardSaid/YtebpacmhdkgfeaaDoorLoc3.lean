/- Loads from blocks that were there ahead of the call. Over any program. -/
import Derived.Test.YtebpacmhdkgfeaaDoorLoc2
namespace Go.Proofs.YtebpacmhdkgfeaaDoor
open Go.RowKit
section
variable {P : Program} {ops : Array Oper} {rest : List Oper} {o : Oper} {a : Act} {Q : Exit → Act → World → Prop} {W : World}
theorem ev_loadB1 {ty : TypeId} {x : Operand} {g j : Nat} {cs : List Value} {v : Value} {t : TypeId} [ha : OneT P ty] (hgd : o.guard = none) (hB : Box W g cs.toArray t) (ho : o.op = .load ty x) (hx : a.eval x = .pointer (some ⟨g, j, none⟩))
    (hv : cs[j]? = some v) (h : wpList P ops Q rest (a.put o.dst v) W) : wpList P ops Q (o :: rest) a W := by
  have hc : W.cell? ⟨g, j, none⟩ = some v := by rw [hB.cell j]; simpa using hv
  refine event hgd (v := v) (w1 := W) ?_ h
  unfold execOp
  simp only [ho, hx, Instr.loadAt, Instr.sureAddr, Sem.run_bind, Sem.run_pure, Result.andThen_ok, run_loadVar_cell ha W _ v hc]
theorem ev_loadB1G {ty : TypeId} {x : Operand} {g j : Nat} {cs : List Value} {v : Value} {t : TypeId} [ha : OneT P ty] (hw : Region.wanted o (yielded ops a.tmps) = true) (hB : Box W g cs.toArray t) (ho : o.op = .load ty x) (hx : a.eval x = .pointer (some ⟨g, j, none⟩))
    (hv : cs[j]? = some v) (h : wpList P ops Q rest (a.put o.dst v) W) : wpList P ops Q (o :: rest) a W := by
  have hc : W.cell? ⟨g, j, none⟩ = some v := by rw [hB.cell j]; simpa using hv
  refine eventG hw (v := v) (w1 := W) ?_ h
  unfold execOp
  simp only [ho, hx, Instr.loadAt, Instr.sureAddr, Sem.run_bind, Sem.run_pure, Result.andThen_ok, run_loadVar_cell ha W _ v hc]
theorem ev_loadBA {ty : TypeId} {x : Operand} {n g j : Nat} {cs vs : List Value} {t : TypeId} [ha : AggT P ty] [hn : SizeT P ty n] (hgd : o.guard = none) (hB : Box W g cs.toArray t) (ho : o.op = .load ty x) (hx : a.eval x = .pointer (some ⟨g, j, none⟩))
    (hs : Seg cs j n vs) (h : wpList P ops Q rest (a.put o.dst (.agg vs.toArray)) W) : wpList P ops Q (o :: rest) a W :=
  ev_loadR hgd ho hx (range_of_box hB hs) hs.len h
end
/-- A block that was there, as it is now. -/
theorem Loc.old {w0 w : World} {M : Nat → Prop} {l : List Item} {g : Nat} {cs : Array Value} {t : TypeId} (h : Loc w0 M w l) (hB : Box w0 g cs t) (hn : ¬ M g) : Box w g cs t := (h.mod.block g hB.lt hn).trans hB
theorem not_noM {g : Nat} : ¬ NoM g := fun h => h
end Go.Proofs.YtebpacmhdkgfeaaDoor
