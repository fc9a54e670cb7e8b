/- Events at guarded operations: the guard lets them through. Over any program. -/
import Derived.Test.YtebpacmhdkgfeaaDoorEv
namespace Go.Proofs.YtebpacmhdkgfeaaDoor
open Go.RowKit
section
variable {P : Program} {ops : Array Oper} {rest : List Oper} {o : Oper} {a : Act} {Q : Exit → Act → World → Prop} {W : World}
theorem wpList_want (hw : Region.wanted o (yielded ops a.tmps) = true) (h : ∀ K : Act → World → Prop, (∀ a w, wpList P ops Q rest a w → K a w) → o.wp P a W K Q) : wpList P ops Q (o :: rest) a W :=
  wpList_step fun K hK => by simp only [hw, if_true]; exact h K hK
theorem eventG (hw : Region.wanted o (yielded ops a.tmps) = true) {v : Value} {w1 : World} (hrun : (execOp a.eval o).run P W = .ok (.value v) w1) (h : wpList P ops Q rest (a.put o.dst v) w1) : wpList P ops Q (o :: rest) a W := by
  refine wpList_want hw fun K hK => ?_
  unfold Oper.wp
  rw [hrun]
  exact hK _ _ h
/-- A variable read whole. -/
theorem ev_loadG (hw : Region.wanted o (yielded ops a.tmps) = true) (ty : TypeId) (x : Operand) (ho : o.op = .load ty x) {g : Nat} (hx : a.eval x = .pointer (some ⟨g, 0, none⟩)) {t : TypeId} {cs : Array Value} (hB : Box W g cs t)
    (hag : isAggT P ty = true) (hi : (P.info? ty).map (·.size) = some cs.size) (h : wpList P ops Q rest (a.put o.dst (.agg cs)) W) : wpList P ops Q (o :: rest) a W := by
  cases hu : P.underlying ty with
  | none => simp [isAggT, hu] at hag
  | some d =>
    have hd : (match d with | .struct _ | .array _ _ => true | _ => false) = true := by unfold isAggT at hag; rw [hu] at hag; cases d <;> simp_all
    refine eventG hw (v := .agg cs) (w1 := W) ?_ h
    unfold execOp
    simp only [ho, hx, Instr.loadAt, Instr.sureAddr, Sem.run_bind, Sem.run_pure, Result.andThen_ok, run_loadVar_row W g t ty cs (0, 0) d hB hu hd hi]
end
end Go.Proofs.YtebpacmhdkgfeaaDoor
