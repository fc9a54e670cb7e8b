/- Events of a walk: a variable is boxed, made, loaded or stored whole, or one cell of it is stored: the world behind is a letter. Over any program. -/
import Derived.Test.YtebpacmhdkgfeaaDoorEq
namespace Go.Proofs.YtebpacmhdkgfeaaDoor
open Go.RowKit

theorem hide {p : Prop} (h : p) : Hid p := h
theorem unhide {p : Prop} (h : Hid p) : p := h
/-- Block g of w is a variable of type t that holds cs. -/
def Box (w : World) (g : Nat) (cs : Array Value) (t : TypeId) : Prop := w.heap[g]? = some (.cells cs t (0, 0))
/-- The walk stands still here. -/
def Stop (p : Prop) : Prop := p
theorem stop {p : Prop} (h : Stop p) : p := h
/-- Only block g has turned, and what is new. -/
structure Put (w w1 : World) (g : Nat) : Prop where
  os : w1.os = w.os
  tape : w1.tape = w.tape
  output : w1.output = w.output
  size : w.heap.size ≤ w1.heap.size
  block : ∀ k, k < w.heap.size → k ≠ g → w1.heap[k]? = w.heap[k]?
theorem Put.below {w0 w w1 : World} {g : Nat} (h : Below w0.heap.size w0 w) (hp : Put w w1 g) (hg : w0.heap.size ≤ g) : Below w0.heap.size w0 w1 :=
  h.trans ⟨hp.os, hp.tape, hp.output, hp.size, fun k hk => hp.block k (Nat.lt_of_lt_of_le hk h.size) (by omega)⟩
namespace Box
variable {w w1 : World} {g : Nat} {cs : Array Value} {t : TypeId}
theorem lt (h : Box w g cs t) : g < w.heap.size := (Array.getElem?_eq_some_iff.1 h).1
theorem cell (h : Box w g cs t) : ∀ j, w.cell? ⟨g, j, none⟩ = cs[j]? := fun j => cell_of_row w g j cs t (0, 0) h
theorem frozen (h : Box w g cs t) : ∀ j, w.frozen? ⟨g, j, none⟩ = false := fun j => frozen_of_row w g j cs t h
theorem below (h : Box w g cs t) (hb : Below w.heap.size w w1) : Box w1 g cs t := (hb.block g h.lt).trans h
theorem put (h : Box w g cs t) {g' : Nat} (hp : Put w w1 g') (hne : g ≠ g') : Box w1 g cs t := (hp.block g h.lt hne).trans h
theorem grown (h : Box w g cs t) {row : Option Nat} (hg : w.grownBy w1 row) (hne : some g ≠ row) : Box w1 g cs t := (hg.block g h.lt hne).trans h
theorem alloc (h : Box w g cs t) (o : Obj) : Box (w.alloc o) g cs t := (Below.heap_alloc w o g h.lt).trans h
theorem drewN (h : Box w g cs t) (n : Nat) : Box (w.drewN n) g cs t := h
theorem drew (h : Box w g cs t) : Box w.drew g cs t := h
theorem new (w : World) (cs : Array Value) (t : TypeId) : Box (w.alloc (.cells cs t)) w.heap.size cs t := heap_alloc_new w _
theorem set (h : Box w g cs t) (j : Nat) (v : Value) : Box (w.setCell ⟨g, j, none⟩ v) g (cs.setIfInBounds j v) t := heap_setCell_same w g j cs t v h
theorem set_ (h : Box w g cs t) (j : Nat) (v : Value) {cs' : Array Value} (hcs : cs.setIfInBounds j v = cs') : Box (w.setCell ⟨g, j, none⟩ v) g cs' t := by subst hcs; exact h.set j v
theorem setPut (w : World) (g j : Nat) (v : Value) : Put w (w.setCell ⟨g, j, none⟩ v) g := ⟨rfl, rfl, rfl, by simp, fun k _ hk => heap_setCell_other w ⟨g, j, none⟩ k v hk⟩
end Box

section
variable {P : Program} {ops : Array Oper} {rest : List Oper} {o : Oper} {a : Act} {Q : Exit → Act → World → Prop} {W : World}
/-- Only at the operation that writes slot N. -/
theorem gate {N : Tmp} (_h : o.dst = some N) (h : wpList P ops Q (o :: rest) a W) : wpList P ops Q (o :: rest) a W := h
theorem event (hgd : o.guard = none) {v : Value} {w1 : World} (hrun : (execOp a.eval o).run P W = .ok (.value v) w1) (h : wpList P ops Q rest (a.put o.dst v) w1) : wpList P ops Q (o :: rest) a W := by
  refine wpList_plain hgd fun K hK => ?_
  unfold Oper.wp
  rw [hrun]
  exact hK _ _ h
theorem ev_box (hgd : o.guard = none) (t : TypeId) (x : Operand) (ho : o.op = .box t x) {cs : Array Value} (hx : a.eval x = .agg cs)
    (h : ∀ g w1, Box w1 g cs t → Below W.heap.size W w1 → W.heap.size ≤ g → g < w1.heap.size → wpList P ops Q rest (a.put o.dst (.pointer (some ⟨g, 0, none⟩))) w1) : wpList P ops Q (o :: rest) a W := by
  refine event hgd (v := .pointer (some ⟨W.heap.size, 0, none⟩)) (w1 := W.alloc (.cells cs t)) ?_ (h _ _ (Box.new W cs t) (bl_alloc (Below.refl _ _) _) (Nat.le_refl _) (by simp))
  simp [execOp, ho, Instr.box, hx, Value.cells, newVar, newRow]
/-- A variable that is made: it holds the type's zero. -/
theorem ev_alloc (hgd : o.guard = none) (t : TypeId) (ho : o.op = .alloc t) {cs : Array Value} (hz : (P.info? t).map (·.zero) = some (some (.agg cs)))
    (h : ∀ g w1, Box w1 g cs t → Below W.heap.size W w1 → W.heap.size ≤ g → g < w1.heap.size → wpList P ops Q rest (a.put o.dst (.pointer (some ⟨g, 0, none⟩))) w1) : wpList P ops Q (o :: rest) a W := by
  refine event hgd (v := .pointer (some ⟨W.heap.size, 0, none⟩)) (w1 := W.alloc (.cells cs t)) ?_ (h _ _ (Box.new W cs t) (bl_alloc (Below.refl _ _) _) (Nat.le_refl _) (by simp))
  obtain ⟨i, hi, hzz⟩ := Option.map_eq_some_iff.1 hz
  simp [execOp, ho, Instr.alloc, zeroValue, typeInfo, hi, hzz, Value.cells, newVar, newRow]
/-- A variable read whole. -/
theorem ev_load (hgd : o.guard = none) (ty : TypeId) (x : Operand) (ho : o.op = .load ty x) {g : Nat} (hx : a.eval x = .pointer (some ⟨g, 0, none⟩)) {t : TypeId} {cs : Array Value} (hB : Box W g cs t)
    (hag : isAggT P ty = true) (hi : (P.info? ty).map (·.size) = some cs.size) (h : wpList P ops Q rest (a.put o.dst (.agg cs)) W) : wpList P ops Q (o :: rest) a W := by
  cases hu : P.underlying ty with
  | none => simp [isAggT, hu] at hag
  | some d => exact wpList_load_row hgd ty x ho g hx t cs (0, 0) d hB hu (by unfold isAggT at hag; rw [hu] at hag; cases d <;> simp_all) hi h
theorem gate0 (_h : o.dst = none) (h : wpList P ops Q (o :: rest) a W) : wpList P ops Q (o :: rest) a W := h
theorem gateS {t : TypeId} {p x : Operand} (_h : o.op = .store t p x) (h : wpList P ops Q (o :: rest) a W) : wpList P ops Q (o :: rest) a W := h
/-- A field, or the whole, is stored. -/
theorem ev_set (hgd : o.guard = none) (ty : TypeId) (p x : Operand) (ho : o.op = .store ty p x) {g j : Nat} (hp : a.eval p = .pointer (some ⟨g, j, none⟩)) {t : TypeId} {cs cs' : Array Value} (hB : Box W g cs t)
    {v : Value} (hv : a.eval x = v) (h1 : ∀ u ∈ v.cells.toList, u.oneCell' = true) (hi : (P.info? ty).map (·.size) = some v.cells.size) (hj : j + v.cells.size ≤ cs.size)
    (hcs : (cs.toList.take j ++ v.cells.toList ++ cs.toList.drop (j + v.cells.toList.length)).toArray = cs')
    (h : ∀ w1, Box w1 g cs' t → Put W w1 g → wpList P ops Q rest (a.put o.dst undef) w1) : wpList P ops Q (o :: rest) a W := by
  refine wpList_plain hgd fun K hK => ?_
  have hst := run_storeCells_at P g j t v.cells.toList 0 cs W hB (by simpa using hj) h1
  simp only [Nat.add_zero] at hst
  obtain ⟨i, hii, hsz⟩ := Option.map_eq_some_iff.1 hi
  have hst2 : (storeVar ty ⟨g, j, none⟩ v).run P W = .ok () (W.setRow g cs') := by
    subst hcs
    simp [storeVar, sizeOf, typeInfo, hii, hsz, hst]
  unfold Oper.wp execOp
  simp only [ho, hp, hv, Instr.storeAt, Instr.sureAddr, Sem.run_bind, Sem.run_pure, Result.andThen_ok, hst2]
  refine hK _ _ (h _ (setRow_heap W g cs cs' t (0, 0) hB) ⟨rfl, rfl, rfl, by simp, fun k _ hk => setRow_other W g k cs' hk⟩)
/-- The whole is stored. -/
theorem ev_setAll (hgd : o.guard = none) (ty : TypeId) (p x : Operand) (ho : o.op = .store ty p x) {g : Nat} (hp : a.eval p = .pointer (some ⟨g, 0, none⟩)) {t : TypeId} {cs vs : Array Value} (hB : Box W g cs t)
    (hv : a.eval x = .agg vs) (h1 : ∀ u ∈ vs.toList, u.oneCell' = true) (hi : (P.info? ty).map (·.size) = some vs.size) (hj : vs.size = cs.size)
    (h : ∀ w1, Box w1 g vs t → Put W w1 g → wpList P ops Q rest (a.put o.dst undef) w1) : wpList P ops Q (o :: rest) a W := by
  refine ev_set hgd ty p x ho hp hB hv (by simpa [Value.cells] using h1) (by simpa [Value.cells] using hi) (by simp [Value.cells]; omega) ?_ h
  simp only [Value.cells, List.take_zero, List.nil_append]
  rw [List.drop_of_length_le (by simp; omega)]
  simp
end

/-! ### A region that draws its order, reads, and calls what only makes new memory: one walk serves every order -/
/-- A world that has all that W has. -/
structure Ext (W : World) where
  w : World
  ok : Below W.heap.size W w
namespace Ext
variable {W : World}
instance : Nonempty (Ext W) := ⟨⟨W, Below.refl _ _⟩⟩
theorem cell (e : Ext W) {b o : Nat} (h : b < W.heap.size) : e.w.cell? ⟨b, o, none⟩ = W.cell? ⟨b, o, none⟩ := e.ok.cell (p := ⟨b, o, none⟩) h
theorem frozen (e : Ext W) {b o : Nat} (h : b < W.heap.size) : e.w.frozen? ⟨b, o, none⟩ = W.frozen? ⟨b, o, none⟩ := e.ok.frozen (p := ⟨b, o, none⟩) h
theorem box (e : Ext W) {g : Nat} {cs : Array Value} {t : TypeId} (h : Box W g cs t) : Box e.w g cs t := h.below e.ok
end Ext
attribute [go_sem] Ext.cell Ext.frozen
theorem wp_region_ext {P : Program} {id : Nat} {Q : Exit → Act → World → Prop} {a : Act} {w : World} {l : List Oper} (hm : P.follows .mixedOrders = true) (hB : Region.lexB .any l.toArray = true)
    (h : wpQuiet P l.toArray (fun w' => ∃ e : Ext w, w' = e.w) (fun a' => ∀ w', (∃ e : Ext w, w' = e.w) → Q .normal a' w') l a) : (Code.region id l.toArray true).wp P Q a w :=
  wp_region_quiet (C := fun w' => ∃ e : Ext w, w' = e.w) hm hB ⟨⟨w.drew, ⟨rfl, rfl, rfl, Nat.le_refl _, fun _ _ => rfl⟩⟩, rfl⟩ (by simpa using h)
/-- A callee that only makes new memory, its answer known, met in such a world. -/
theorem calls_ext {P : Program} {f : FuncId} {args : Array Value} {W : World} {e : Ext W} {v : Value} (h : Calls P f args e.w fun en w' => en = .returned v ∧ Below e.w.heap.size e.w w') :
    Calls P f args e.w fun en w'' => en = .returned v ∧ ∃ m : Ext W, w'' = m.w :=
  h.mono fun _ w' ⟨he, hb⟩ => ⟨he, ⟨w', bl_then e.ok hb⟩, rfl⟩
theorem calls_ext_same {P : Program} {f : FuncId} {args : Array Value} {W : World} {e : Ext W} {v : Value} (h : Calls P f args e.w fun en w' => en = .returned v ∧ e.w = w') :
    Calls P f args e.w fun en w'' => en = .returned v ∧ ∃ m : Ext W, w'' = m.w :=
  h.mono fun _ _ ⟨he, hb⟩ => ⟨he, e, hb.symm⟩
/-- A variable read whole, in such a region. -/
theorem quiet_load {P : Program} {o : Oper} {a : Act} {W : World} {K : Act → Prop} (ty : TypeId) (x : Operand) (ho : o.op = .load ty x) {g : Nat} (hx : a.eval x = .pointer (some ⟨g, 0, none⟩)) {t : TypeId} {cs : Array Value} (hB : Box W g cs t)
    (hag : isAggT P ty = true) (hi : (P.info? ty).map (·.size) = some cs.size) (h : K (a.put o.dst (.agg cs))) : o.quiet P a (fun w' => ∃ e : Ext W, w' = e.w) K := by
  refine ⟨.agg cs, ?_, h⟩
  rintro _ ⟨e, rfl⟩
  cases hu : P.underlying ty with
  | none => simp [isAggT, hu] at hag
  | some d =>
    have hd : (match d with | .struct _ | .array _ _ => true | _ => false) = true := by unfold isAggT at hag; rw [hu] at hag; cases d <;> simp_all
    unfold Oper.quietAt execOp
    simp only [ho, hx, Instr.loadAt, Instr.sureAddr, Sem.run_bind, Sem.run_pure, Result.andThen_ok, run_loadVar_row e.w g t ty cs (0, 0) d (e.box hB) hu hd hi]
    exact ⟨rfl, rfl⟩
end Go.Proofs.YtebpacmhdkgfeaaDoor
