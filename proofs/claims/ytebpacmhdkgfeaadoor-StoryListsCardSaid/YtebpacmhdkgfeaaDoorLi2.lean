/- Texts laid together: Loc, Loc2, Tab, Loc3, Loc4, Txt, DigA, Mk, TexA, Leg, Tbl. -/
import Derived.Test.YtebpacmhdkgfeaaDoorLi1
import Derived.Deep.MidRow
import Derived.Test.YtebpacmhdkgfeaaDoorProg
import Derived.StillTailTactics
import Derived.OpenShut
import Derived.Deep.Slices
import Derived.Deep.Fields
import Derived.Test.YtebpacmhdkgfeaaDoorRows
import Derived.MakeChecks
import Derived.LaidMore
import Derived.Lay
import Derived.Lib.LaidTab
import Derived.Stop.Joined
/- Variables and rows of one's own as a list of items, each known by blocks of its own; events of a walk that turn the list. Over any program. -/
namespace Go.Proofs.YtebpacmhdkgfeaaDoor
open Go.RowKit

/-- What holds of a world by some blocks alone. -/
structure Item where
  S : Nat → Prop
  p : World → Prop
structure Item.At (i : Item) (w : World) : Prop where
  p : i.p w
  lt : ∀ k, i.S k → k < w.heap.size
  stay : ∀ w', w.heap.size ≤ w'.heap.size → (∀ k, i.S k → w'.heap[k]? = w.heap[k]?) → i.p w'
theorem Item.At.keep {i : Item} {w w' : World} (h : i.At w) (hz : w.heap.size ≤ w'.heap.size) (hb : ∀ k, i.S k → w'.heap[k]? = w.heap[k]?) : i.At w' :=
  ⟨h.stay w' hz hb, fun k hk => Nat.lt_of_lt_of_le (h.lt k hk) hz, fun w'' hz' hb' => h.stay w'' (Nat.le_trans hz hz') fun k hk => (hb' k hk).trans (hb k hk)⟩
/-- Only blocks of M, and what is new, have turned. -/
structure Mod (M : Nat → Prop) (w w1 : World) : Prop where
  os : w1.os = w.os
  tape : w1.tape = w.tape
  output : w1.output = w.output
  size : w.heap.size ≤ w1.heap.size
  block : ∀ k, k < w.heap.size → ¬ M k → w1.heap[k]? = w.heap[k]?
def NoM : Nat → Prop := fun _ => False
namespace Mod
variable {M M' : Nat → Prop} {w w1 w2 : World}
theorem refl (M : Nat → Prop) (w : World) : Mod M w w := ⟨rfl, rfl, rfl, Nat.le_refl _, fun _ _ _ => rfl⟩
theorem of_below (h : Below w.heap.size w w1) : Mod M w w1 := ⟨h.os, h.tape, h.output, h.size, fun k hk _ => h.block k hk⟩
theorem below (h : Mod NoM w w1) : Below w.heap.size w w1 := ⟨h.os, h.tape, h.output, h.size, fun k hk => h.block k hk fun e => e⟩
theorem of_put {g : Nat} (h : Put w w1 g) : Mod (· = g) w w1 := ⟨h.os, h.tape, h.output, h.size, fun k hk hn => h.block k hk hn⟩
theorem put {g : Nat} (h : Mod (· = g) w w1) : Put w w1 g := ⟨h.os, h.tape, h.output, h.size, fun k hk hn => h.block k hk hn⟩
theorem of_grown {row : Option Nat} (h : w.grownBy w1 row) : Mod (fun k => some k = row) w w1 := ⟨h.os, h.tape, h.output, h.size, fun k hk hn => h.block k hk hn⟩
theorem mono (h : Mod M w w1) (hM : ∀ k, k < w.heap.size → M k → M' k) : Mod M' w w1 := ⟨h.os, h.tape, h.output, h.size, fun k hk hn => h.block k hk fun e => hn (hM k hk e)⟩
theorem trans (h : Mod M w w1) (k : Mod M' w1 w2) (hM : ∀ b, b < w.heap.size → M' b → M b) : Mod M w w2 :=
  ⟨k.os.trans h.os, k.tape.trans h.tape, k.output.trans h.output, Nat.le_trans h.size k.size, fun i hi hn =>
    (k.block i (Nat.lt_of_lt_of_le hi h.size) (fun e => hn (hM i hi e))).trans (h.block i hi hn)⟩
end Mod
structure Loc (w0 : World) (M : Nat → Prop) (w : World) (l : List Item) : Prop where
  mod : Mod M w0 w
  at_ : ∀ i ∈ l, i.At w
  new : ∀ i ∈ l, ∀ k, i.S k → w0.heap.size ≤ k ∨ M k
  apart : l.Pairwise fun i j => ∀ k, i.S k → ¬ j.S k
/-- A variable at block g. -/
def var (g : Nat) (cs : List Value) (t : TypeId) : Item := ⟨(· = g), fun w => Box w g cs.toArray t⟩
/-- What holds by the blocks from a up to b. -/
def seg (a b : Nat) (p : World → Prop) : Item := ⟨fun k => a ≤ k ∧ k < b, p⟩
/-- A row of one's own. -/
def row {α : Type} (E : Enc α) (base : Nat) (e : TypeId) (v : Value) (xs : List α) : Item := ⟨fun k => v.ownBlock = some k, fun w => E.O w base e v xs⟩
inductive Swap (i i' : Item) : List Item → List Item → Prop where
  | here (l : List Item) : Swap i i' (i :: l) (i' :: l)
  | there (j : Item) {l l' : List Item} : Swap i i' l l' → Swap i i' (j :: l) (j :: l')
theorem Swap.mem {i i' : Item} {l l' : List Item} (h : Swap i i' l l') : i ∈ l := by
  induction h with
  | here l => exact .head _
  | there j _ ih => exact .tail _ ih
theorem Swap.out {i i' : Item} {l l' : List Item} (h : Swap i i' l l') : ∀ j ∈ l', j = i' ∨ j ∈ l := by
  induction h with
  | here l => exact fun j hj => (List.mem_cons.1 hj).elim .inl fun h => .inr (.tail _ h)
  | there j _ ih => exact fun k hk => (List.mem_cons.1 hk).elim (fun e => .inr (e ▸ .head _)) fun h => (ih k h).elim .inl fun h => .inr (.tail _ h)
theorem var_at {w : World} {g : Nat} {cs : List Value} {t : TypeId} (h : Box w g cs.toArray t) : (var g cs t).At w :=
  ⟨h, fun k hk => by cases hk; exact h.lt, fun w' _ hb => (hb g rfl).trans h⟩
theorem row_at {α : Type} {E : Enc α} {w : World} {base : Nat} {e : TypeId} {v : Value} {xs : List α} (h : E.O w base e v xs) : (row E base e v xs).At w := by
  refine ⟨h, fun k hk => h.lt k hk, fun w' hz hb => ?_⟩
  unfold Item.p row Enc.O at *
  refine ⟨h.1, ?_⟩
  rcases h.2 with hn | ⟨g, cap, cur, rfl, hbb, hg, rest⟩
  · exact .inl hn
  · exact .inr ⟨g, cap, cur, rfl, hbb, (hb g rfl).trans hg, rest⟩
namespace Loc
variable {w0 w w1 : World} {M : Nat → Prop} {l l' : List Item} {i i' : Item}
theorem nil (w : World) (M : Nat → Prop) : Loc w M w [] := ⟨.refl _ _, by simp, by simp, .nil⟩
theorem below (h : Loc w0 NoM w l) : Below w0.heap.size w0 w := h.mod.below
theorem size (h : Loc w0 M w l) : w0.heap.size ≤ w.heap.size := h.mod.size
theorem get (h : Loc w0 M w l) (hm : i ∈ l) : i.p w := (h.at_ i hm).p
theorem box {g : Nat} {cs : List Value} {t : TypeId} (h : Loc w0 M w l) (hm : var g cs t ∈ l) : Box w g cs.toArray t := h.get hm
theorem own {α : Type} {E : Enc α} {base : Nat} {e : TypeId} {v : Value} {xs : List α} (h : Loc w0 M w l) (hm : row E base e v xs ∈ l) : E.O w base e v xs := h.get hm
theorem fact {a b : Nat} {p : World → Prop} (h : Loc w0 M w l) (hm : seg a b p ∈ l) : p w := h.get hm
/-- A call that only makes new memory. -/
theorem call (h : Loc w0 M w l) (hb : Below w.heap.size w w1) : Loc w0 M w1 l :=
  ⟨h.mod.trans (.of_below (M := NoM) hb) fun _ _ e => e.elim, fun i hi => (h.at_ i hi).keep hb.size fun k hk => hb.block k ((h.at_ i hi).lt k hk), h.new, h.apart⟩
/-- The same, and something holds of what is new. -/
theorem callNew (h : Loc w0 M w l) (hb : Below w.heap.size w w1) (hi : i.At w1) (hS : ∀ k, i.S k → w.heap.size ≤ k) : Loc w0 M w1 (i :: l) := by
  have h1 := h.call hb
  refine ⟨h1.mod, fun j hj => (List.mem_cons.1 hj).elim (fun e => e ▸ hi) (h1.at_ j), fun j hj k hk => ?_, .cons (fun j hj k hk hk' => ?_) h1.apart⟩
  · rcases List.mem_cons.1 hj with rfl | hj
    · exact .inl (Nat.le_trans h.size (hS k hk))
    · exact h1.new j hj k hk
  · have := (h.at_ j hj).lt k hk'
    have := hS k hk
    omega
theorem callVar {g : Nat} {cs : List Value} {t : TypeId} (h : Loc w0 M w l) (hb : Below w.heap.size w w1) (hx : Box w1 g cs.toArray t) (hg : w.heap.size ≤ g) : Loc w0 M w1 (var g cs t :: l) :=
  h.callNew hb (var_at hx) fun k hk => by cases hk; exact hg
theorem callRow {α : Type} {E : Enc α} {e : TypeId} {v : Value} {xs : List α} {base : Nat} (h : Loc w0 M w l) (hb : Below w.heap.size w w1) (ho : E.O w1 base e v xs) (hbase : w.heap.size ≤ base) : Loc w0 M w1 (row E base e v xs :: l) :=
  h.callNew hb (row_at ho) fun k hk => Nat.le_trans hbase (ho.base k hk)
/-- One item turns into another one, in its own blocks or new ones. -/
theorem swap (h : Loc w0 M w l) (hs : Swap i i' l l') (hm : Mod i.S w w1) (hi : i'.At w1) (hS : ∀ k, i'.S k → i.S k ∨ w.heap.size ≤ k) : Loc w0 M w1 l' := by
  have hmi := hs.mem
  refine ⟨h.mod.trans hm fun b hb hk => ?_, ?_, fun j hj k hk => ?_, ?_⟩
  · rcases h.new i hmi b hk with h1 | h1
    · omega
    · exact h1
  · have key : ∀ {l l' : List Item}, Swap i i' l l' → (∀ j ∈ l, j.At w) → (l.Pairwise fun i j => ∀ k, i.S k → ¬ j.S k) → ∀ j ∈ l', j.At w1 := by
      intro l l' hs
      induction hs with
      | here l =>
        intro ha hp j hj
        rcases List.mem_cons.1 hj with rfl | hj
        · exact hi
        · exact (ha j (.tail _ hj)).keep hm.size fun k hk => hm.block k ((ha j (.tail _ hj)).lt k hk) fun e => (List.pairwise_cons.1 hp).1 j hj k e hk
      | there j0 hs ih =>
        intro ha hp j hj
        rcases List.mem_cons.1 hj with rfl | hj
        · exact (ha j (.head _)).keep hm.size fun k hk => hm.block k ((ha j (.head _)).lt k hk) fun e => (List.pairwise_cons.1 hp).1 i hs.mem k hk e
        · exact ih (fun j hj => ha j (.tail _ hj)) (List.pairwise_cons.1 hp).2 j hj
    exact key hs h.at_ h.apart
  · rcases hs.out j hj with rfl | hj
    · rcases hS k hk with h1 | h1
      · exact h.new i hmi k h1
      · exact .inl (Nat.le_trans h.size h1)
    · exact h.new j hj k hk
  · have key : ∀ {l l' : List Item}, Swap i i' l l' → (∀ j ∈ l, j.At w) → (l.Pairwise fun i j => ∀ k, i.S k → ¬ j.S k) → l'.Pairwise fun i j => ∀ k, i.S k → ¬ j.S k := by
      intro l l' hs
      induction hs with
      | here l =>
        intro ha hp
        refine .cons (fun j hj k hk hk' => ?_) (List.pairwise_cons.1 hp).2
        rcases hS k hk with h1 | h1
        · exact (List.pairwise_cons.1 hp).1 j hj k h1 hk'
        · have := (ha j (.tail _ hj)).lt k hk'; omega
      | there j0 hs ih =>
        intro ha hp
        refine .cons (fun j hj k hk hk' => ?_) (ih (fun j hj => ha j (.tail _ hj)) (List.pairwise_cons.1 hp).2)
        rcases hs.out j hj with rfl | hj
        · rcases hS k hk' with h1 | h1
          · exact (List.pairwise_cons.1 hp).1 i hs.mem k hk h1
          · have := (ha j0 (.head _)).lt k hk; omega
        · exact (List.pairwise_cons.1 hp).1 j hj k hk hk'
    exact key hs h.at_ h.apart
/-- A variable is turned, by a store or a call. -/
theorem put {g : Nat} {cs cs' : List Value} {t : TypeId} (h : Loc w0 M w l) (hs : Swap (var g cs t) (var g cs' t) l l') (hp : Put w w1 g) (hx : Box w1 g cs'.toArray t) : Loc w0 M w1 l' :=
  h.swap hs (Mod.of_put hp) (var_at hx) fun _ hk => .inl hk
/-- A row grows. -/
theorem grow {α : Type} {E : Enc α} {base : Nat} {e : TypeId} {v v' : Value} {xs xs' : List α} (h : Loc w0 M w l) (hs : Swap (row E base e v xs) (row E base e v' xs') l l') (hg : w.grownBy w1 v.ownBlock) (ho : E.O w1 base e v' xs')
    (hv : v'.ownBlock = v.ownBlock ∨ ∃ b, v'.ownBlock = some b ∧ w.heap.size ≤ b) : Loc w0 M w1 l' :=
  h.swap hs ((Mod.of_grown hg).mono fun k _ e => e.symm) (row_at ho) fun k hk => by
    rcases hv with h1 | ⟨b, h1, h2⟩
    · exact .inl (h1.symm.trans hk)
    · have hk' : v'.ownBlock = some k := hk
      rw [h1] at hk'
      injection hk' with hk'
      exact .inr (by omega)
/-- What is no more asked of. -/
theorem drop (h : Loc w0 M w (i :: l)) : Loc w0 M w l := ⟨h.mod, fun j hj => h.at_ j (.tail _ hj), fun j hj => h.new j (.tail _ hj), (List.pairwise_cons.1 h.apart).2⟩
theorem sub (h : Loc w0 M w l) (hs : l'.Sublist l) : Loc w0 M w l' := ⟨h.mod, fun j hj => h.at_ j (hs.mem hj), fun j hj => h.new j (hs.mem hj), h.apart.sublist hs⟩
/-- Begun anew from here. -/
theorem drewN (h : Loc w0 M w l) (n : Nat) : Loc w0 M (w.drewN n) l := ⟨⟨h.mod.os, h.mod.tape, h.mod.output, h.mod.size, h.mod.block⟩, fun i hi => (h.at_ i hi).keep (w' := w.drewN n) (Nat.le_refl _) fun _ _ => rfl, h.new, h.apart⟩
end Loc

/-! ### Cells of a list -/
inductive Seg : List Value → Nat → Nat → List Value → Prop where
  | nil (cs : List Value) : Seg cs 0 0 []
  | take {c : Value} {cs vs : List Value} {n : Nat} : Seg cs 0 n vs → Seg (c :: cs) 0 (n + 1) (c :: vs)
  | skip {c : Value} {cs vs : List Value} {j n : Nat} : Seg cs j n vs → Seg (c :: cs) (j + 1) n vs
theorem Seg.len {cs vs : List Value} {j n : Nat} (h : Seg cs j n vs) : vs.length = n := by
  induction h with
  | nil cs => rfl
  | take _ ih => simp [ih]
  | skip _ ih => exact ih
theorem Seg.get {cs vs : List Value} {j n : Nat} (h : Seg cs j n vs) : ∀ k v, vs[k]? = some v → cs[j + k]? = some v := by
  induction h with
  | nil cs => intro k v h; simp at h
  | take _ ih =>
    intro k v h
    cases k with
    | zero => simpa using h
    | succ k => simpa using ih k v (by simpa using h)
  | @skip c cs vs j n _ ih =>
    intro k v h
    have e : j + 1 + k = (j + k) + 1 := by omega
    rw [e]
    simpa using ih k v h
inductive SetAt : List Value → Nat → List Value → List Value → Prop where
  | nil (cs : List Value) : SetAt cs 0 [] cs
  | put {c v : Value} {cs vs cs' : List Value} : SetAt cs 0 vs cs' → SetAt (c :: cs) 0 (v :: vs) (v :: cs')
  | skip {c : Value} {cs vs cs' : List Value} {j : Nat} : SetAt cs j vs cs' → SetAt (c :: cs) (j + 1) vs (c :: cs')
theorem SetAt.eq {cs vs cs' : List Value} {j : Nat} (h : SetAt cs j vs cs') : cs.take j ++ vs ++ cs.drop (j + vs.length) = cs' ∧ j + vs.length ≤ cs.length := by
  induction h with
  | nil cs => simp
  | put _ ih =>
    obtain ⟨h1, h2⟩ := ih
    simp only [List.take_zero, List.nil_append, Nat.zero_add] at h1 h2 ⊢
    refine ⟨?_, by simp only [List.length_cons]; omega⟩
    rw [List.cons_append, List.length_cons, List.drop_succ_cons, h1]
  | @skip c cs vs cs' j _ ih =>
    obtain ⟨h1, h2⟩ := ih
    refine ⟨?_, by simp only [List.length_cons]; omega⟩
    have e : j + 1 + vs.length = (j + vs.length) + 1 := by omega
    rw [e, List.take_succ_cons, List.drop_succ_cons, List.cons_append, List.cons_append, h1]

/-! ### The types' rows of the table -/
class SizeT (P : Program) (ty : TypeId) (n : outParam Nat) : Prop where
  size : (P.info? ty).map (·.size) = some n
class AggT (P : Program) (ty : TypeId) : Prop where
  agg : isAggT P ty = true
class OneT (P : Program) (ty : TypeId) : Prop where
  one : isAggT P ty = false
  ty : (P.underlying ty).isSome = true
class ZeroT (P : Program) (ty : TypeId) (z : outParam Value) : Prop where
  zero : (P.info? ty).map (·.zero) = some (some z)
class SliceT (P : Program) (ty : TypeId) (e : outParam TypeId) : Prop where
  slice : P.underlying ty = some (.slice e)
/-- A value's cells, each of one. -/
structure CellsOf (v : Value) (cs : List Value) : Prop where
  eq : v.cells = cs.toArray
  one : ∀ u ∈ cs, u.oneCell' = true
theorem cells_agg (cs : List Value) (h : cs.all (·.oneCell') = true) : CellsOf (.agg cs.toArray) cs := ⟨rfl, fun u hu => List.all_eq_true.1 h u hu⟩
theorem cells_int (k : IntKind) (n : Int) : CellsOf (.int k n) [.int k n] := ⟨rfl, by simp [Value.oneCell']⟩
theorem cells_bool (b : Bool) : CellsOf (.bool b) [.bool b] := ⟨rfl, by simp [Value.oneCell']⟩
theorem cells_str (s : ByteArray) : CellsOf (.string s) [.string s] := ⟨rfl, by simp [Value.oneCell']⟩
theorem cells_slice (a : Option Addr) (n c : Nat) : CellsOf (.slice a n c) [.slice a n c] := ⟨rfl, by simp [Value.oneCell']⟩
theorem cells_ptr (a : Option Addr) : CellsOf (.pointer a) [.pointer a] := ⟨rfl, by simp [Value.oneCell']⟩
theorem cells_map (a : Option Nat) : CellsOf (.map a) [.map a] := ⟨rfl, by simp [Value.oneCell']⟩
theorem cells_func (f : Fn) (a c : Array Value) : CellsOf (.func f a c) [.func f a c] := ⟨rfl, by simp [Value.oneCell']⟩
theorem cells_nilFunc : CellsOf .nilFunc [.nilFunc] := ⟨rfl, by simp [Value.oneCell']⟩
theorem cells_one {v : Value} (h : v.oneCell' = true) (hc : v.cells = #[v]) : CellsOf v [v] := ⟨hc, by simp [h]⟩

theorem range_of_box {W : World} {g : Nat} {cs vs : List Value} {t : TypeId} {j n : Nat} (hx : Box W g cs.toArray t) (hs : Seg cs j n vs) : W.rangeAt g j vs := fun k v hv => by
  rw [hx.cell (j + k)]
  simpa using hs.get k v hv
theorem isRow_of {P : Program} {ty : TypeId} (h : isAggT P ty = true) : ∃ d, P.underlying ty = some d ∧ d.isRow = true := by
  cases hu : P.underlying ty with
  | none => simp [isAggT, hu] at h
  | some d => exact ⟨d, rfl, by unfold isAggT at h; rw [hu] at h; cases d <;> simp_all [TypeDesc.isRow]⟩
theorem run_loadVar_cell {P : Program} {ty : TypeId} (h : OneT P ty) (w : World) (a : Addr) (v : Value) (hc : w.cell? a = some v) : (loadVar ty a).run P w = .ok v w := by
  cases hu : P.underlying ty with
  | none => have := h.ty; simp [hu] at this
  | some d =>
    have ha : (isAgg ty).run P w = .ok false w := by
      have h1 := h.one
      unfold isAggT at h1
      rw [hu] at h1
      unfold isAgg
      rw [Sem.run_bind, run_underlying hu w]
      cases d <;> simp_all
    simp [loadVar, Sem.run_bind, ha, hc]

section
variable {P : Program} {ops : Array Oper} {rest : List Oper} {o : Oper} {a : Act} {Q : Exit → Act → World → Prop} {W w0 : World} {M : Nat → Prop} {l l' : List Item}
theorem wanted_some {j d : Nat} {want b : Bool} {tmps : Array Value} (hg : o.guard = some (j, want)) (hd : (ops[j]?).bind (·.dst) = some d) (ht : tmps[d]? = some (.bool b)) (hb : b = want) : Region.wanted o (yielded ops tmps) = true := by
  subst hb
  simp [Region.wanted, hg, yielded, hd, ht]
theorem gAlloc {t : TypeId} (_hg : o.guard = none) (_ho : o.op = .alloc t) (h : wpList P ops Q (o :: rest) a W) : wpList P ops Q (o :: rest) a W := h
theorem gBox {t : TypeId} {x : Operand} (_hg : o.guard = none) (_ho : o.op = .box t x) (h : wpList P ops Q (o :: rest) a W) : wpList P ops Q (o :: rest) a W := h
theorem gLoad {t : TypeId} {x : Operand} (_hg : o.guard = none) (_ho : o.op = .load t x) (h : wpList P ops Q (o :: rest) a W) : wpList P ops Q (o :: rest) a W := h
theorem gStore {t : TypeId} {x y : Operand} (_hg : o.guard = none) (_ho : o.op = .store t x y) (h : wpList P ops Q (o :: rest) a W) : wpList P ops Q (o :: rest) a W := h
theorem gLoadG {t : TypeId} {x : Operand} {g : Nat × Bool} (_hg : o.guard = some g) (_ho : o.op = .load t x) (_h : Region.wanted o (yielded ops a.tmps) = true) (h : wpList P ops Q (o :: rest) a W) : wpList P ops Q (o :: rest) a W := h
theorem ev_allocL {t : TypeId} {z : Value} {cs : List Value} [hz : ZeroT P t z] (hgd : o.guard = none) (hL : Loc w0 M W l) (ho : o.op = .alloc t) (hc : CellsOf z cs)
    (h : ∀ g w1, Loc w0 M w1 (var g cs t :: l) → wpList P ops Q rest (a.put o.dst (.pointer (some ⟨g, 0, none⟩))) w1) : wpList P ops Q (o :: rest) a W := by
  refine event hgd (v := .pointer (some ⟨W.heap.size, 0, none⟩)) (w1 := W.alloc (.cells cs.toArray t)) ?_ (h _ _ (hL.callVar (bl_alloc (Below.refl _ _) _) (Box.new W _ t) (Nat.le_refl _)))
  obtain ⟨i, hi, hzz⟩ := Option.map_eq_some_iff.1 hz.zero
  simp [execOp, ho, Instr.alloc, zeroValue, typeInfo, hi, hzz, hc.eq, newVar, newRow]
theorem ev_boxL {t : TypeId} {x : Operand} {v : Value} {cs : List Value} (hgd : o.guard = none) (hL : Loc w0 M W l) (ho : o.op = .box t x) (hx : a.eval x = v) (hc : CellsOf v cs)
    (h : ∀ g w1, Loc w0 M w1 (var g cs t :: l) → wpList P ops Q rest (a.put o.dst (.pointer (some ⟨g, 0, none⟩))) w1) : wpList P ops Q (o :: rest) a W := by
  refine event hgd (v := .pointer (some ⟨W.heap.size, 0, none⟩)) (w1 := W.alloc (.cells cs.toArray t)) ?_ (h _ _ (hL.callVar (bl_alloc (Below.refl _ _) _) (Box.new W _ t) (Nat.le_refl _)))
  simp [execOp, ho, Instr.box, hx, hc.eq, newVar, newRow]
theorem ev_loadL {ty : TypeId} {x : Operand} {n g j : Nat} {cs vs : List Value} {t : TypeId} [ha : AggT P ty] [hn : SizeT P ty n] (hgd : o.guard = none) (hL : Loc w0 M W l) (ho : o.op = .load ty x) (hx : a.eval x = .pointer (some ⟨g, j, none⟩))
    (hm : var g cs t ∈ l) (hs : Seg cs j n vs) (h : wpList P ops Q rest (a.put o.dst (.agg vs.toArray)) W) : wpList P ops Q (o :: rest) a W := by
  obtain ⟨d, hu, hd⟩ := isRow_of ha.agg
  refine event hgd (v := .agg vs.toArray) (w1 := W) ?_ h
  unfold execOp
  simp only [ho, hx, Instr.loadAt, Instr.sureAddr, Sem.run_bind, Sem.run_pure, Result.andThen_ok, run_loadVar_mid W g j ty vs d (range_of_box (hL.box hm) hs) hu hd (by rw [hs.len]; exact hn.size)]
theorem ev_loadAllL {ty : TypeId} {x : Operand} {n g : Nat} {cs : List Value} {t : TypeId} [ha : AggT P ty] [hn : SizeT P ty n] (hgd : o.guard = none) (hL : Loc w0 M W l) (ho : o.op = .load ty x) (hx : a.eval x = .pointer (some ⟨g, 0, none⟩))
    (hm : var g cs t ∈ l) (hs : cs.length = n) (h : wpList P ops Q rest (a.put o.dst (.agg cs.toArray)) W) : wpList P ops Q (o :: rest) a W := by
  obtain ⟨d, hu, hd⟩ := isRow_of ha.agg
  refine event hgd (v := .agg cs.toArray) (w1 := W) ?_ h
  have hr : W.rangeAt g 0 cs := fun k v hv => by rw [(hL.box hm).cell (0 + k)]; simpa using hv
  unfold execOp
  simp only [ho, hx, Instr.loadAt, Instr.sureAddr, Sem.run_bind, Sem.run_pure, Result.andThen_ok, run_loadVar_mid W g 0 ty cs d hr hu hd (by rw [hs]; exact hn.size)]
theorem ev_load1L {ty : TypeId} {x : Operand} {g j : Nat} {cs : List Value} {v : Value} {t : TypeId} [ha : OneT P ty] (hgd : o.guard = none) (hL : Loc w0 M W l) (ho : o.op = .load ty x) (hx : a.eval x = .pointer (some ⟨g, j, none⟩))
    (hm : var g cs t ∈ l) (hv : cs[j]? = some v) (h : wpList P ops Q rest (a.put o.dst v) W) : wpList P ops Q (o :: rest) a W := by
  have hc : W.cell? ⟨g, j, none⟩ = some v := by rw [(hL.box hm).cell j]; simpa using hv
  refine event hgd (v := v) (w1 := W) ?_ h
  unfold execOp
  simp only [ho, hx, Instr.loadAt, Instr.sureAddr, Sem.run_bind, Sem.run_pure, Result.andThen_ok, run_loadVar_cell ha W _ v hc]
theorem ev_loadG_ {ty : TypeId} {x : Operand} {n g j : Nat} {cs vs : List Value} {t : TypeId} [ha : AggT P ty] [hn : SizeT P ty n] (hw : Region.wanted o (yielded ops a.tmps) = true) (hL : Loc w0 M W l) (ho : o.op = .load ty x) (hx : a.eval x = .pointer (some ⟨g, j, none⟩))
    (hm : var g cs t ∈ l) (hs : Seg cs j n vs) (h : wpList P ops Q rest (a.put o.dst (.agg vs.toArray)) W) : wpList P ops Q (o :: rest) a W := by
  obtain ⟨d, hu, hd⟩ := isRow_of ha.agg
  refine eventG hw (v := .agg vs.toArray) (w1 := W) ?_ h
  unfold execOp
  simp only [ho, hx, Instr.loadAt, Instr.sureAddr, Sem.run_bind, Sem.run_pure, Result.andThen_ok, run_loadVar_mid W g j ty vs d (range_of_box (hL.box hm) hs) hu hd (by rw [hs.len]; exact hn.size)]
theorem ev_loadAllG {ty : TypeId} {x : Operand} {n g : Nat} {cs : List Value} {t : TypeId} [ha : AggT P ty] [hn : SizeT P ty n] (hw : Region.wanted o (yielded ops a.tmps) = true) (hL : Loc w0 M W l) (ho : o.op = .load ty x) (hx : a.eval x = .pointer (some ⟨g, 0, none⟩))
    (hm : var g cs t ∈ l) (hs : cs.length = n) (h : wpList P ops Q rest (a.put o.dst (.agg cs.toArray)) W) : wpList P ops Q (o :: rest) a W := by
  obtain ⟨d, hu, hd⟩ := isRow_of ha.agg
  refine eventG hw (v := .agg cs.toArray) (w1 := W) ?_ h
  have hr : W.rangeAt g 0 cs := fun k v hv => by rw [(hL.box hm).cell (0 + k)]; simpa using hv
  unfold execOp
  simp only [ho, hx, Instr.loadAt, Instr.sureAddr, Sem.run_bind, Sem.run_pure, Result.andThen_ok, run_loadVar_mid W g 0 ty cs d hr hu hd (by rw [hs]; exact hn.size)]
theorem ev_load1G {ty : TypeId} {x : Operand} {g j : Nat} {cs : List Value} {v : Value} {t : TypeId} [ha : OneT P ty] (hw : Region.wanted o (yielded ops a.tmps) = true) (hL : Loc w0 M W l) (ho : o.op = .load ty x) (hx : a.eval x = .pointer (some ⟨g, j, none⟩))
    (hm : var g cs t ∈ l) (hv : cs[j]? = some v) (h : wpList P ops Q rest (a.put o.dst v) W) : wpList P ops Q (o :: rest) a W := by
  have hc : W.cell? ⟨g, j, none⟩ = some v := by rw [(hL.box hm).cell j]; simpa using hv
  refine eventG hw (v := v) (w1 := W) ?_ h
  unfold execOp
  simp only [ho, hx, Instr.loadAt, Instr.sureAddr, Sem.run_bind, Sem.run_pure, Result.andThen_ok, run_loadVar_cell ha W _ v hc]
theorem ev_storeL {ty : TypeId} {p x : Operand} {n g j : Nat} {cs cs' vs : List Value} {v : Value} {t : TypeId} [hn : SizeT P ty n] (hgd : o.guard = none) (hL : Loc w0 M W l) (ho : o.op = .store ty p x) (hp : a.eval p = .pointer (some ⟨g, j, none⟩)) (hx : a.eval x = v)
    (hc : CellsOf v vs) (hl : vs.length = n) (hs : Swap (var g cs t) (var g cs' t) l l') (hcs : SetAt cs j vs cs')
    (h : ∀ w1, Loc w0 M w1 l' → wpList P ops Q rest (a.put o.dst undef) w1) : wpList P ops Q (o :: rest) a W := by
  obtain ⟨e1, e2⟩ := hcs.eq
  refine ev_set hgd ty p x ho hp (hL.box hs.mem) hx (cs' := cs'.toArray) (by rw [hc.eq]; simpa using hc.one) (by rw [hc.eq]; simpa [hl] using hn.size) (by rw [hc.eq]; simpa using e2) (by rw [hc.eq]; simpa using congrArg List.toArray e1) fun w1 hx1 hp1 => h w1 (hL.put hs hp1 hx1)
end

/-! ### Regions that draw their order, read, and call what only makes new memory -/
section
variable {P : Program} {o : Oper} {a : Act} {K : Act → Prop} {W w0 : World} {M : Nat → Prop} {l : List Item}
theorem quiet_loadL {ty : TypeId} {x : Operand} {n g j : Nat} {cs vs : List Value} {t : TypeId} [ha : AggT P ty] [hn : SizeT P ty n] (hL : Loc w0 M W l) (ho : o.op = .load ty x) (hx : a.eval x = .pointer (some ⟨g, j, none⟩))
    (hm : var g cs t ∈ l) (hs : Seg cs j n vs) (h : K (a.put o.dst (.agg vs.toArray))) : o.quiet P a (fun w' => ∃ e : Ext W, w' = e.w) K := by
  refine ⟨.agg vs.toArray, ?_, h⟩
  rintro _ ⟨e, rfl⟩
  obtain ⟨d, hu, hd⟩ := isRow_of ha.agg
  have hb := (hL.call e.ok).box hm
  unfold Oper.quietAt execOp
  simp only [ho, hx, Instr.loadAt, Instr.sureAddr, Sem.run_bind, Sem.run_pure, Result.andThen_ok, run_loadVar_mid e.w g j ty vs d (range_of_box hb hs) hu hd (by rw [hs.len]; exact hn.size)]
  exact ⟨rfl, rfl⟩
theorem quiet_loadAllL {ty : TypeId} {x : Operand} {n g : Nat} {cs : List Value} {t : TypeId} [ha : AggT P ty] [hn : SizeT P ty n] (hL : Loc w0 M W l) (ho : o.op = .load ty x) (hx : a.eval x = .pointer (some ⟨g, 0, none⟩))
    (hm : var g cs t ∈ l) (hs : cs.length = n) (h : K (a.put o.dst (.agg cs.toArray))) : o.quiet P a (fun w' => ∃ e : Ext W, w' = e.w) K := by
  refine ⟨.agg cs.toArray, ?_, h⟩
  rintro _ ⟨e, rfl⟩
  obtain ⟨d, hu, hd⟩ := isRow_of ha.agg
  have hr : e.w.rangeAt g 0 cs := fun k v hv => by rw [((hL.call e.ok).box hm).cell (0 + k)]; simpa using hv
  unfold Oper.quietAt execOp
  simp only [ho, hx, Instr.loadAt, Instr.sureAddr, Sem.run_bind, Sem.run_pure, Result.andThen_ok, run_loadVar_mid e.w g 0 ty cs d hr hu hd (by rw [hs]; exact hn.size)]
  exact ⟨rfl, rfl⟩
theorem quiet_load1L {ty : TypeId} {x : Operand} {g j : Nat} {cs : List Value} {v : Value} {t : TypeId} [ha : OneT P ty] (hL : Loc w0 M W l) (ho : o.op = .load ty x) (hx : a.eval x = .pointer (some ⟨g, j, none⟩))
    (hm : var g cs t ∈ l) (hv : cs[j]? = some v) (h : K (a.put o.dst v)) : o.quiet P a (fun w' => ∃ e : Ext W, w' = e.w) K := by
  refine ⟨v, ?_, h⟩
  rintro _ ⟨e, rfl⟩
  have hc : e.w.cell? ⟨g, j, none⟩ = some v := by rw [((hL.call e.ok).box hm).cell j]; simpa using hv
  unfold Oper.quietAt execOp
  simp only [ho, hx, Instr.loadAt, Instr.sureAddr, Sem.run_bind, Sem.run_pure, Result.andThen_ok, run_loadVar_cell ha e.w _ v hc]
  exact ⟨rfl, rfl⟩
end

/-! ### Results -/
section
variable {P : Program} {fn : Func} {W w0 : World} {M : Nat → Prop} {l : List Item}
theorem res_cell {p : Tmp} {ty : TypeId} {n g : Nat} {cs : List Value} {t : TypeId} [ha : AggT P ty] [hn : SizeT P ty n] (h : fn.results = #[.cell p ty]) (hL : Loc w0 M W l) (tmps : Array Value) (hp : tmps.getD p undef = .pointer (some ⟨g, 0, none⟩)) (hm : var g cs t ∈ l) (hs : cs.length = n) :
    (results fn tmps).run P W = .ok (.agg cs.toArray) W := by
  obtain ⟨d, hu, hd⟩ := isRow_of ha.agg
  exact results_cell_row h tmps W g t cs.toArray (0, 0) d hp (hL.box hm) hu (by cases d <;> simp_all [TypeDesc.isRow]) (by rw [List.size_toArray, hs]; exact hn.size)
end

/-! ### What the events' lists are, found by instances -/
class HasV (g : Nat) (l : List Item) (cs : outParam (List Value)) (t : outParam TypeId) : Prop where
  mem : var g cs t ∈ l
instance (priority := high) (g : Nat) (cs : List Value) (t : TypeId) (l : List Item) : HasV g (var g cs t :: l) cs t := ⟨.head _⟩
instance (g : Nat) (cs : List Value) (t : TypeId) (j : Item) (l : List Item) [h : HasV g l cs t] : HasV g (j :: l) cs t := ⟨.tail _ h.mem⟩
class SegC (cs : List Value) (j n : Nat) (vs : outParam (List Value)) : Prop where
  seg : Seg cs j n vs
instance (priority := high) (cs : List Value) : SegC cs 0 0 [] := ⟨.nil _⟩
instance (c : Value) (cs vs : List Value) (n : Nat) [h : SegC cs 0 n vs] : SegC (c :: cs) 0 (n + 1) (c :: vs) := ⟨.take h.seg⟩
instance (c : Value) (cs vs : List Value) (j n : Nat) [h : SegC cs j n vs] : SegC (c :: cs) (j + 1) n vs := ⟨.skip h.seg⟩
class SetC (cs : List Value) (j : Nat) (vs : List Value) (cs' : outParam (List Value)) : Prop where
  set : SetAt cs j vs cs'
instance (priority := high) (cs : List Value) : SetC cs 0 [] cs := ⟨.nil _⟩
instance (c v : Value) (cs vs cs' : List Value) [h : SetC cs 0 vs cs'] : SetC (c :: cs) 0 (v :: vs) (v :: cs') := ⟨.put h.set⟩
instance (c : Value) (cs vs cs' : List Value) (j : Nat) [h : SetC cs j vs cs'] : SetC (c :: cs) (j + 1) vs (c :: cs') := ⟨.skip h.set⟩
class StoreC (g : Nat) (l : List Item) (j : Nat) (vs : List Value) (cs cs' : outParam (List Value)) (t : outParam TypeId) (l' : outParam (List Item)) : Prop where
  swp : Swap (var g cs t) (var g cs' t) l l'
  set : SetAt cs j vs cs'
instance (priority := high) (g : Nat) (cs cs' : List Value) (t : TypeId) (l : List Item) (j : Nat) (vs : List Value) [h : SetC cs j vs cs'] : StoreC g (var g cs t :: l) j vs cs cs' t (var g cs' t :: l) := ⟨.here _, h.set⟩
instance (g : Nat) (cs cs' : List Value) (t : TypeId) (i : Item) (l l' : List Item) (j : Nat) (vs : List Value) [h : StoreC g l j vs cs cs' t l'] : StoreC g (i :: l) j vs cs cs' t (i :: l') := ⟨.there _ h.swp, h.set⟩
class SwapV (g : Nat) (l : List Item) (cs' : List Value) (cs : outParam (List Value)) (t : outParam TypeId) (l' : outParam (List Item)) : Prop where
  swp : Swap (var g cs t) (var g cs' t) l l'
instance (priority := high) (g : Nat) (cs cs' : List Value) (t : TypeId) (l : List Item) : SwapV g (var g cs t :: l) cs' cs t (var g cs' t :: l) := ⟨.here _⟩
instance (g : Nat) (cs cs' : List Value) (t : TypeId) (i : Item) (l l' : List Item) [h : SwapV g l cs' cs t l'] : SwapV g (i :: l) cs' cs t (i :: l') := ⟨.there _ h.swp⟩
class OneC (v : Value) : Prop where
  one : v.oneCell' = true
instance (k : IntKind) (n : Int) : OneC (.int k n) := ⟨rfl⟩
instance (b : Bool) : OneC (.bool b) := ⟨rfl⟩
instance (s : ByteArray) : OneC (.string s) := ⟨rfl⟩
instance (a : Option Addr) (n c : Nat) : OneC (.slice a n c) := ⟨rfl⟩
instance (a : Option Addr) : OneC (.pointer a) := ⟨rfl⟩
instance (a : Option Nat) : OneC (.map a) := ⟨rfl⟩
instance (f : Fn) (a c : Array Value) : OneC (.func f a c) := ⟨rfl⟩
instance : OneC .nilFunc := ⟨rfl⟩
class OnesC (cs : List Value) : Prop where
  one : ∀ u ∈ cs, u.oneCell' = true
instance : OnesC [] := ⟨by simp⟩
instance (c : Value) (cs : List Value) [h : OneC c] [hs : OnesC cs] : OnesC (c :: cs) := ⟨fun u hu => (List.mem_cons.1 hu).elim (fun e => e ▸ h.one) (hs.one u)⟩
class CellsC (v : Value) (cs : outParam (List Value)) : Prop where
  of : CellsOf v cs
instance (cs : List Value) [h : OnesC cs] : CellsC (.agg cs.toArray) cs := ⟨⟨rfl, h.one⟩⟩
instance (k : IntKind) (n : Int) : CellsC (.int k n) [.int k n] := ⟨cells_int _ _⟩
instance (b : Bool) : CellsC (.bool b) [.bool b] := ⟨cells_bool _⟩
instance (s : ByteArray) : CellsC (.string s) [.string s] := ⟨cells_str _⟩
instance (a : Option Addr) (n c : Nat) : CellsC (.slice a n c) [.slice a n c] := ⟨cells_slice _ _ _⟩
instance (a : Option Addr) : CellsC (.pointer a) [.pointer a] := ⟨cells_ptr _⟩
instance (a : Option Nat) : CellsC (.map a) [.map a] := ⟨cells_map _⟩
instance (f : Fn) (a c : Array Value) : CellsC (.func f a c) [.func f a c] := ⟨cells_func _ _ _⟩
instance : CellsC .nilFunc [.nilFunc] := ⟨cells_nilFunc⟩
section
variable {P : Program} {ops : Array Oper} {rest : List Oper} {o : Oper} {a : Act} {Q : Exit → Act → World → Prop} {W w0 : World} {M : Nat → Prop} {l l' : List Item}
theorem ev_storeC {ty : TypeId} {p x : Operand} {n g j : Nat} {cs cs' vs : List Value} {v : Value} {t : TypeId} [hn : SizeT P ty n] (hgd : o.guard = none) (hL : Loc w0 M W l) (ho : o.op = .store ty p x) (hp : a.eval p = .pointer (some ⟨g, j, none⟩)) (hx : a.eval x = v)
    (hc : CellsOf v vs) [hs : StoreC g l j vs cs cs' t l'] (hl : vs.length = n)
    (h : ∀ w1, Loc w0 M w1 l' → wpList P ops Q rest (a.put o.dst undef) w1) : wpList P ops Q (o :: rest) a W :=
  ev_storeL hgd hL ho hp hx hc hl hs.swp hs.set h
theorem setAt_all {cs vs : List Value} (h : vs.length = cs.length) : SetAt cs 0 vs vs := by
  induction cs generalizing vs with
  | nil => obtain rfl := List.eq_nil_of_length_eq_zero (by simpa using h); exact .nil _
  | cons c cs ih =>
    match vs, h with
    | v :: vs, h => exact .put (ih (by simpa using h))
theorem ev_storeAllC {ty : TypeId} {p x : Operand} {n g : Nat} {cs vs : List Value} {v : Value} {t : TypeId} [hn : SizeT P ty n] (hgd : o.guard = none) (hL : Loc w0 M W l) (ho : o.op = .store ty p x) (hp : a.eval p = .pointer (some ⟨g, 0, none⟩)) (hx : a.eval x = v)
    (hc : CellsOf v vs) (hl : vs.length = n) [hs : SwapV g l vs cs t l'] (hall : vs.length = cs.length)
    (h : ∀ w1, Loc w0 M w1 l' → wpList P ops Q rest (a.put o.dst undef) w1) : wpList P ops Q (o :: rest) a W :=
  ev_storeL hgd hL ho hp hx hc hl hs.swp (setAt_all hall) h
end
universe u
theorem mm0 {α : Type u} {x : α} {l : List α} : x ∈ x :: l := .head _
theorem mm1 {α : Type u} {a0 x : α} {l : List α} : x ∈ a0 :: x :: l := .tail _ (.head _)
theorem mm2 {α : Type u} {a0 a1 x : α} {l : List α} : x ∈ a0 :: a1 :: x :: l := .tail _ (.tail _ (.head _))
theorem mm3 {α : Type u} {a0 a1 a2 x : α} {l : List α} : x ∈ a0 :: a1 :: a2 :: x :: l := .tail _ (.tail _ (.tail _ (.head _)))
theorem mm4 {α : Type u} {a0 a1 a2 a3 x : α} {l : List α} : x ∈ a0 :: a1 :: a2 :: a3 :: x :: l := .tail _ (.tail _ (.tail _ (.tail _ (.head _))))
theorem mm5 {α : Type u} {a0 a1 a2 a3 a4 x : α} {l : List α} : x ∈ a0 :: a1 :: a2 :: a3 :: a4 :: x :: l := .tail _ (.tail _ (.tail _ (.tail _ (.tail _ (.head _)))))
theorem mm6 {α : Type u} {a0 a1 a2 a3 a4 a5 x : α} {l : List α} : x ∈ a0 :: a1 :: a2 :: a3 :: a4 :: a5 :: x :: l := .tail _ (.tail _ (.tail _ (.tail _ (.tail _ (.tail _ (.head _))))))
theorem mm7 {α : Type u} {a0 a1 a2 a3 a4 a5 a6 x : α} {l : List α} : x ∈ a0 :: a1 :: a2 :: a3 :: a4 :: a5 :: a6 :: x :: l := .tail _ (.tail _ (.tail _ (.tail _ (.tail _ (.tail _ (.tail _ (.head _)))))))
theorem mm8 {α : Type u} {a0 a1 a2 a3 a4 a5 a6 a7 x : α} {l : List α} : x ∈ a0 :: a1 :: a2 :: a3 :: a4 :: a5 :: a6 :: a7 :: x :: l := .tail _ (.tail _ (.tail _ (.tail _ (.tail _ (.tail _ (.tail _ (.tail _ (.head _))))))))
theorem ss0 {i i2 : Item} {l : List Item} : Swap i i2 (i :: l) (i2 :: l) := .here _
theorem ss1 {a0 i i2 : Item} {l : List Item} : Swap i i2 (a0 :: i :: l) (a0 :: i2 :: l) := .there _ (.here _)
theorem ss2 {a0 a1 i i2 : Item} {l : List Item} : Swap i i2 (a0 :: a1 :: i :: l) (a0 :: a1 :: i2 :: l) := .there _ (.there _ (.here _))
theorem ss3 {a0 a1 a2 i i2 : Item} {l : List Item} : Swap i i2 (a0 :: a1 :: a2 :: i :: l) (a0 :: a1 :: a2 :: i2 :: l) := .there _ (.there _ (.there _ (.here _)))
theorem ss4 {a0 a1 a2 a3 i i2 : Item} {l : List Item} : Swap i i2 (a0 :: a1 :: a2 :: a3 :: i :: l) (a0 :: a1 :: a2 :: a3 :: i2 :: l) := .there _ (.there _ (.there _ (.there _ (.here _))))
theorem ss5 {a0 a1 a2 a3 a4 i i2 : Item} {l : List Item} : Swap i i2 (a0 :: a1 :: a2 :: a3 :: a4 :: i :: l) (a0 :: a1 :: a2 :: a3 :: a4 :: i2 :: l) := .there _ (.there _ (.there _ (.there _ (.there _ (.here _)))))
theorem ss6 {a0 a1 a2 a3 a4 a5 i i2 : Item} {l : List Item} : Swap i i2 (a0 :: a1 :: a2 :: a3 :: a4 :: a5 :: i :: l) (a0 :: a1 :: a2 :: a3 :: a4 :: a5 :: i2 :: l) := .there _ (.there _ (.there _ (.there _ (.there _ (.there _ (.here _))))))
theorem ss7 {a0 a1 a2 a3 a4 a5 a6 i i2 : Item} {l : List Item} : Swap i i2 (a0 :: a1 :: a2 :: a3 :: a4 :: a5 :: a6 :: i :: l) (a0 :: a1 :: a2 :: a3 :: a4 :: a5 :: a6 :: i2 :: l) := .there _ (.there _ (.there _ (.there _ (.there _ (.there _ (.there _ (.here _)))))))
end Go.Proofs.YtebpacmhdkgfeaaDoor

/- Events on rows: a literal slice, append, an element's address, a load of an element. Over any program. -/
namespace Go.Proofs.YtebpacmhdkgfeaaDoor
open Go.RowKit

class BytesT (P : Program) (ty : TypeId) (n : outParam Nat) : Prop where
  bytes : (P.info? ty).map (·.bytes) = some n
theorem info_of {P : Program} {e : TypeId} {z : Value} {sz by_ : Nat} [hz : ZeroT P e z] [hs : SizeT P e sz] [hb : BytesT P e by_] : (P.info? e).map (fun i => (i.zero, i.size, i.bytes)) = some (some z, sz, by_) := by
  obtain ⟨i, hi, h1⟩ := Option.map_eq_some_iff.1 hz.zero
  have h2 := hs.size
  have h3 := hb.bytes
  simp only [hi, Option.map_some, Option.some.injEq] at h2 h3 ⊢
  rw [h1, h2, h3]
theorem SetAt.all {cs vs : List Value} (h : vs.length = cs.length) : SetAt cs 0 vs vs := by
  induction vs generalizing cs with
  | nil => cases cs with
    | nil => exact .nil _
    | cons c cs => simp at h
  | cons v vs ih => cases cs with
    | nil => simp at h
    | cons c cs => exact .put (ih (by simpa using h))
theorem Seg.of {cs vs : List Value} {j n : Nat} (h : (cs.drop j).take n = vs) (hl : j + n ≤ cs.length) : Seg cs j n vs := by
  subst h
  induction j generalizing cs with
  | zero =>
    induction n generalizing cs with
    | zero => exact .nil _
    | succ n ih => cases cs with
      | nil => simp at hl
      | cons c cs => exact .take (ih (by simp at hl ⊢; omega))
  | succ j ih => cases cs with
    | nil => simp at hl
    | cons c cs => exact .skip (ih (by simp at hl; omega))
theorem range_below {w w1 : World} {g off : Nat} {cs : List Value} (h : w.rangeAt g off cs) (hb : Below w.heap.size w w1) : w1.rangeAt g off cs := fun j v hj => by
  have h1 := h j v hj
  exact (hb.cell (World.block_lt_of_cell? w _ h1)).trans h1
/-- An element of a slice that reads as xs. -/
theorem R_elem {α : Type} {E : Enc α} {w : World} {v : Value} {xs : List α} (h : E.R w v xs) : ∃ ao c, v = .slice ao xs.length c ∧ ∀ i, (hi : i < xs.length) → ∃ g off, ao = some ⟨g, off, none⟩ ∧ w.rangeAt g (off + i * E.sz) (E.cells xs[i]) := by
  obtain ⟨ao, c, rfl, hc, hm, hi⟩ := h.open_
  refine ⟨ao, c, rfl, fun i hl => ?_⟩
  obtain ⟨⟨g, off, spot⟩, rfl, hcell⟩ := hi i hl
  obtain ⟨ad0, e0, h0⟩ := hi 0 (by omega)
  injection e0 with e0
  subst e0
  have h00 := h0 0 E.pos
  have hsp : spot = none := by
    have hl0 : 0 < (E.cells xs[0]).length := by rw [E.len]; exact E.pos
    have h1 : w.cell? ((⟨g, off, spot⟩ : Addr).add (0 * E.sz + 0)) = some ((E.cells xs[0])[0]) := by rw [h00, List.getElem?_eq_getElem hl0]
    simpa [Addr.add] using World.cell?_spot h1
  subst hsp
  refine ⟨g, off, rfl, fun j u hj => ?_⟩
  have hj' : j < E.sz := by have := (List.getElem?_eq_some_iff.1 hj).1; rwa [E.len] at this
  have h1 := hcell j hj'
  have e : (⟨g, off, none⟩ : Addr).add (i * E.sz + j) = ⟨g, off + i * E.sz + j, none⟩ := by
    unfold Addr.add; split <;> simp <;> omega
  rw [e] at h1
  exact h1.trans hj
theorem R_max {α : Type} {E : Enc α} {w : World} {v : Value} {xs : List α} (h : E.R w v xs) : xs.length ≤ 9223372036854775807 := by
  obtain ⟨_, _, _, _, _, hm, _⟩ := h
  exact hm

section
variable {P : Program} {ops : Array Oper} {rest : List Oper} {o : Oper} {a : Act} {Q : Exit → Act → World → Prop} {W w0 : World} {M : Nat → Prop} {l l' : List Item}
theorem gIndex {t : TypeId} {x y : Operand} (_hg : o.guard = none) (_ho : o.op = .indexAddr t x y) (h : wpList P ops Q (o :: rest) a W) : wpList P ops Q (o :: rest) a W := h
theorem gLit {t : TypeId} {n : Nat} {ps : Array (Nat × Operand)} (_hg : o.guard = none) (_ho : o.op = .buildSlice t n ps) (h : wpList P ops Q (o :: rest) a W) : wpList P ops Q (o :: rest) a W := h
theorem run_index {t : TypeId} {x ix : Operand} {g off n c i sz : Nat} {k : IntKind} {e : TypeId} [ht : SliceT P t e] [hsz : SizeT P e sz] (ho : o.op = .indexAddr t x ix) (hx : a.eval x = .slice (some ⟨g, off, none⟩) n c) (hix : a.eval ix = .int k i) (hi : i < n) (w : World) :
    (execOp a.eval o).run P w = .ok (.value (.pointer (some ⟨g, off + i * sz, none⟩))) w := by
  have he : P.elem t = e := by simp [Program.elem, ht.slice]
  obtain ⟨inf, hinf, hs⟩ := Option.map_eq_some_iff.1 hsz.size
  have h1 : (0 : Int) ≤ (i : Int) ∧ (i : Int) < (n : Int) := by omega
  have ha : (⟨g, off, none⟩ : Addr).add (i * sz) = ⟨g, off + i * sz, none⟩ := Addr.add_mid g off _
  simp only [execOp, ho, hx, hix, Sem.run_bind]
  rw [run_indexAt_slice (h := by rw [he]; exact ht.slice), if_pos h1, he]
  simp [sizeOf, typeInfo, hinf, hs, ha]
theorem ev_indexL {t : TypeId} {x ix : Operand} {g off n c i sz : Nat} {k : IntKind} {e : TypeId} [ht : SliceT P t e] [hsz : SizeT P e sz] (hgd : o.guard = none) (ho : o.op = .indexAddr t x ix) (hx : a.eval x = .slice (some ⟨g, off, none⟩) n c) (hix : a.eval ix = .int k i) (hi : i < n)
    (h : wpList P ops Q rest (a.put o.dst (.pointer (some ⟨g, off + i * sz, none⟩))) W) : wpList P ops Q (o :: rest) a W :=
  event hgd (run_index (sz := sz) ho hx hix hi W) h
/-- A load of a range of argument memory. -/
theorem ev_loadR {ty : TypeId} {x : Operand} {n g off : Nat} {cs : List Value} [ha : AggT P ty] [hn : SizeT P ty n] (hgd : o.guard = none) (ho : o.op = .load ty x) (hx : a.eval x = .pointer (some ⟨g, off, none⟩))
    (hr : W.rangeAt g off cs) (hs : cs.length = n) (h : wpList P ops Q rest (a.put o.dst (.agg cs.toArray)) W) : wpList P ops Q (o :: rest) a W := by
  obtain ⟨d, hu, hd⟩ := isRow_of ha.agg
  refine event hgd (v := .agg cs.toArray) (w1 := W) ?_ h
  unfold execOp
  simp only [ho, hx, Instr.loadAt, Instr.sureAddr, Sem.run_bind, Sem.run_pure, Result.andThen_ok, run_loadVar_mid W g off ty cs d hr hu hd (by rw [hs]; exact hn.size)]
theorem ev_loadR1 {ty : TypeId} {x : Operand} {g off : Nat} {v : Value} [ha : OneT P ty] (hgd : o.guard = none) (ho : o.op = .load ty x) (hx : a.eval x = .pointer (some ⟨g, off, none⟩))
    (hr : W.rangeAt g off [v]) (h : wpList P ops Q rest (a.put o.dst v) W) : wpList P ops Q (o :: rest) a W := by
  have hc : W.cell? ⟨g, off, none⟩ = some v := by simpa using hr 0 v rfl
  refine event hgd (v := v) (w1 := W) ?_ h
  unfold execOp
  simp only [ho, hx, Instr.loadAt, Instr.sureAddr, Sem.run_bind, Sem.run_pure, Result.andThen_ok, run_loadVar_cell ha W _ v hc]
/-- A slice made of its parts. -/
theorem ev_litL {t : TypeId} {n : Nat} {parts : Array (Nat × Operand)} {e : TypeId} {sz : Nat} {z : Value} {cs : List Value} [ht : SliceT P t e] [hz : ZeroT P e z] [hs : SizeT P e sz] (hgd : o.guard = none) (hL : Loc w0 M W l) (ho : o.op = .buildSlice t n parts)
    (hn : decide (n * sz ≤ 16777216) = true) (h0 : decide (0 < n * sz) = true) (hfill : Instr.fill (fun i => some (i * sz, sz)) ((Array.range (n * sz)).map fun j => z.cells[j % z.cells.size]!) (parts.map fun (i, x) => (i, a.eval x)).toList = some cs.toArray)
    (h : ∀ g w1, Loc w0 M w1 (var g cs e :: l) → wpList P ops Q rest (a.put o.dst (.slice (some ⟨g, 0, none⟩) n n)) w1) : wpList P ops Q (o :: rest) a W := by
  refine event hgd (v := .slice (some ⟨W.heap.size, 0, none⟩) n n) (w1 := W.alloc (.cells cs.toArray e)) ?_ (h _ _ (hL.callVar (bl_alloc (Below.refl _ _) _) (Box.new W _ e) (Nat.le_refl _)))
  obtain ⟨i, hi, hzz⟩ := Option.map_eq_some_iff.1 hz.zero
  have hsz : i.size = sz := by have := hs.size; simpa [hi] using this
  have h1 : ¬ n * sz > 2 ^ 24 := by have := of_decide_eq_true hn; omega
  have h2 : ¬ n * sz = 0 := by have := of_decide_eq_true h0; omega
  simp at hfill
  simp [execOp, ho, Instr.buildSlice, run_underlying ht.slice, sizeOf, typeInfo, hi, hsz, zeroValue, hzz, h1, h2, hfill, newRow]
/-- append of one element, that a literal holds, onto a row of one's own. -/
theorem ev_app1L {α : Type} {E : Enc α} {s x : Operand} {t e e2 : TypeId} {z : Value} {by_ : Nat} {base g c : Nat} {v : Value} {xs : List α} {cs : List Value} {f : Value → List Item} [ht : SliceT P t e] [hz : ZeroT P e z] [hsz : SizeT P e E.sz] [hb : BytesT P e by_]
    (y : α) (hgd : o.guard = none) (hL : Loc w0 M W l) (ho : o.op = .call { callee := .builtin .append, args := #[s, x], argTypes := #[t, t] }) (hs : a.eval s = v) (hx : a.eval x = .slice (some ⟨g, 0, none⟩) 1 c)
    (hm : var g cs e2 ∈ l) (hsw : ∀ v', Swap (row E base e v xs) (row E base e v' (xs ++ [y])) l (f v')) (hy : cs = E.cells y) (hzc : z.cells.size = E.sz) (hby : decide (by_ ≤ 1000) = true) (h63 : xs.length < 100000000000) (hbase : base ≤ W.heap.size)
    (h : ∀ ao c' w1, Loc w0 M w1 (f (.slice ao (xs.length + 1) c')) → wpList P ops Q rest (a.put o.dst (.slice ao (xs.length + 1) c')) w1) : wpList P ops Q (o :: rest) a W := by
  have hown : E.O W base e v xs := hL.own (hsw v).mem
  have hbx := hL.box hm
  subst hy
  have hR : E.R W (.slice (some ⟨g, 0, none⟩) 1 1) [y] := by
    refine ⟨by rw [Enc.all_length], some ⟨g, 0, none⟩, 1, rfl, Nat.le_refl _, by simp, .inr ⟨_, rfl, fun j u hj => ?_⟩⟩
    have ha : (⟨g, 0, none⟩ : Addr).add j = ⟨g, j, none⟩ := by unfold Addr.add; split <;> simp_all
    rw [ha, hbx.cell j]
    rw [Enc.all_one_elem] at hj
    simpa using hj
  have hsrc : Src P E.sz t (.slice (some ⟨g, 0, none⟩) 1 c) [y].length (E.all [y]) W := Src.ofSlice W ht.slice ⟨g, 0, none⟩ 1 c (E.all [y]) (by rw [Enc.all_length]; rfl) (fun j u hj => by
    have ha : (⟨g, 0, none⟩ : Addr).add j = ⟨g, j, none⟩ := by unfold Addr.add; split <;> simp_all
    rw [ha, hbx.cell j]
    rw [Enc.all_one_elem] at hj
    simpa using hj) (E.all_one [y])
  refine Enc.app (E := E) hgd s x t t ho z by_ ht.slice info_of hzc hs hown hx hsrc (by simp; omega) (of_decide_eq_true hby) hbase ?_
  intro v' w1 h1 h2 h3
  obtain ⟨ao, c', e1, -⟩ := R_elem h1.read
  rw [List.length_append, List.length_singleton] at e1
  subst e1
  exact h ao c' w1 (hL.grow (hsw _) h2 h1 (h3.imp id fun h => ⟨_, h, Nat.le_refl _⟩))
end
section
variable {P : Program} {o : Oper} {a : Act} {K : Act → Prop} {W : World} {C : World → Prop}
theorem quiet_index {t : TypeId} {x ix : Operand} {g off n c i sz : Nat} {k : IntKind} {e : TypeId} [ht : SliceT P t e] [hsz : SizeT P e sz] (ho : o.op = .indexAddr t x ix) (hx : a.eval x = .slice (some ⟨g, off, none⟩) n c) (hix : a.eval ix = .int k i) (hi : i < n)
    (h : K (a.put o.dst (.pointer (some ⟨g, off + i * sz, none⟩)))) : o.quiet P a C K := by
  refine ⟨_, fun w hw => ?_, h⟩
  unfold Oper.quietAt
  rw [run_index (sz := sz) ho hx hix hi w]
  exact ⟨rfl, rfl⟩
theorem quiet_loadR {ty : TypeId} {x : Operand} {n g off : Nat} {cs : List Value} [ha : AggT P ty] [hn : SizeT P ty n] (ho : o.op = .load ty x) (hx : a.eval x = .pointer (some ⟨g, off, none⟩))
    (hr : W.rangeAt g off cs) (hs : cs.length = n) (h : K (a.put o.dst (.agg cs.toArray))) : o.quiet P a (fun w' => ∃ e : Ext W, w' = e.w) K := by
  refine ⟨.agg cs.toArray, ?_, h⟩
  rintro _ ⟨e, rfl⟩
  obtain ⟨d, hu, hd⟩ := isRow_of ha.agg
  unfold Oper.quietAt execOp
  simp only [ho, hx, Instr.loadAt, Instr.sureAddr, Sem.run_bind, Sem.run_pure, Result.andThen_ok, run_loadVar_mid e.w g off ty cs d (range_below hr e.ok) hu hd (by rw [hs]; exact hn.size)]
  exact ⟨rfl, rfl⟩
end
end Go.Proofs.YtebpacmhdkgfeaaDoor

/- The types of the program, by their rows of the table. -/
namespace Go.Proofs.YtebpacmhdkgfeaaDoor
instance : SizeT Tryd.prog 1 1 := ⟨by kernel_rfl⟩
instance : OneT Tryd.prog 1 := ⟨by kernel_rfl, by kernel_rfl⟩
instance : BytesT Tryd.prog 1 8 := ⟨by kernel_rfl⟩
instance : ZeroT Tryd.prog 1 (.nilFunc) := ⟨by kernel_rfl⟩
instance : SizeT Tryd.prog 2 1 := ⟨by kernel_rfl⟩
instance : OneT Tryd.prog 2 := ⟨by kernel_rfl, by kernel_rfl⟩
instance : BytesT Tryd.prog 2 8 := ⟨by kernel_rfl⟩
instance : ZeroT Tryd.prog 2 (.int .i64 0) := ⟨by kernel_rfl⟩
instance : SizeT Tryd.prog 3 1 := ⟨by kernel_rfl⟩
instance : OneT Tryd.prog 3 := ⟨by kernel_rfl, by kernel_rfl⟩
instance : BytesT Tryd.prog 3 8 := ⟨by kernel_rfl⟩
instance : ZeroT Tryd.prog 3 (.int .i64 0) := ⟨by kernel_rfl⟩
instance : SizeT Tryd.prog 4 1 := ⟨by kernel_rfl⟩
instance : OneT Tryd.prog 4 := ⟨by kernel_rfl, by kernel_rfl⟩
instance : BytesT Tryd.prog 4 1 := ⟨by kernel_rfl⟩
instance : ZeroT Tryd.prog 4 (.bool false) := ⟨by kernel_rfl⟩
instance : SizeT Tryd.prog 5 1 := ⟨by kernel_rfl⟩
instance : OneT Tryd.prog 5 := ⟨by kernel_rfl, by kernel_rfl⟩
instance : BytesT Tryd.prog 5 1 := ⟨by kernel_rfl⟩
instance : ZeroT Tryd.prog 5 (.int .u8 0) := ⟨by kernel_rfl⟩
instance : SizeT Tryd.prog 6 1 := ⟨by kernel_rfl⟩
instance : OneT Tryd.prog 6 := ⟨by kernel_rfl, by kernel_rfl⟩
instance : BytesT Tryd.prog 6 1 := ⟨by kernel_rfl⟩
instance : ZeroT Tryd.prog 6 (.int .u8 0) := ⟨by kernel_rfl⟩
instance : SizeT Tryd.prog 7 4 := ⟨by kernel_rfl⟩
instance : AggT Tryd.prog 7 := ⟨by kernel_rfl⟩
instance : BytesT Tryd.prog 7 24 := ⟨by kernel_rfl⟩
instance : ZeroT Tryd.prog 7 (.agg #[.int .i64 0, .int .i64 0, .bool false, .int .u8 0]) := ⟨by kernel_rfl⟩
instance : SizeT Tryd.prog 8 4 := ⟨by kernel_rfl⟩
instance : AggT Tryd.prog 8 := ⟨by kernel_rfl⟩
instance : BytesT Tryd.prog 8 24 := ⟨by kernel_rfl⟩
instance : ZeroT Tryd.prog 8 (.agg #[.int .i64 0, .int .i64 0, .bool false, .int .u8 0]) := ⟨by kernel_rfl⟩
instance : SizeT Tryd.prog 9 1 := ⟨by kernel_rfl⟩
instance : OneT Tryd.prog 9 := ⟨by kernel_rfl, by kernel_rfl⟩
instance : BytesT Tryd.prog 9 16 := ⟨by kernel_rfl⟩
instance : ZeroT Tryd.prog 9 (.string ⟨#[]⟩) := ⟨by kernel_rfl⟩
instance : SizeT Tryd.prog 10 1 := ⟨by kernel_rfl⟩
instance : OneT Tryd.prog 10 := ⟨by kernel_rfl, by kernel_rfl⟩
instance : BytesT Tryd.prog 10 16 := ⟨by kernel_rfl⟩
instance : ZeroT Tryd.prog 10 (.string ⟨#[]⟩) := ⟨by kernel_rfl⟩
instance : SizeT Tryd.prog 11 1 := ⟨by kernel_rfl⟩
instance : OneT Tryd.prog 11 := ⟨by kernel_rfl, by kernel_rfl⟩
instance : BytesT Tryd.prog 11 16 := ⟨by kernel_rfl⟩
instance : ZeroT Tryd.prog 11 (.string ⟨#[]⟩) := ⟨by kernel_rfl⟩
instance : SizeT Tryd.prog 12 1 := ⟨by kernel_rfl⟩
instance : OneT Tryd.prog 12 := ⟨by kernel_rfl, by kernel_rfl⟩
instance : BytesT Tryd.prog 12 8 := ⟨by kernel_rfl⟩
instance : ZeroT Tryd.prog 12 (.int .u64 0) := ⟨by kernel_rfl⟩
instance : SizeT Tryd.prog 13 2 := ⟨by kernel_rfl⟩
instance : AggT Tryd.prog 13 := ⟨by kernel_rfl⟩
instance : BytesT Tryd.prog 13 24 := ⟨by kernel_rfl⟩
instance : ZeroT Tryd.prog 13 (.agg #[.string ⟨#[]⟩, .int .u64 0]) := ⟨by kernel_rfl⟩
instance : SizeT Tryd.prog 14 2 := ⟨by kernel_rfl⟩
instance : AggT Tryd.prog 14 := ⟨by kernel_rfl⟩
instance : BytesT Tryd.prog 14 24 := ⟨by kernel_rfl⟩
instance : ZeroT Tryd.prog 14 (.agg #[.string ⟨#[]⟩, .int .u64 0]) := ⟨by kernel_rfl⟩
instance : SizeT Tryd.prog 15 1 := ⟨by kernel_rfl⟩
instance : OneT Tryd.prog 15 := ⟨by kernel_rfl, by kernel_rfl⟩
instance : BytesT Tryd.prog 15 8 := ⟨by kernel_rfl⟩
instance : ZeroT Tryd.prog 15 (.pointer none) := ⟨by kernel_rfl⟩
instance : SizeT Tryd.prog 16 1 := ⟨by kernel_rfl⟩
instance : OneT Tryd.prog 16 := ⟨by kernel_rfl, by kernel_rfl⟩
instance : BytesT Tryd.prog 16 8 := ⟨by kernel_rfl⟩
instance : ZeroT Tryd.prog 16 (.pointer none) := ⟨by kernel_rfl⟩
instance : SizeT Tryd.prog 17 1 := ⟨by kernel_rfl⟩
instance : OneT Tryd.prog 17 := ⟨by kernel_rfl, by kernel_rfl⟩
instance : BytesT Tryd.prog 17 8 := ⟨by kernel_rfl⟩
instance : ZeroT Tryd.prog 17 (.pointer none) := ⟨by kernel_rfl⟩
instance : SizeT Tryd.prog 18 1 := ⟨by kernel_rfl⟩
instance : AggT Tryd.prog 18 := ⟨by kernel_rfl⟩
instance : BytesT Tryd.prog 18 8 := ⟨by kernel_rfl⟩
instance : ZeroT Tryd.prog 18 (.agg #[.pointer none]) := ⟨by kernel_rfl⟩
instance : SizeT Tryd.prog 19 1 := ⟨by kernel_rfl⟩
instance : AggT Tryd.prog 19 := ⟨by kernel_rfl⟩
instance : BytesT Tryd.prog 19 8 := ⟨by kernel_rfl⟩
instance : ZeroT Tryd.prog 19 (.agg #[.pointer none]) := ⟨by kernel_rfl⟩
instance : SizeT Tryd.prog 20 1 := ⟨by kernel_rfl⟩
instance : OneT Tryd.prog 20 := ⟨by kernel_rfl, by kernel_rfl⟩
instance : BytesT Tryd.prog 20 16 := ⟨by kernel_rfl⟩
instance : ZeroT Tryd.prog 20 (.nilIface) := ⟨by kernel_rfl⟩
instance : SizeT Tryd.prog 21 1 := ⟨by kernel_rfl⟩
instance : OneT Tryd.prog 21 := ⟨by kernel_rfl, by kernel_rfl⟩
instance : BytesT Tryd.prog 21 4 := ⟨by kernel_rfl⟩
instance : ZeroT Tryd.prog 21 (.int .i32 0) := ⟨by kernel_rfl⟩
instance : SizeT Tryd.prog 22 2 := ⟨by kernel_rfl⟩
instance : AggT Tryd.prog 22 := ⟨by kernel_rfl⟩
instance : BytesT Tryd.prog 22 16 := ⟨by kernel_rfl⟩
instance : ZeroT Tryd.prog 22 (.agg #[.int .i64 0, .int .i64 0]) := ⟨by kernel_rfl⟩
instance : SizeT Tryd.prog 23 2 := ⟨by kernel_rfl⟩
instance : AggT Tryd.prog 23 := ⟨by kernel_rfl⟩
instance : BytesT Tryd.prog 23 16 := ⟨by kernel_rfl⟩
instance : ZeroT Tryd.prog 23 (.agg #[.int .i64 0, .int .i64 0]) := ⟨by kernel_rfl⟩
instance : SizeT Tryd.prog 24 8 := ⟨by kernel_rfl⟩
instance : AggT Tryd.prog 24 := ⟨by kernel_rfl⟩
instance : BytesT Tryd.prog 24 64 := ⟨by kernel_rfl⟩
instance : ZeroT Tryd.prog 24 (.agg #[.int .i64 0, .int .i64 0, .int .i64 0, .int .i64 0, .int .i64 0, .int .i64 0, .int .i64 0, .int .i64 0]) := ⟨by kernel_rfl⟩
instance : SizeT Tryd.prog 25 8 := ⟨by kernel_rfl⟩
instance : AggT Tryd.prog 25 := ⟨by kernel_rfl⟩
instance : BytesT Tryd.prog 25 64 := ⟨by kernel_rfl⟩
instance : ZeroT Tryd.prog 25 (.agg #[.int .i64 0, .int .i64 0, .int .i64 0, .int .i64 0, .int .i64 0, .int .i64 0, .int .i64 0, .int .i64 0]) := ⟨by kernel_rfl⟩
instance : SizeT Tryd.prog 26 1 := ⟨by kernel_rfl⟩
instance : OneT Tryd.prog 26 := ⟨by kernel_rfl, by kernel_rfl⟩
instance : BytesT Tryd.prog 26 24 := ⟨by kernel_rfl⟩
instance : ZeroT Tryd.prog 26 (.slice none 0 0) := ⟨by kernel_rfl⟩
instance : SliceT Tryd.prog 26 62 := ⟨by kernel_rfl⟩
instance : SizeT Tryd.prog 27 1 := ⟨by kernel_rfl⟩
instance : OneT Tryd.prog 27 := ⟨by kernel_rfl, by kernel_rfl⟩
instance : BytesT Tryd.prog 27 24 := ⟨by kernel_rfl⟩
instance : ZeroT Tryd.prog 27 (.slice none 0 0) := ⟨by kernel_rfl⟩
instance : SliceT Tryd.prog 27 65 := ⟨by kernel_rfl⟩
instance : SizeT Tryd.prog 28 10 := ⟨by kernel_rfl⟩
instance : AggT Tryd.prog 28 := ⟨by kernel_rfl⟩
instance : BytesT Tryd.prog 28 112 := ⟨by kernel_rfl⟩
instance : ZeroT Tryd.prog 28 (.agg #[.int .i64 0, .int .i64 0, .int .i64 0, .int .i64 0, .int .i64 0, .int .i64 0, .int .i64 0, .int .i64 0, .slice none 0 0, .slice none 0 0]) := ⟨by kernel_rfl⟩
instance : SizeT Tryd.prog 29 10 := ⟨by kernel_rfl⟩
instance : AggT Tryd.prog 29 := ⟨by kernel_rfl⟩
instance : BytesT Tryd.prog 29 112 := ⟨by kernel_rfl⟩
instance : ZeroT Tryd.prog 29 (.agg #[.int .i64 0, .int .i64 0, .int .i64 0, .int .i64 0, .int .i64 0, .int .i64 0, .int .i64 0, .int .i64 0, .slice none 0 0, .slice none 0 0]) := ⟨by kernel_rfl⟩
instance : SizeT Tryd.prog 30 21 := ⟨by kernel_rfl⟩
instance : AggT Tryd.prog 30 := ⟨by kernel_rfl⟩
instance : BytesT Tryd.prog 30 200 := ⟨by kernel_rfl⟩
instance : ZeroT Tryd.prog 30 (.agg #[.int .i64 0, .int .i64 0, .int .i64 0, .int .i64 0, .int .i64 0, .int .i64 0, .int .i64 0, .int .i64 0, .int .i64 0, .int .i64 0, .int .i64 0, .int .i64 0, .int .i64 0, .int .i64 0, .int .i64 0, .int .i64 0, .int .i64 0, .int .i64 0, .int .i64 0, .slice none 0 0, .slice none 0 0]) := ⟨by kernel_rfl⟩
instance : SizeT Tryd.prog 31 21 := ⟨by kernel_rfl⟩
instance : AggT Tryd.prog 31 := ⟨by kernel_rfl⟩
instance : BytesT Tryd.prog 31 200 := ⟨by kernel_rfl⟩
instance : ZeroT Tryd.prog 31 (.agg #[.int .i64 0, .int .i64 0, .int .i64 0, .int .i64 0, .int .i64 0, .int .i64 0, .int .i64 0, .int .i64 0, .int .i64 0, .int .i64 0, .int .i64 0, .int .i64 0, .int .i64 0, .int .i64 0, .int .i64 0, .int .i64 0, .int .i64 0, .int .i64 0, .int .i64 0, .slice none 0 0, .slice none 0 0]) := ⟨by kernel_rfl⟩
instance : SizeT Tryd.prog 32 1 := ⟨by kernel_rfl⟩
instance : OneT Tryd.prog 32 := ⟨by kernel_rfl, by kernel_rfl⟩
instance : BytesT Tryd.prog 32 8 := ⟨by kernel_rfl⟩
instance : ZeroT Tryd.prog 32 (.nilFunc) := ⟨by kernel_rfl⟩
instance : SizeT Tryd.prog 33 1 := ⟨by kernel_rfl⟩
instance : OneT Tryd.prog 33 := ⟨by kernel_rfl, by kernel_rfl⟩
instance : BytesT Tryd.prog 33 8 := ⟨by kernel_rfl⟩
instance : ZeroT Tryd.prog 33 (.nilFunc) := ⟨by kernel_rfl⟩
instance : SizeT Tryd.prog 34 1 := ⟨by kernel_rfl⟩
instance : OneT Tryd.prog 34 := ⟨by kernel_rfl, by kernel_rfl⟩
instance : BytesT Tryd.prog 34 24 := ⟨by kernel_rfl⟩
instance : ZeroT Tryd.prog 34 (.slice none 0 0) := ⟨by kernel_rfl⟩
instance : SliceT Tryd.prog 34 9 := ⟨by kernel_rfl⟩
instance : SizeT Tryd.prog 35 1 := ⟨by kernel_rfl⟩
instance : OneT Tryd.prog 35 := ⟨by kernel_rfl, by kernel_rfl⟩
instance : BytesT Tryd.prog 35 8 := ⟨by kernel_rfl⟩
instance : ZeroT Tryd.prog 35 (.nilFunc) := ⟨by kernel_rfl⟩
instance : SizeT Tryd.prog 36 1 := ⟨by kernel_rfl⟩
instance : OneT Tryd.prog 36 := ⟨by kernel_rfl, by kernel_rfl⟩
instance : BytesT Tryd.prog 36 8 := ⟨by kernel_rfl⟩
instance : ZeroT Tryd.prog 36 (.nilFunc) := ⟨by kernel_rfl⟩
instance : SizeT Tryd.prog 37 1 := ⟨by kernel_rfl⟩
instance : OneT Tryd.prog 37 := ⟨by kernel_rfl, by kernel_rfl⟩
instance : BytesT Tryd.prog 37 8 := ⟨by kernel_rfl⟩
instance : ZeroT Tryd.prog 37 (.nilFunc) := ⟨by kernel_rfl⟩
instance : SizeT Tryd.prog 38 1 := ⟨by kernel_rfl⟩
instance : OneT Tryd.prog 38 := ⟨by kernel_rfl, by kernel_rfl⟩
instance : BytesT Tryd.prog 38 24 := ⟨by kernel_rfl⟩
instance : ZeroT Tryd.prog 38 (.slice none 0 0) := ⟨by kernel_rfl⟩
instance : SliceT Tryd.prog 38 31 := ⟨by kernel_rfl⟩
instance : SizeT Tryd.prog 39 1 := ⟨by kernel_rfl⟩
instance : OneT Tryd.prog 39 := ⟨by kernel_rfl, by kernel_rfl⟩
instance : BytesT Tryd.prog 39 8 := ⟨by kernel_rfl⟩
instance : ZeroT Tryd.prog 39 (.nilFunc) := ⟨by kernel_rfl⟩
instance : SizeT Tryd.prog 40 1 := ⟨by kernel_rfl⟩
instance : OneT Tryd.prog 40 := ⟨by kernel_rfl, by kernel_rfl⟩
instance : BytesT Tryd.prog 40 8 := ⟨by kernel_rfl⟩
instance : ZeroT Tryd.prog 40 (.nilFunc) := ⟨by kernel_rfl⟩
instance : SizeT Tryd.prog 41 1 := ⟨by kernel_rfl⟩
instance : OneT Tryd.prog 41 := ⟨by kernel_rfl, by kernel_rfl⟩
instance : BytesT Tryd.prog 41 8 := ⟨by kernel_rfl⟩
instance : ZeroT Tryd.prog 41 (.int .u64 0) := ⟨by kernel_rfl⟩
instance : SizeT Tryd.prog 42 1 := ⟨by kernel_rfl⟩
instance : OneT Tryd.prog 42 := ⟨by kernel_rfl, by kernel_rfl⟩
instance : BytesT Tryd.prog 42 8 := ⟨by kernel_rfl⟩
instance : ZeroT Tryd.prog 42 (.nilFunc) := ⟨by kernel_rfl⟩
instance : SizeT Tryd.prog 43 1 := ⟨by kernel_rfl⟩
instance : OneT Tryd.prog 43 := ⟨by kernel_rfl, by kernel_rfl⟩
instance : BytesT Tryd.prog 43 8 := ⟨by kernel_rfl⟩
instance : ZeroT Tryd.prog 43 (.nilFunc) := ⟨by kernel_rfl⟩
instance : SizeT Tryd.prog 44 1 := ⟨by kernel_rfl⟩
instance : OneT Tryd.prog 44 := ⟨by kernel_rfl, by kernel_rfl⟩
instance : BytesT Tryd.prog 44 8 := ⟨by kernel_rfl⟩
instance : ZeroT Tryd.prog 44 (.nilFunc) := ⟨by kernel_rfl⟩
instance : SizeT Tryd.prog 45 1 := ⟨by kernel_rfl⟩
instance : OneT Tryd.prog 45 := ⟨by kernel_rfl, by kernel_rfl⟩
instance : BytesT Tryd.prog 45 8 := ⟨by kernel_rfl⟩
instance : ZeroT Tryd.prog 45 (.nilFunc) := ⟨by kernel_rfl⟩
instance : SizeT Tryd.prog 46 1 := ⟨by kernel_rfl⟩
instance : OneT Tryd.prog 46 := ⟨by kernel_rfl, by kernel_rfl⟩
instance : BytesT Tryd.prog 46 24 := ⟨by kernel_rfl⟩
instance : ZeroT Tryd.prog 46 (.slice none 0 0) := ⟨by kernel_rfl⟩
instance : SliceT Tryd.prog 46 47 := ⟨by kernel_rfl⟩
instance : SizeT Tryd.prog 47 2 := ⟨by kernel_rfl⟩
instance : AggT Tryd.prog 47 := ⟨by kernel_rfl⟩
instance : BytesT Tryd.prog 47 16 := ⟨by kernel_rfl⟩
instance : ZeroT Tryd.prog 47 (.agg #[.int .i64 0, .int .i64 0]) := ⟨by kernel_rfl⟩
instance : SizeT Tryd.prog 48 1 := ⟨by kernel_rfl⟩
instance : OneT Tryd.prog 48 := ⟨by kernel_rfl, by kernel_rfl⟩
instance : BytesT Tryd.prog 48 8 := ⟨by kernel_rfl⟩
instance : ZeroT Tryd.prog 48 (.nilFunc) := ⟨by kernel_rfl⟩
instance : SizeT Tryd.prog 49 1 := ⟨by kernel_rfl⟩
instance : OneT Tryd.prog 49 := ⟨by kernel_rfl, by kernel_rfl⟩
instance : BytesT Tryd.prog 49 8 := ⟨by kernel_rfl⟩
instance : ZeroT Tryd.prog 49 (.nilFunc) := ⟨by kernel_rfl⟩
instance : SizeT Tryd.prog 50 1 := ⟨by kernel_rfl⟩
instance : OneT Tryd.prog 50 := ⟨by kernel_rfl, by kernel_rfl⟩
instance : BytesT Tryd.prog 50 8 := ⟨by kernel_rfl⟩
instance : ZeroT Tryd.prog 50 (.nilFunc) := ⟨by kernel_rfl⟩
instance : SizeT Tryd.prog 51 1 := ⟨by kernel_rfl⟩
instance : OneT Tryd.prog 51 := ⟨by kernel_rfl, by kernel_rfl⟩
instance : BytesT Tryd.prog 51 8 := ⟨by kernel_rfl⟩
instance : ZeroT Tryd.prog 51 (.nilFunc) := ⟨by kernel_rfl⟩
instance : SizeT Tryd.prog 52 1 := ⟨by kernel_rfl⟩
instance : OneT Tryd.prog 52 := ⟨by kernel_rfl, by kernel_rfl⟩
instance : BytesT Tryd.prog 52 8 := ⟨by kernel_rfl⟩
instance : ZeroT Tryd.prog 52 (.nilFunc) := ⟨by kernel_rfl⟩
instance : SizeT Tryd.prog 53 1 := ⟨by kernel_rfl⟩
instance : OneT Tryd.prog 53 := ⟨by kernel_rfl, by kernel_rfl⟩
instance : BytesT Tryd.prog 53 8 := ⟨by kernel_rfl⟩
instance : ZeroT Tryd.prog 53 (.nilFunc) := ⟨by kernel_rfl⟩
instance : SizeT Tryd.prog 54 1 := ⟨by kernel_rfl⟩
instance : OneT Tryd.prog 54 := ⟨by kernel_rfl, by kernel_rfl⟩
instance : BytesT Tryd.prog 54 8 := ⟨by kernel_rfl⟩
instance : ZeroT Tryd.prog 54 (.int .u64 0) := ⟨by kernel_rfl⟩
instance : SizeT Tryd.prog 55 4 := ⟨by kernel_rfl⟩
instance : AggT Tryd.prog 55 := ⟨by kernel_rfl⟩
instance : BytesT Tryd.prog 55 32 := ⟨by kernel_rfl⟩
instance : ZeroT Tryd.prog 55 (.agg #[.int .i64 0, .int .i64 0, .int .i64 0, .int .u64 0]) := ⟨by kernel_rfl⟩
instance : SizeT Tryd.prog 56 4 := ⟨by kernel_rfl⟩
instance : AggT Tryd.prog 56 := ⟨by kernel_rfl⟩
instance : BytesT Tryd.prog 56 32 := ⟨by kernel_rfl⟩
instance : ZeroT Tryd.prog 56 (.agg #[.int .i64 0, .int .i64 0, .int .i64 0, .int .u64 0]) := ⟨by kernel_rfl⟩
instance : SizeT Tryd.prog 57 3 := ⟨by kernel_rfl⟩
instance : AggT Tryd.prog 57 := ⟨by kernel_rfl⟩
instance : BytesT Tryd.prog 57 24 := ⟨by kernel_rfl⟩
instance : ZeroT Tryd.prog 57 (.agg #[.int .i64 0, .int .i64 0, .int .i64 0]) := ⟨by kernel_rfl⟩
instance : SizeT Tryd.prog 58 3 := ⟨by kernel_rfl⟩
instance : AggT Tryd.prog 58 := ⟨by kernel_rfl⟩
instance : BytesT Tryd.prog 58 24 := ⟨by kernel_rfl⟩
instance : ZeroT Tryd.prog 58 (.agg #[.int .i64 0, .int .i64 0, .int .i64 0]) := ⟨by kernel_rfl⟩
instance : SizeT Tryd.prog 59 1 := ⟨by kernel_rfl⟩
instance : OneT Tryd.prog 59 := ⟨by kernel_rfl, by kernel_rfl⟩
instance : BytesT Tryd.prog 59 24 := ⟨by kernel_rfl⟩
instance : ZeroT Tryd.prog 59 (.slice none 0 0) := ⟨by kernel_rfl⟩
instance : SliceT Tryd.prog 59 80 := ⟨by kernel_rfl⟩
instance : SizeT Tryd.prog 60 1 := ⟨by kernel_rfl⟩
instance : OneT Tryd.prog 60 := ⟨by kernel_rfl, by kernel_rfl⟩
instance : BytesT Tryd.prog 60 24 := ⟨by kernel_rfl⟩
instance : ZeroT Tryd.prog 60 (.slice none 0 0) := ⟨by kernel_rfl⟩
instance : SliceT Tryd.prog 60 82 := ⟨by kernel_rfl⟩
instance : SizeT Tryd.prog 61 13 := ⟨by kernel_rfl⟩
instance : AggT Tryd.prog 61 := ⟨by kernel_rfl⟩
instance : BytesT Tryd.prog 61 144 := ⟨by kernel_rfl⟩
instance : ZeroT Tryd.prog 61 (.agg #[.int .i64 0, .int .i64 0, .int .i64 0, .string ⟨#[]⟩, .int .i64 0, .int .i64 0, .int .i64 0, .int .u64 0, .int .i64 0, .int .i64 0, .int .i64 0, .slice none 0 0, .slice none 0 0]) := ⟨by kernel_rfl⟩
instance : SizeT Tryd.prog 62 13 := ⟨by kernel_rfl⟩
instance : AggT Tryd.prog 62 := ⟨by kernel_rfl⟩
instance : BytesT Tryd.prog 62 144 := ⟨by kernel_rfl⟩
instance : ZeroT Tryd.prog 62 (.agg #[.int .i64 0, .int .i64 0, .int .i64 0, .string ⟨#[]⟩, .int .i64 0, .int .i64 0, .int .i64 0, .int .u64 0, .int .i64 0, .int .i64 0, .int .i64 0, .slice none 0 0, .slice none 0 0]) := ⟨by kernel_rfl⟩
instance : SizeT Tryd.prog 63 1 := ⟨by kernel_rfl⟩
instance : OneT Tryd.prog 63 := ⟨by kernel_rfl, by kernel_rfl⟩
instance : BytesT Tryd.prog 63 8 := ⟨by kernel_rfl⟩
instance : ZeroT Tryd.prog 63 (.nilFunc) := ⟨by kernel_rfl⟩
instance : SizeT Tryd.prog 64 25 := ⟨by kernel_rfl⟩
instance : AggT Tryd.prog 64 := ⟨by kernel_rfl⟩
instance : BytesT Tryd.prog 64 208 := ⟨by kernel_rfl⟩
instance : ZeroT Tryd.prog 64 (.agg #[.int .i64 0, .int .i64 0, .int .i64 0, .int .i64 0, .int .i64 0, .int .i64 0, .int .i64 0, .int .i64 0, .string ⟨#[]⟩, .int .i64 0, .int .i64 0, .int .i64 0, .int .i64 0, .int .i64 0, .int .i64 0, .int .i64 0, .int .i64 0, .int .i64 0, .int .i64 0, .int .i64 0, .int .i64 0, .int .i64 0, .int .i64 0, .int .i64 0, .int .i64 0]) := ⟨by kernel_rfl⟩
instance : SizeT Tryd.prog 65 25 := ⟨by kernel_rfl⟩
instance : AggT Tryd.prog 65 := ⟨by kernel_rfl⟩
instance : BytesT Tryd.prog 65 208 := ⟨by kernel_rfl⟩
instance : ZeroT Tryd.prog 65 (.agg #[.int .i64 0, .int .i64 0, .int .i64 0, .int .i64 0, .int .i64 0, .int .i64 0, .int .i64 0, .int .i64 0, .string ⟨#[]⟩, .int .i64 0, .int .i64 0, .int .i64 0, .int .i64 0, .int .i64 0, .int .i64 0, .int .i64 0, .int .i64 0, .int .i64 0, .int .i64 0, .int .i64 0, .int .i64 0, .int .i64 0, .int .i64 0, .int .i64 0, .int .i64 0]) := ⟨by kernel_rfl⟩
instance : SizeT Tryd.prog 66 1 := ⟨by kernel_rfl⟩
instance : OneT Tryd.prog 66 := ⟨by kernel_rfl, by kernel_rfl⟩
instance : BytesT Tryd.prog 66 8 := ⟨by kernel_rfl⟩
instance : ZeroT Tryd.prog 66 (.nilFunc) := ⟨by kernel_rfl⟩
instance : SizeT Tryd.prog 67 1 := ⟨by kernel_rfl⟩
instance : OneT Tryd.prog 67 := ⟨by kernel_rfl, by kernel_rfl⟩
instance : BytesT Tryd.prog 67 8 := ⟨by kernel_rfl⟩
instance : ZeroT Tryd.prog 67 (.nilFunc) := ⟨by kernel_rfl⟩
instance : SizeT Tryd.prog 68 1 := ⟨by kernel_rfl⟩
instance : OneT Tryd.prog 68 := ⟨by kernel_rfl, by kernel_rfl⟩
instance : BytesT Tryd.prog 68 8 := ⟨by kernel_rfl⟩
instance : ZeroT Tryd.prog 68 (.nilFunc) := ⟨by kernel_rfl⟩
instance : SizeT Tryd.prog 69 1 := ⟨by kernel_rfl⟩
instance : OneT Tryd.prog 69 := ⟨by kernel_rfl, by kernel_rfl⟩
instance : BytesT Tryd.prog 69 8 := ⟨by kernel_rfl⟩
instance : ZeroT Tryd.prog 69 (.nilFunc) := ⟨by kernel_rfl⟩
instance : SizeT Tryd.prog 70 1 := ⟨by kernel_rfl⟩
instance : OneT Tryd.prog 70 := ⟨by kernel_rfl, by kernel_rfl⟩
instance : BytesT Tryd.prog 70 8 := ⟨by kernel_rfl⟩
instance : ZeroT Tryd.prog 70 (.nilFunc) := ⟨by kernel_rfl⟩
instance : SizeT Tryd.prog 71 1 := ⟨by kernel_rfl⟩
instance : OneT Tryd.prog 71 := ⟨by kernel_rfl, by kernel_rfl⟩
instance : BytesT Tryd.prog 71 24 := ⟨by kernel_rfl⟩
instance : ZeroT Tryd.prog 71 (.slice none 0 0) := ⟨by kernel_rfl⟩
instance : SliceT Tryd.prog 71 38 := ⟨by kernel_rfl⟩
instance : SizeT Tryd.prog 72 1 := ⟨by kernel_rfl⟩
instance : OneT Tryd.prog 72 := ⟨by kernel_rfl, by kernel_rfl⟩
instance : BytesT Tryd.prog 72 8 := ⟨by kernel_rfl⟩
instance : ZeroT Tryd.prog 72 (.nilFunc) := ⟨by kernel_rfl⟩
instance : SizeT Tryd.prog 73 1 := ⟨by kernel_rfl⟩
instance : OneT Tryd.prog 73 := ⟨by kernel_rfl, by kernel_rfl⟩
instance : BytesT Tryd.prog 73 8 := ⟨by kernel_rfl⟩
instance : ZeroT Tryd.prog 73 (.nilFunc) := ⟨by kernel_rfl⟩
instance : SizeT Tryd.prog 74 1 := ⟨by kernel_rfl⟩
instance : OneT Tryd.prog 74 := ⟨by kernel_rfl, by kernel_rfl⟩
instance : BytesT Tryd.prog 74 8 := ⟨by kernel_rfl⟩
instance : ZeroT Tryd.prog 74 (.nilFunc) := ⟨by kernel_rfl⟩
instance : SizeT Tryd.prog 75 1 := ⟨by kernel_rfl⟩
instance : OneT Tryd.prog 75 := ⟨by kernel_rfl, by kernel_rfl⟩
instance : BytesT Tryd.prog 75 8 := ⟨by kernel_rfl⟩
instance : ZeroT Tryd.prog 75 (.nilFunc) := ⟨by kernel_rfl⟩
instance : SizeT Tryd.prog 76 1 := ⟨by kernel_rfl⟩
instance : OneT Tryd.prog 76 := ⟨by kernel_rfl, by kernel_rfl⟩
instance : BytesT Tryd.prog 76 8 := ⟨by kernel_rfl⟩
instance : ZeroT Tryd.prog 76 (.nilFunc) := ⟨by kernel_rfl⟩
instance : SizeT Tryd.prog 77 1 := ⟨by kernel_rfl⟩
instance : OneT Tryd.prog 77 := ⟨by kernel_rfl, by kernel_rfl⟩
instance : BytesT Tryd.prog 77 8 := ⟨by kernel_rfl⟩
instance : ZeroT Tryd.prog 77 (.nilFunc) := ⟨by kernel_rfl⟩
instance : SizeT Tryd.prog 78 1 := ⟨by kernel_rfl⟩
instance : OneT Tryd.prog 78 := ⟨by kernel_rfl, by kernel_rfl⟩
instance : BytesT Tryd.prog 78 8 := ⟨by kernel_rfl⟩
instance : ZeroT Tryd.prog 78 (.nilFunc) := ⟨by kernel_rfl⟩
instance : SizeT Tryd.prog 79 4 := ⟨by kernel_rfl⟩
instance : AggT Tryd.prog 79 := ⟨by kernel_rfl⟩
instance : BytesT Tryd.prog 79 40 := ⟨by kernel_rfl⟩
instance : ZeroT Tryd.prog 79 (.agg #[.int .i64 0, .int .i64 0, .int .i64 0, .string ⟨#[]⟩]) := ⟨by kernel_rfl⟩
instance : SizeT Tryd.prog 80 4 := ⟨by kernel_rfl⟩
instance : AggT Tryd.prog 80 := ⟨by kernel_rfl⟩
instance : BytesT Tryd.prog 80 40 := ⟨by kernel_rfl⟩
instance : ZeroT Tryd.prog 80 (.agg #[.int .i64 0, .int .i64 0, .int .i64 0, .string ⟨#[]⟩]) := ⟨by kernel_rfl⟩
instance : SizeT Tryd.prog 81 5 := ⟨by kernel_rfl⟩
instance : AggT Tryd.prog 81 := ⟨by kernel_rfl⟩
instance : BytesT Tryd.prog 81 56 := ⟨by kernel_rfl⟩
instance : ZeroT Tryd.prog 81 (.agg #[.string ⟨#[]⟩, .int .i64 0, .int .i64 0, .string ⟨#[]⟩, .bool false]) := ⟨by kernel_rfl⟩
instance : SizeT Tryd.prog 82 5 := ⟨by kernel_rfl⟩
instance : AggT Tryd.prog 82 := ⟨by kernel_rfl⟩
instance : BytesT Tryd.prog 82 56 := ⟨by kernel_rfl⟩
instance : ZeroT Tryd.prog 82 (.agg #[.string ⟨#[]⟩, .int .i64 0, .int .i64 0, .string ⟨#[]⟩, .bool false]) := ⟨by kernel_rfl⟩
instance : SizeT Tryd.prog 83 1 := ⟨by kernel_rfl⟩
instance : OneT Tryd.prog 83 := ⟨by kernel_rfl, by kernel_rfl⟩
instance : BytesT Tryd.prog 83 8 := ⟨by kernel_rfl⟩
instance : ZeroT Tryd.prog 83 (.nilFunc) := ⟨by kernel_rfl⟩
instance : SizeT Tryd.prog 84 1 := ⟨by kernel_rfl⟩
instance : OneT Tryd.prog 84 := ⟨by kernel_rfl, by kernel_rfl⟩
instance : BytesT Tryd.prog 84 8 := ⟨by kernel_rfl⟩
instance : ZeroT Tryd.prog 84 (.nilFunc) := ⟨by kernel_rfl⟩
instance : SizeT Tryd.prog 85 1 := ⟨by kernel_rfl⟩
instance : OneT Tryd.prog 85 := ⟨by kernel_rfl, by kernel_rfl⟩
instance : BytesT Tryd.prog 85 8 := ⟨by kernel_rfl⟩
instance : ZeroT Tryd.prog 85 (.nilFunc) := ⟨by kernel_rfl⟩
instance : SizeT Tryd.prog 86 1 := ⟨by kernel_rfl⟩
instance : OneT Tryd.prog 86 := ⟨by kernel_rfl, by kernel_rfl⟩
instance : BytesT Tryd.prog 86 8 := ⟨by kernel_rfl⟩
instance : ZeroT Tryd.prog 86 (.nilFunc) := ⟨by kernel_rfl⟩
instance : SizeT Tryd.prog 87 1 := ⟨by kernel_rfl⟩
instance : OneT Tryd.prog 87 := ⟨by kernel_rfl, by kernel_rfl⟩
instance : BytesT Tryd.prog 87 24 := ⟨by kernel_rfl⟩
instance : ZeroT Tryd.prog 87 (.slice none 0 0) := ⟨by kernel_rfl⟩
instance : SliceT Tryd.prog 87 5 := ⟨by kernel_rfl⟩
instance : SizeT Tryd.prog 88 1 := ⟨by kernel_rfl⟩
instance : OneT Tryd.prog 88 := ⟨by kernel_rfl, by kernel_rfl⟩
instance : BytesT Tryd.prog 88 8 := ⟨by kernel_rfl⟩
instance : ZeroT Tryd.prog 88 (.nilFunc) := ⟨by kernel_rfl⟩
instance : SizeT Tryd.prog 89 1 := ⟨by kernel_rfl⟩
instance : OneT Tryd.prog 89 := ⟨by kernel_rfl, by kernel_rfl⟩
instance : BytesT Tryd.prog 89 8 := ⟨by kernel_rfl⟩
instance : ZeroT Tryd.prog 89 (.nilFunc) := ⟨by kernel_rfl⟩
instance : SizeT Tryd.prog 90 1 := ⟨by kernel_rfl⟩
instance : OneT Tryd.prog 90 := ⟨by kernel_rfl, by kernel_rfl⟩
instance : BytesT Tryd.prog 90 8 := ⟨by kernel_rfl⟩
instance : ZeroT Tryd.prog 90 (.nilFunc) := ⟨by kernel_rfl⟩
instance : SizeT Tryd.prog 91 1 := ⟨by kernel_rfl⟩
instance : OneT Tryd.prog 91 := ⟨by kernel_rfl, by kernel_rfl⟩
instance : BytesT Tryd.prog 91 8 := ⟨by kernel_rfl⟩
instance : ZeroT Tryd.prog 91 (.nilFunc) := ⟨by kernel_rfl⟩
instance : SizeT Tryd.prog 92 1 := ⟨by kernel_rfl⟩
instance : OneT Tryd.prog 92 := ⟨by kernel_rfl, by kernel_rfl⟩
instance : BytesT Tryd.prog 92 8 := ⟨by kernel_rfl⟩
instance : ZeroT Tryd.prog 92 (.nilFunc) := ⟨by kernel_rfl⟩
instance : SizeT Tryd.prog 93 1 := ⟨by kernel_rfl⟩
instance : OneT Tryd.prog 93 := ⟨by kernel_rfl, by kernel_rfl⟩
instance : BytesT Tryd.prog 93 8 := ⟨by kernel_rfl⟩
instance : ZeroT Tryd.prog 93 (.nilFunc) := ⟨by kernel_rfl⟩
instance : SizeT Tryd.prog 94 1 := ⟨by kernel_rfl⟩
instance : OneT Tryd.prog 94 := ⟨by kernel_rfl, by kernel_rfl⟩
instance : BytesT Tryd.prog 94 8 := ⟨by kernel_rfl⟩
instance : ZeroT Tryd.prog 94 (.nilFunc) := ⟨by kernel_rfl⟩
instance : SizeT Tryd.prog 95 1 := ⟨by kernel_rfl⟩
instance : OneT Tryd.prog 95 := ⟨by kernel_rfl, by kernel_rfl⟩
instance : BytesT Tryd.prog 95 24 := ⟨by kernel_rfl⟩
instance : ZeroT Tryd.prog 95 (.slice none 0 0) := ⟨by kernel_rfl⟩
instance : SliceT Tryd.prog 95 34 := ⟨by kernel_rfl⟩
instance : SizeT Tryd.prog 96 1 := ⟨by kernel_rfl⟩
instance : OneT Tryd.prog 96 := ⟨by kernel_rfl, by kernel_rfl⟩
instance : BytesT Tryd.prog 96 8 := ⟨by kernel_rfl⟩
instance : ZeroT Tryd.prog 96 (.nilFunc) := ⟨by kernel_rfl⟩
instance : SizeT Tryd.prog 97 1 := ⟨by kernel_rfl⟩
instance : OneT Tryd.prog 97 := ⟨by kernel_rfl, by kernel_rfl⟩
instance : BytesT Tryd.prog 97 8 := ⟨by kernel_rfl⟩
instance : ZeroT Tryd.prog 97 (.pointer none) := ⟨by kernel_rfl⟩
instance : SizeT Tryd.prog 98 2 := ⟨by kernel_rfl⟩
instance : AggT Tryd.prog 98 := ⟨by kernel_rfl⟩
instance : BytesT Tryd.prog 98 32 := ⟨by kernel_rfl⟩
instance : ZeroT Tryd.prog 98 (.agg #[.pointer none, .slice none 0 0]) := ⟨by kernel_rfl⟩
instance : SizeT Tryd.prog 99 2 := ⟨by kernel_rfl⟩
instance : AggT Tryd.prog 99 := ⟨by kernel_rfl⟩
instance : BytesT Tryd.prog 99 32 := ⟨by kernel_rfl⟩
instance : ZeroT Tryd.prog 99 (.agg #[.pointer none, .slice none 0 0]) := ⟨by kernel_rfl⟩
instance : SizeT Tryd.prog 100 1 := ⟨by kernel_rfl⟩
instance : OneT Tryd.prog 100 := ⟨by kernel_rfl, by kernel_rfl⟩
instance : BytesT Tryd.prog 100 8 := ⟨by kernel_rfl⟩
instance : ZeroT Tryd.prog 100 (.nilFunc) := ⟨by kernel_rfl⟩
instance : SizeT Tryd.prog 101 1 := ⟨by kernel_rfl⟩
instance : OneT Tryd.prog 101 := ⟨by kernel_rfl, by kernel_rfl⟩
instance : BytesT Tryd.prog 101 16 := ⟨by kernel_rfl⟩
instance : ZeroT Tryd.prog 101 (.nilIface) := ⟨by kernel_rfl⟩
instance : SizeT Tryd.prog 102 1 := ⟨by kernel_rfl⟩
instance : OneT Tryd.prog 102 := ⟨by kernel_rfl, by kernel_rfl⟩
instance : BytesT Tryd.prog 102 16 := ⟨by kernel_rfl⟩
instance : ZeroT Tryd.prog 102 (.nilIface) := ⟨by kernel_rfl⟩
instance : SizeT Tryd.prog 104 1 := ⟨by kernel_rfl⟩
instance : OneT Tryd.prog 104 := ⟨by kernel_rfl, by kernel_rfl⟩
instance : BytesT Tryd.prog 104 8 := ⟨by kernel_rfl⟩
instance : ZeroT Tryd.prog 104 (.nilFunc) := ⟨by kernel_rfl⟩
instance : SizeT Tryd.prog 105 1 := ⟨by kernel_rfl⟩
instance : OneT Tryd.prog 105 := ⟨by kernel_rfl, by kernel_rfl⟩
instance : BytesT Tryd.prog 105 8 := ⟨by kernel_rfl⟩
instance : ZeroT Tryd.prog 105 (.nilFunc) := ⟨by kernel_rfl⟩
instance : SizeT Tryd.prog 106 1 := ⟨by kernel_rfl⟩
instance : OneT Tryd.prog 106 := ⟨by kernel_rfl, by kernel_rfl⟩
instance : BytesT Tryd.prog 106 8 := ⟨by kernel_rfl⟩
instance : ZeroT Tryd.prog 106 (.nilFunc) := ⟨by kernel_rfl⟩
instance : SizeT Tryd.prog 107 1 := ⟨by kernel_rfl⟩
instance : OneT Tryd.prog 107 := ⟨by kernel_rfl, by kernel_rfl⟩
instance : BytesT Tryd.prog 107 8 := ⟨by kernel_rfl⟩
instance : ZeroT Tryd.prog 107 (.nilFunc) := ⟨by kernel_rfl⟩
instance : SizeT Tryd.prog 108 1 := ⟨by kernel_rfl⟩
instance : OneT Tryd.prog 108 := ⟨by kernel_rfl, by kernel_rfl⟩
instance : BytesT Tryd.prog 108 8 := ⟨by kernel_rfl⟩
instance : ZeroT Tryd.prog 108 (.nilFunc) := ⟨by kernel_rfl⟩
instance : SizeT Tryd.prog 109 24 := ⟨by kernel_rfl⟩
instance : AggT Tryd.prog 109 := ⟨by kernel_rfl⟩
instance : BytesT Tryd.prog 109 24 := ⟨by kernel_rfl⟩
instance : ZeroT Tryd.prog 109 (.agg #[.int .u8 0, .int .u8 0, .int .u8 0, .int .u8 0, .int .u8 0, .int .u8 0, .int .u8 0, .int .u8 0, .int .u8 0, .int .u8 0, .int .u8 0, .int .u8 0, .int .u8 0, .int .u8 0, .int .u8 0, .int .u8 0, .int .u8 0, .int .u8 0, .int .u8 0, .int .u8 0, .int .u8 0, .int .u8 0, .int .u8 0, .int .u8 0]) := ⟨by kernel_rfl⟩
instance : SizeT Tryd.prog 110 1 := ⟨by kernel_rfl⟩
instance : OneT Tryd.prog 110 := ⟨by kernel_rfl, by kernel_rfl⟩
instance : BytesT Tryd.prog 110 8 := ⟨by kernel_rfl⟩
instance : ZeroT Tryd.prog 110 (.nilFunc) := ⟨by kernel_rfl⟩
instance : SizeT Tryd.prog 111 1 := ⟨by kernel_rfl⟩
instance : OneT Tryd.prog 111 := ⟨by kernel_rfl, by kernel_rfl⟩
instance : BytesT Tryd.prog 111 8 := ⟨by kernel_rfl⟩
instance : ZeroT Tryd.prog 111 (.nilFunc) := ⟨by kernel_rfl⟩
instance : SizeT Tryd.prog 113 1 := ⟨by kernel_rfl⟩
instance : OneT Tryd.prog 113 := ⟨by kernel_rfl, by kernel_rfl⟩
instance : BytesT Tryd.prog 113 8 := ⟨by kernel_rfl⟩
instance : ZeroT Tryd.prog 113 (.nilFunc) := ⟨by kernel_rfl⟩
instance : SizeT Tryd.prog 114 1 := ⟨by kernel_rfl⟩
instance : OneT Tryd.prog 114 := ⟨by kernel_rfl, by kernel_rfl⟩
instance : BytesT Tryd.prog 114 8 := ⟨by kernel_rfl⟩
instance : ZeroT Tryd.prog 114 (.pointer none) := ⟨by kernel_rfl⟩
instance : SizeT Tryd.prog 115 1 := ⟨by kernel_rfl⟩
instance : OneT Tryd.prog 115 := ⟨by kernel_rfl, by kernel_rfl⟩
instance : BytesT Tryd.prog 115 8 := ⟨by kernel_rfl⟩
instance : ZeroT Tryd.prog 115 (.nilFunc) := ⟨by kernel_rfl⟩
instance : SizeT Tryd.prog 116 1 := ⟨by kernel_rfl⟩
instance : OneT Tryd.prog 116 := ⟨by kernel_rfl, by kernel_rfl⟩
instance : BytesT Tryd.prog 116 8 := ⟨by kernel_rfl⟩
instance : ZeroT Tryd.prog 116 (.nilFunc) := ⟨by kernel_rfl⟩
instance : SizeT Tryd.prog 117 20 := ⟨by kernel_rfl⟩
instance : AggT Tryd.prog 117 := ⟨by kernel_rfl⟩
instance : BytesT Tryd.prog 117 160 := ⟨by kernel_rfl⟩
instance : ZeroT Tryd.prog 117 (.agg #[.int .u64 0, .int .u64 0, .int .u64 0, .int .u64 0, .int .u64 0, .int .u64 0, .int .u64 0, .int .u64 0, .int .u64 0, .int .u64 0, .int .u64 0, .int .u64 0, .int .u64 0, .int .u64 0, .int .u64 0, .int .u64 0, .int .u64 0, .int .u64 0, .int .u64 0, .int .u64 0]) := ⟨by kernel_rfl⟩
instance : SizeT Tryd.prog 118 1 := ⟨by kernel_rfl⟩
instance : OneT Tryd.prog 118 := ⟨by kernel_rfl, by kernel_rfl⟩
instance : BytesT Tryd.prog 118 4 := ⟨by kernel_rfl⟩
instance : ZeroT Tryd.prog 118 (.int .u32 0) := ⟨by kernel_rfl⟩
instance : SizeT Tryd.prog 119 65 := ⟨by kernel_rfl⟩
instance : AggT Tryd.prog 119 := ⟨by kernel_rfl⟩
instance : BytesT Tryd.prog 119 65 := ⟨by kernel_rfl⟩
instance : ZeroT Tryd.prog 119 (.agg #[.int .u8 0, .int .u8 0, .int .u8 0, .int .u8 0, .int .u8 0, .int .u8 0, .int .u8 0, .int .u8 0, .int .u8 0, .int .u8 0, .int .u8 0, .int .u8 0, .int .u8 0, .int .u8 0, .int .u8 0, .int .u8 0, .int .u8 0, .int .u8 0, .int .u8 0, .int .u8 0, .int .u8 0, .int .u8 0, .int .u8 0, .int .u8 0, .int .u8 0, .int .u8 0, .int .u8 0, .int .u8 0, .int .u8 0, .int .u8 0, .int .u8 0, .int .u8 0, .int .u8 0, .int .u8 0, .int .u8 0, .int .u8 0, .int .u8 0, .int .u8 0, .int .u8 0, .int .u8 0, .int .u8 0, .int .u8 0, .int .u8 0, .int .u8 0, .int .u8 0, .int .u8 0, .int .u8 0, .int .u8 0, .int .u8 0, .int .u8 0, .int .u8 0, .int .u8 0, .int .u8 0, .int .u8 0, .int .u8 0, .int .u8 0, .int .u8 0, .int .u8 0, .int .u8 0, .int .u8 0, .int .u8 0, .int .u8 0, .int .u8 0, .int .u8 0, .int .u8 0]) := ⟨by kernel_rfl⟩
instance : SizeT Tryd.prog 120 1 := ⟨by kernel_rfl⟩
instance : OneT Tryd.prog 120 := ⟨by kernel_rfl, by kernel_rfl⟩
instance : BytesT Tryd.prog 120 8 := ⟨by kernel_rfl⟩
instance : ZeroT Tryd.prog 120 (.nilFunc) := ⟨by kernel_rfl⟩
instance : SizeT Tryd.prog 121 1 := ⟨by kernel_rfl⟩
instance : OneT Tryd.prog 121 := ⟨by kernel_rfl, by kernel_rfl⟩
instance : BytesT Tryd.prog 121 8 := ⟨by kernel_rfl⟩
instance : ZeroT Tryd.prog 121 (.nilFunc) := ⟨by kernel_rfl⟩
instance : SizeT Tryd.prog 122 1 := ⟨by kernel_rfl⟩
instance : OneT Tryd.prog 122 := ⟨by kernel_rfl, by kernel_rfl⟩
instance : BytesT Tryd.prog 122 8 := ⟨by kernel_rfl⟩
instance : ZeroT Tryd.prog 122 (.pointer none) := ⟨by kernel_rfl⟩
instance : SizeT Tryd.prog 123 1 := ⟨by kernel_rfl⟩
instance : OneT Tryd.prog 123 := ⟨by kernel_rfl, by kernel_rfl⟩
instance : BytesT Tryd.prog 123 8 := ⟨by kernel_rfl⟩
instance : ZeroT Tryd.prog 123 (.nilFunc) := ⟨by kernel_rfl⟩
instance : SizeT Tryd.prog 124 1 := ⟨by kernel_rfl⟩
instance : OneT Tryd.prog 124 := ⟨by kernel_rfl, by kernel_rfl⟩
instance : BytesT Tryd.prog 124 8 := ⟨by kernel_rfl⟩
instance : ZeroT Tryd.prog 124 (.nilFunc) := ⟨by kernel_rfl⟩
instance : SizeT Tryd.prog 125 1 := ⟨by kernel_rfl⟩
instance : OneT Tryd.prog 125 := ⟨by kernel_rfl, by kernel_rfl⟩
instance : BytesT Tryd.prog 125 8 := ⟨by kernel_rfl⟩
instance : ZeroT Tryd.prog 125 (.nilFunc) := ⟨by kernel_rfl⟩
instance : SizeT Tryd.prog 126 32 := ⟨by kernel_rfl⟩
instance : AggT Tryd.prog 126 := ⟨by kernel_rfl⟩
instance : BytesT Tryd.prog 126 32 := ⟨by kernel_rfl⟩
instance : ZeroT Tryd.prog 126 (.agg #[.int .u8 0, .int .u8 0, .int .u8 0, .int .u8 0, .int .u8 0, .int .u8 0, .int .u8 0, .int .u8 0, .int .u8 0, .int .u8 0, .int .u8 0, .int .u8 0, .int .u8 0, .int .u8 0, .int .u8 0, .int .u8 0, .int .u8 0, .int .u8 0, .int .u8 0, .int .u8 0, .int .u8 0, .int .u8 0, .int .u8 0, .int .u8 0, .int .u8 0, .int .u8 0, .int .u8 0, .int .u8 0, .int .u8 0, .int .u8 0, .int .u8 0, .int .u8 0]) := ⟨by kernel_rfl⟩
instance : SizeT Tryd.prog 127 64 := ⟨by kernel_rfl⟩
instance : AggT Tryd.prog 127 := ⟨by kernel_rfl⟩
instance : BytesT Tryd.prog 127 64 := ⟨by kernel_rfl⟩
instance : ZeroT Tryd.prog 127 (.agg #[.int .u8 0, .int .u8 0, .int .u8 0, .int .u8 0, .int .u8 0, .int .u8 0, .int .u8 0, .int .u8 0, .int .u8 0, .int .u8 0, .int .u8 0, .int .u8 0, .int .u8 0, .int .u8 0, .int .u8 0, .int .u8 0, .int .u8 0, .int .u8 0, .int .u8 0, .int .u8 0, .int .u8 0, .int .u8 0, .int .u8 0, .int .u8 0, .int .u8 0, .int .u8 0, .int .u8 0, .int .u8 0, .int .u8 0, .int .u8 0, .int .u8 0, .int .u8 0, .int .u8 0, .int .u8 0, .int .u8 0, .int .u8 0, .int .u8 0, .int .u8 0, .int .u8 0, .int .u8 0, .int .u8 0, .int .u8 0, .int .u8 0, .int .u8 0, .int .u8 0, .int .u8 0, .int .u8 0, .int .u8 0, .int .u8 0, .int .u8 0, .int .u8 0, .int .u8 0, .int .u8 0, .int .u8 0, .int .u8 0, .int .u8 0, .int .u8 0, .int .u8 0, .int .u8 0, .int .u8 0, .int .u8 0, .int .u8 0, .int .u8 0, .int .u8 0]) := ⟨by kernel_rfl⟩
instance : SizeT Tryd.prog 128 4 := ⟨by kernel_rfl⟩
instance : AggT Tryd.prog 128 := ⟨by kernel_rfl⟩
instance : BytesT Tryd.prog 128 40 := ⟨by kernel_rfl⟩
instance : ZeroT Tryd.prog 128 (.agg #[.pointer none, .pointer none, .pointer none, .string ⟨#[]⟩]) := ⟨by kernel_rfl⟩
instance : SizeT Tryd.prog 129 4 := ⟨by kernel_rfl⟩
instance : AggT Tryd.prog 129 := ⟨by kernel_rfl⟩
instance : BytesT Tryd.prog 129 40 := ⟨by kernel_rfl⟩
instance : ZeroT Tryd.prog 129 (.agg #[.pointer none, .pointer none, .pointer none, .string ⟨#[]⟩]) := ⟨by kernel_rfl⟩
instance : SizeT Tryd.prog 130 0 := ⟨by kernel_rfl⟩
instance : AggT Tryd.prog 130 := ⟨by kernel_rfl⟩
instance : BytesT Tryd.prog 130 0 := ⟨by kernel_rfl⟩
instance : ZeroT Tryd.prog 130 (.agg #[]) := ⟨by kernel_rfl⟩
instance : SizeT Tryd.prog 131 0 := ⟨by kernel_rfl⟩
instance : AggT Tryd.prog 131 := ⟨by kernel_rfl⟩
instance : BytesT Tryd.prog 131 0 := ⟨by kernel_rfl⟩
instance : ZeroT Tryd.prog 131 (.agg #[]) := ⟨by kernel_rfl⟩
instance : SizeT Tryd.prog 132 0 := ⟨by kernel_rfl⟩
instance : AggT Tryd.prog 132 := ⟨by kernel_rfl⟩
instance : BytesT Tryd.prog 132 0 := ⟨by kernel_rfl⟩
instance : ZeroT Tryd.prog 132 (.agg #[]) := ⟨by kernel_rfl⟩
instance : SizeT Tryd.prog 133 1 := ⟨by kernel_rfl⟩
instance : OneT Tryd.prog 133 := ⟨by kernel_rfl, by kernel_rfl⟩
instance : BytesT Tryd.prog 133 8 := ⟨by kernel_rfl⟩
instance : ZeroT Tryd.prog 133 (.nilFunc) := ⟨by kernel_rfl⟩
instance : SizeT Tryd.prog 134 1 := ⟨by kernel_rfl⟩
instance : OneT Tryd.prog 134 := ⟨by kernel_rfl, by kernel_rfl⟩
instance : BytesT Tryd.prog 134 1 := ⟨by kernel_rfl⟩
instance : ZeroT Tryd.prog 134 (.int .u8 0) := ⟨by kernel_rfl⟩
instance : SizeT Tryd.prog 135 1 := ⟨by kernel_rfl⟩
instance : OneT Tryd.prog 135 := ⟨by kernel_rfl, by kernel_rfl⟩
instance : BytesT Tryd.prog 135 1 := ⟨by kernel_rfl⟩
instance : ZeroT Tryd.prog 135 (.int .u8 0) := ⟨by kernel_rfl⟩
instance : SizeT Tryd.prog 136 1 := ⟨by kernel_rfl⟩
instance : OneT Tryd.prog 136 := ⟨by kernel_rfl, by kernel_rfl⟩
instance : BytesT Tryd.prog 136 8 := ⟨by kernel_rfl⟩
instance : ZeroT Tryd.prog 136 (.nilFunc) := ⟨by kernel_rfl⟩
instance : SizeT Tryd.prog 137 1 := ⟨by kernel_rfl⟩
instance : OneT Tryd.prog 137 := ⟨by kernel_rfl, by kernel_rfl⟩
instance : BytesT Tryd.prog 137 4 := ⟨by kernel_rfl⟩
instance : ZeroT Tryd.prog 137 (.int .i32 0) := ⟨by kernel_rfl⟩
instance : SizeT Tryd.prog 138 1 := ⟨by kernel_rfl⟩
instance : OneT Tryd.prog 138 := ⟨by kernel_rfl, by kernel_rfl⟩
instance : BytesT Tryd.prog 138 4 := ⟨by kernel_rfl⟩
instance : ZeroT Tryd.prog 138 (.int .i32 0) := ⟨by kernel_rfl⟩
instance : SizeT Tryd.prog 139 11 := ⟨by kernel_rfl⟩
instance : AggT Tryd.prog 139 := ⟨by kernel_rfl⟩
instance : BytesT Tryd.prog 139 48 := ⟨by kernel_rfl⟩
instance : ZeroT Tryd.prog 139 (.agg #[.int .u64 0, .int .u64 0, .int .u32 0, .int .u8 0, .int .u8 0, .int .u8 0, .int .u8 0, .nilFunc, .pointer none, .int .i32 0, .int .i32 0]) := ⟨by kernel_rfl⟩
instance : SizeT Tryd.prog 140 11 := ⟨by kernel_rfl⟩
instance : AggT Tryd.prog 140 := ⟨by kernel_rfl⟩
instance : BytesT Tryd.prog 140 48 := ⟨by kernel_rfl⟩
instance : ZeroT Tryd.prog 140 (.agg #[.int .u64 0, .int .u64 0, .int .u32 0, .int .u8 0, .int .u8 0, .int .u8 0, .int .u8 0, .nilFunc, .pointer none, .int .i32 0, .int .i32 0]) := ⟨by kernel_rfl⟩
end Go.Proofs.YtebpacmhdkgfeaaDoor

/- Loads from blocks that were there ahead of the call. Over any program. -/
namespace Go.Proofs.YtebpacmhdkgfeaaDoor
open Go.RowKit
section
variable {P : Program} {ops : Array Oper} {rest : List Oper} {o : Oper} {a : Act} {Q : Exit → Act → World → Prop} {W : World}
theorem ev_loadB1 {ty : TypeId} {x : Operand} {g j : Nat} {cs : List Value} {v : Value} {t : TypeId} [ha : OneT P ty] (hgd : o.guard = none) (hB : Box W g cs.toArray t) (ho : o.op = .load ty x) (hx : a.eval x = .pointer (some ⟨g, j, none⟩))
    (hv : cs[j]? = some v) (h : wpList P ops Q rest (a.put o.dst v) W) : wpList P ops Q (o :: rest) a W := by
  have hc : W.cell? ⟨g, j, none⟩ = some v := by rw [hB.cell j]; simpa using hv
  refine event hgd (v := v) (w1 := W) ?_ h
  unfold execOp
  simp only [ho, hx, Instr.loadAt, Instr.sureAddr, Sem.run_bind, Sem.run_pure, Result.andThen_ok, run_loadVar_cell ha W _ v hc]
theorem ev_loadB1G {ty : TypeId} {x : Operand} {g j : Nat} {cs : List Value} {v : Value} {t : TypeId} [ha : OneT P ty] (hw : Region.wanted o (yielded ops a.tmps) = true) (hB : Box W g cs.toArray t) (ho : o.op = .load ty x) (hx : a.eval x = .pointer (some ⟨g, j, none⟩))
    (hv : cs[j]? = some v) (h : wpList P ops Q rest (a.put o.dst v) W) : wpList P ops Q (o :: rest) a W := by
  have hc : W.cell? ⟨g, j, none⟩ = some v := by rw [hB.cell j]; simpa using hv
  refine eventG hw (v := v) (w1 := W) ?_ h
  unfold execOp
  simp only [ho, hx, Instr.loadAt, Instr.sureAddr, Sem.run_bind, Sem.run_pure, Result.andThen_ok, run_loadVar_cell ha W _ v hc]
theorem ev_loadBA {ty : TypeId} {x : Operand} {n g j : Nat} {cs vs : List Value} {t : TypeId} [ha : AggT P ty] [hn : SizeT P ty n] (hgd : o.guard = none) (hB : Box W g cs.toArray t) (ho : o.op = .load ty x) (hx : a.eval x = .pointer (some ⟨g, j, none⟩))
    (hs : Seg cs j n vs) (h : wpList P ops Q rest (a.put o.dst (.agg vs.toArray)) W) : wpList P ops Q (o :: rest) a W :=
  ev_loadR hgd ho hx (range_of_box hB hs) hs.len h
end
/-- A block that was there, as it is now. -/
theorem Loc.old {w0 w : World} {M : Nat → Prop} {l : List Item} {g : Nat} {cs : Array Value} {t : TypeId} (h : Loc w0 M w l) (hB : Box w0 g cs t) (hn : ¬ M g) : Box w g cs t := (h.mod.block g hB.lt hn).trans hB
theorem not_noM {g : Nat} : ¬ NoM g := fun h => h
end Go.Proofs.YtebpacmhdkgfeaaDoor

/- Regions that draw their order: reads first, then a chain that writes. Over any program. -/
namespace Go.Proofs.YtebpacmhdkgfeaaDoor
open Go.RowKit
section
variable {P : Program} {ops : Array Oper} {rest : List Oper} {o : Oper} {a : Act} {Qs : Act → Prop} {Q : Exit → Act → World → Prop} {W w0 : World} {M : Nat → Prop} {l : List Item}
theorem region_tail {id : Nat} {ol : List Oper} (n : Nat) (hm : P.follows .mixedOrders = true) (hB : Region.lexTailB .any ol.toArray n = true) (hL : Loc w0 M W l)
    (h : ∀ w1, Loc w0 M w1 l → Below W.heap.size W w1 → w1.heap.size = W.heap.size → wpStill P ol.toArray w1 (fun a' => wpList P ol.toArray Q (ol.drop n) a' w1) (ol.take n) a) : (Code.region id ol.toArray true).wp P Q a W :=
  wp_region_still_tail n hm hB (h { W with drawn := W.drawn + 1 } ⟨⟨hL.mod.os, hL.mod.tape, hL.mod.output, hL.mod.size, hL.mod.block⟩, fun i hi => (hL.at_ i hi).keep (w' := { W with drawn := W.drawn + 1 }) (Nat.le_refl _) fun _ _ => rfl, hL.new, hL.apart⟩ ⟨rfl, rfl, rfl, Nat.le_refl _, fun _ _ => rfl⟩ rfl)
theorem still_ev (hgd : o.guard = none) {v : Value} (hrun : (execOp a.eval o).run P W = .ok (.value v) W) (h : wpStill P ops W Qs rest (a.put o.dst v)) : wpStill P ops W Qs (o :: rest) a :=
  wpStill_step fun K hK => by
    have hw : Region.wanted o (yielded ops a.tmps) = true := by simp [Region.wanted, hgd]
    rw [if_pos hw]
    unfold Oper.still
    rw [hrun]
    exact ⟨rfl, hK _ h⟩
theorem sLoad {t : TypeId} {x : Operand} (_hg : o.guard = none) (_ho : o.op = .load t x) (h : wpStill P ops W Qs (o :: rest) a) : wpStill P ops W Qs (o :: rest) a := h
theorem still_load1L {ty : TypeId} {x : Operand} {g j : Nat} {cs : List Value} {v : Value} {t : TypeId} [ha : OneT P ty] (hgd : o.guard = none) (hL : Loc w0 M W l) (ho : o.op = .load ty x) (hx : a.eval x = .pointer (some ⟨g, j, none⟩))
    (hm : var g cs t ∈ l) (hv : cs[j]? = some v) (h : wpStill P ops W Qs rest (a.put o.dst v)) : wpStill P ops W Qs (o :: rest) a := by
  have hc : W.cell? ⟨g, j, none⟩ = some v := by rw [(hL.box hm).cell j]; simpa using hv
  refine still_ev hgd (v := v) ?_ h
  unfold execOp
  simp only [ho, hx, Instr.loadAt, Instr.sureAddr, Sem.run_bind, Sem.run_pure, Result.andThen_ok, run_loadVar_cell ha W _ v hc]
theorem still_loadAllL {ty : TypeId} {x : Operand} {n g : Nat} {cs : List Value} {t : TypeId} [ha : AggT P ty] [hn : SizeT P ty n] (hgd : o.guard = none) (hL : Loc w0 M W l) (ho : o.op = .load ty x) (hx : a.eval x = .pointer (some ⟨g, 0, none⟩))
    (hm : var g cs t ∈ l) (hs : cs.length = n) (h : wpStill P ops W Qs rest (a.put o.dst (.agg cs.toArray))) : wpStill P ops W Qs (o :: rest) a := by
  obtain ⟨d, hu, hd⟩ := isRow_of ha.agg
  have hr : W.rangeAt g 0 cs := fun k v hv => by rw [(hL.box hm).cell (0 + k)]; simpa using hv
  refine still_ev hgd (v := .agg cs.toArray) ?_ h
  unfold execOp
  simp only [ho, hx, Instr.loadAt, Instr.sureAddr, Sem.run_bind, Sem.run_pure, Result.andThen_ok, run_loadVar_mid W g 0 ty cs d hr hu hd (by rw [hs]; exact hn.size)]
theorem still_loadL {ty : TypeId} {x : Operand} {n g j : Nat} {cs vs : List Value} {t : TypeId} [ha : AggT P ty] [hn : SizeT P ty n] (hgd : o.guard = none) (hL : Loc w0 M W l) (ho : o.op = .load ty x) (hx : a.eval x = .pointer (some ⟨g, j, none⟩))
    (hm : var g cs t ∈ l) (hs : Seg cs j n vs) (h : wpStill P ops W Qs rest (a.put o.dst (.agg vs.toArray))) : wpStill P ops W Qs (o :: rest) a := by
  obtain ⟨d, hu, hd⟩ := isRow_of ha.agg
  refine still_ev hgd (v := .agg vs.toArray) ?_ h
  unfold execOp
  simp only [ho, hx, Instr.loadAt, Instr.sureAddr, Sem.run_bind, Sem.run_pure, Result.andThen_ok, run_loadVar_mid W g j ty vs d (range_of_box (hL.box hm) hs) hu hd (by rw [hs.len]; exact hn.size)]
end

/-! ### 'x.f = append(x.f, y)': two loads, a literal, and the chain behind them -/
section
variable {P : Program} {md : Region.Mode} {ops : Array Oper} {Q : Exit → Act → World → Prop}
theorem region_any {id : Nat} {ol : List Oper} {Q : Exit → Act → World → Prop} {a : Act} {W w0 : World} {M : Nat → Prop} {l : List Item} (hm : P.follows .mixedOrders = true) (hL : Loc w0 M W l)
    (h : ∀ w1, Loc w0 M w1 l → Below W.heap.size W w1 → w1.heap.size = W.heap.size → wpAny P .any ol.toArray Q ol.toArray.size (Array.replicate ol.toArray.size false) a w1) : (Code.region id ol.toArray true).wp P Q a W :=
  wp_region_any hm (h { W with drawn := W.drawn + 1 } ⟨⟨hL.mod.os, hL.mod.tape, hL.mod.output, hL.mod.size, hL.mod.block⟩, fun i hi => (hL.at_ i hi).keep (w' := { W with drawn := W.drawn + 1 }) (Nat.le_refl _) fun _ _ => rfl, hL.new, hL.apart⟩ ⟨rfl, rfl, rfl, Nat.le_refl _, fun _ _ => rfl⟩ rfl)
theorem wpAny_drop {ol : List Oper} {f : Nat} {listed : Array Bool} {a : Act} {w : World} (k : Nat) (hf : (ol.drop k).length = f) (hB : Region.seqB md ol.toArray f k listed = true) (h : wpList P ol.toArray Q (ol.drop k) a w) : wpAny P md ol.toArray Q f listed a w := by
  subst hf
  exact wpAny_of_seq _ k listed a w (fun j => by simp [List.getElem?_drop]) hB h
theorem wpOp_run {i : Nat} {o : Oper} {a : Act} {w w' : World} {v : Value} {K : Act → World → Prop} (hi : ops[i]? = some o) (hg : o.guard = none) (hr : (execOp a.eval o).run P w = .ok (.value v) w') (h : K (a.put o.dst v) w') : wpOp P ops Q i K a w := by
  have hw : Region.wanted o (yielded ops a.tmps) = true := by simp [Region.wanted, hg]
  unfold wpOp
  simp only [hi, hw, if_true]
  refine .inl ?_
  unfold Oper.wp
  rw [hr]
  exact h
theorem wpAny_fork {f i j k : Nat} {oi oj ok : Oper} {listed : Array Bool} {a : Act} {w w' : World} {vi vj vk : Value} (hi : ops[i]? = some oi) (hj : ops[j]? = some oj) (hk : ops[k]? = some ok) (gi : oi.guard = none) (gj : oj.guard = none) (gk : ok.guard = none)
    (r1 : Region.ready md ops listed = [i, j]) (r2 : Region.ready md ops (listed.setIfInBounds i true) = [j]) (r3 : Region.ready md ops (listed.setIfInBounds j true) = [i, k])
    (r4 : Region.ready md ops ((listed.setIfInBounds i true).setIfInBounds j true) = [k]) (r6 : Region.ready md ops ((listed.setIfInBounds j true).setIfInBounds k true) = [i])
    (nij : i ≠ j) (nik : i ≠ k) (dij : oi.dst ≠ oj.dst) (dik : oi.dst ≠ ok.dst)
    (hvi : (execOp a.eval oi).run P w = .ok (.value vi) w) (hvi2 : (execOp (a.put oj.dst vj).eval oi).run P w = .ok (.value vi) w) (hvi3 : (execOp ((a.put oj.dst vj).put ok.dst vk).eval oi).run P w' = .ok (.value vi) w')
    (hvj : (execOp a.eval oj).run P w = .ok (.value vj) w) (hvj2 : (execOp (a.put oi.dst vi).eval oj).run P w = .ok (.value vj) w)
    (hvk : (execOp ((a.put oi.dst vi).put oj.dst vj).eval ok).run P w = .ok (.value vk) w') (hvk2 : (execOp (a.put oj.dst vj).eval ok).run P w = .ok (.value vk) w')
    (H : wpAny P md ops Q f (((listed.setIfInBounds i true).setIfInBounds j true).setIfInBounds k true) (((a.put oi.dst vi).put oj.dst vj).put ok.dst vk) w') : wpAny P md ops Q (f + 3) listed a w := by
  have c1 : (a.put oj.dst vj).put oi.dst vi = (a.put oi.dst vi).put oj.dst vj := Act.put_comm a vj vi (fun d h1 h2 => dij (h2.trans h1.symm))
  have c2 : ((a.put oj.dst vj).put ok.dst vk).put oi.dst vi = ((a.put oi.dst vi).put oj.dst vj).put ok.dst vk := by
    rw [Act.put_comm _ vk vi (fun d h1 h2 => dik (h2.trans h1.symm)), c1]
  have l1 : (listed.setIfInBounds j true).setIfInBounds i true = (listed.setIfInBounds i true).setIfInBounds j true := Array.setIfInBounds_comm _ _ nij.symm
  have l2 : ((listed.setIfInBounds j true).setIfInBounds k true).setIfInBounds i true = ((listed.setIfInBounds i true).setIfInBounds j true).setIfInBounds k true := by
    rw [Array.setIfInBounds_comm _ _ nik.symm, l1]
  refine wpAny_all r1 (by simp) fun x hx => ?_
  rcases List.mem_cons.1 hx with rfl | hx
  · refine wpOp_run hi gi hvi (wpAny_all r2 (by simp) fun y hy => ?_)
    obtain rfl := List.mem_singleton.1 hy
    refine wpOp_run hj gj hvj2 (wpAny_all r4 (by simp) fun z hz => ?_)
    obtain rfl := List.mem_singleton.1 hz
    exact wpOp_run hk gk hvk H
  · obtain rfl := List.mem_singleton.1 hx
    refine wpOp_run hj gj hvj (wpAny_all r3 (by simp) fun y hy => ?_)
    rcases List.mem_cons.1 hy with rfl | hy
    · refine wpOp_run hi gi hvi2 ?_
      rw [c1, l1]
      refine wpAny_all r4 (by simp) fun z hz => ?_
      obtain rfl := List.mem_singleton.1 hz
      exact wpOp_run hk gk hvk H
    · obtain rfl := List.mem_singleton.1 hy
      refine wpOp_run hk gk hvk2 (wpAny_all r6 (by simp) fun z hz => ?_)
      obtain rfl := List.mem_singleton.1 hz
      refine wpOp_run hi gi hvi3 ?_
      rw [c2, l2]
      exact H
end
section
variable {P : Program} {o : Oper} {a : Act} {W w0 : World} {M : Nat → Prop} {l : List Item}
theorem Loc.allocd {cs : List Value} {t : TypeId} (hL : Loc w0 M W l) : Loc w0 M (W.alloc (.cells cs.toArray t)) (var W.heap.size cs t :: l) := hL.callVar (bl_alloc (Below.refl _ _) _) (Box.new W _ t) (Nat.le_refl _)
theorem run_load1L {ty : TypeId} {x : Operand} {g j : Nat} {cs : List Value} {v : Value} {t : TypeId} (ha : OneT P ty) (hL : Loc w0 M W l) (ho : o.op = .load ty x) (hx : a.eval x = .pointer (some ⟨g, j, none⟩))
    (hm : var g cs t ∈ l) (hv : cs[j]? = some v) : (execOp a.eval o).run P W = .ok (.value v) W := by
  have hc : W.cell? ⟨g, j, none⟩ = some v := by rw [(hL.box hm).cell j]; simpa using hv
  unfold execOp
  simp only [ho, hx, Instr.loadAt, Instr.sureAddr, Sem.run_bind, Sem.run_pure, Result.andThen_ok, run_loadVar_cell ha W _ v hc]
theorem run_loadAllL {ty : TypeId} {x : Operand} {n g : Nat} {cs : List Value} {t : TypeId} (ha : AggT P ty) (hn : SizeT P ty n) (hL : Loc w0 M W l) (ho : o.op = .load ty x) (hx : a.eval x = .pointer (some ⟨g, 0, none⟩))
    (hm : var g cs t ∈ l) (hs : cs.length = n) : (execOp a.eval o).run P W = .ok (.value (.agg cs.toArray)) W := by
  obtain ⟨d, hu, hd⟩ := isRow_of ha.agg
  have hr : W.rangeAt g 0 cs := fun k v hv => by rw [(hL.box hm).cell (0 + k)]; simpa using hv
  unfold execOp
  simp only [ho, hx, Instr.loadAt, Instr.sureAddr, Sem.run_bind, Sem.run_pure, Result.andThen_ok, run_loadVar_mid W g 0 ty cs d hr hu hd (by rw [hs]; exact hn.size)]
theorem eval_put_ne {p : Tmp} {d : Option Tmp} {v : Value} (h : d ≠ some p) : (a.put d v).eval (.tmp p) = a.eval (.tmp p) := by
  cases d with
  | none => rfl
  | some d =>
    have hne : d ≠ p := fun e => h (by rw [e])
    simp [Act.put, Act.eval, Array.getElem?_setIfInBounds, hne]
theorem eval_put_self {p : Tmp} {v : Value} (h : p < a.tmps.size) : (a.put (some p) v).eval (.tmp p) = v := by
  simp [Act.put, Act.eval, h]
theorem size_put {d : Option Tmp} {v : Value} : (a.put d v).tmps.size = a.tmps.size := by
  cases d <;> simp [Act.put]
inductive Nth : List Oper → Nat → Oper → Prop where
  | zero (o : Oper) (l : List Oper) : Nth (o :: l) 0 o
  | succ {x o : Oper} {l : List Oper} {i : Nat} : Nth l i o → Nth (x :: l) (i + 1) o
theorem Nth.get {l : List Oper} {i : Nat} {o : Oper} (h : Nth l i o) : l.toArray[i]? = some o := by
  have : l[i]? = some o := by
    induction h with
    | zero o l => rfl
    | succ _ ih => simpa using ih
  simpa using this
theorem wpAny_takeN {md : Region.Mode} {ol : List Oper} {Q : Exit → Act → World → Prop} {i : Nat} {oi : Oper} {v : Value} {fuel : Nat} {listed : Array Bool} (hi : Nth ol i oi)
    (hs : Region.noSelect ol.toArray = true) (hf : Region.free md ol.toArray listed i = true) (hr : (Region.ready md ol.toArray listed).contains i = true)
    (hQ : ∀ c a w, Q (.panic c) (a.put oi.dst v) w → Q (.panic c) a w) (hy : Yields P ol.toArray oi v a)
    (h : wpAny P md ol.toArray Q fuel (listed.setIfInBounds i true) (a.put oi.dst v) W) : wpAny P md ol.toArray Q (fuel + 1) listed a W := wpAny_take hi.get hs hf hr hQ hy h
/-- 'x.f = append(x.f, y)': the field's value and y's whole are loaded, y is laid into a literal, in whichever order. -/
theorem wpAny_app {md : Region.Mode} {ol : List Oper} {Q : Exit → Act → World → Prop} {f i j k : Nat} {oi oj ok : Oper} {listed : Array Bool} {ti tj tl e : TypeId} {pi pj dj : Tmp} {gi ji gj n : Nat} {ci cs : List Value} {vi z : Value} {T1 T2 : TypeId}
    (hi : Nth ol i oi) (hj : Nth ol j oj) (hk : Nth ol k ok) (ngi : oi.guard = none) (ngj : oj.guard = none) (ngk : ok.guard = none)
    (r1 : Region.ready md ol.toArray listed = [i, j]) (r2 : Region.ready md ol.toArray (listed.setIfInBounds i true) = [j]) (r3 : Region.ready md ol.toArray (listed.setIfInBounds j true) = [i, k])
    (r4 : Region.ready md ol.toArray ((listed.setIfInBounds i true).setIfInBounds j true) = [k]) (r6 : Region.ready md ol.toArray ((listed.setIfInBounds j true).setIfInBounds k true) = [i])
    (nij : i ≠ j) (nik : i ≠ k) (oi1 : oi.op = .load ti (.tmp pi)) (oj1 : oj.op = .load tj (.tmp pj)) (ok1 : ok.op = .buildSlice tl 1 #[(0, .tmp dj)]) (dj1 : oj.dst = some dj)
    (dij : oi.dst ≠ oj.dst) (dik : oi.dst ≠ ok.dst) (e1 : oj.dst ≠ some pi) (e2 : ok.dst ≠ some pi) (e3 : oi.dst ≠ some pj) (hsz : dj < a.tmps.size)
    (hti : OneT P ti) (htj : AggT P tj) (hnj : SizeT P tj n) (htl : SliceT P tl e) (hz : ZeroT P e z) (hse : SizeT P e n) (hL : Loc w0 M W l)
    (xi : a.eval (.tmp pi) = .pointer (some ⟨gi, ji, none⟩)) (xj : a.eval (.tmp pj) = .pointer (some ⟨gj, 0, none⟩)) (mi : var gi ci T1 ∈ l) (mj : var gj cs T2 ∈ l) (vi1 : ci[ji]? = some vi) (hs : cs.length = n)
    (hn : decide (1 * n ≤ 16777216) = true) (h0 : decide (0 < 1 * n) = true) (hfill : Instr.fill (fun i => some (i * n, n)) ((Array.range (1 * n)).map fun j => z.cells[j % z.cells.size]!) [(0, Value.agg cs.toArray)] = some cs.toArray)
    (H : ∀ g w1, Loc w0 M w1 (var g cs e :: l) → wpAny P md ol.toArray Q f (((listed.setIfInBounds i true).setIfInBounds j true).setIfInBounds k true) (((a.put oi.dst vi).put oj.dst (.agg cs.toArray)).put ok.dst (.slice (some ⟨g, 0, none⟩) 1 1)) w1) : wpAny P md ol.toArray Q (f + 3) listed a W := by
  have lit : ∀ b : Act, b.eval (.tmp dj) = .agg cs.toArray → (execOp b.eval ok).run P W = .ok (.value (.slice (some ⟨W.heap.size, 0, none⟩) 1 1)) (W.alloc (.cells cs.toArray e)) := fun b hb => by
    obtain ⟨inf, hinf, hzz⟩ := Option.map_eq_some_iff.1 hz.zero
    have hsz : inf.size = n := by have := hse.size; simpa [hinf] using this
    have h1 : ¬ n > 2 ^ 24 := by have := of_decide_eq_true hn; omega
    have h2 : ¬ n = 0 := by have := of_decide_eq_true h0; omega
    simp only [Nat.one_mul] at hfill
    simp [execOp, ok1, hb, Instr.buildSlice, run_underlying htl.slice, sizeOf, typeInfo, hinf, hsz, zeroValue, hzz, h1, h2, hfill, newRow]
  refine wpAny_fork hi.get hj.get hk.get ngi ngj ngk r1 r2 r3 r4 r6 nij nik dij dik (vi := vi) (vj := .agg cs.toArray) (run_load1L hti hL oi1 xi mi vi1) (run_load1L hti hL oi1 (by rw [eval_put_ne e1]; exact xi) mi vi1)
    (run_load1L hti hL.allocd oi1 (by rw [eval_put_ne e2, eval_put_ne e1]; exact xi) (.tail _ mi) vi1) (run_loadAllL htj hnj hL oj1 xj mj hs) (run_loadAllL htj hnj hL oj1 (by rw [eval_put_ne e3]; exact xj) mj hs)
    (lit _ (by rw [dj1]; exact eval_put_self (by rw [size_put]; exact hsz))) (lit _ (by rw [dj1]; exact eval_put_self hsz)) (H _ _ hL.allocd)
end
end Go.Proofs.YtebpacmhdkgfeaaDoor

/- Numbers as text: strconv.Itoa off the shelf; the table that it reads; sums of strings. -/
namespace Go.Proofs.YtebpacmhdkgfeaaDoor
open Go.RowKit

def itoaB (n : Int) : ByteArray := ⟨(Lib.itoa n).toArray⟩
def Tb (w : World) : Prop := Lib.TabIs Tryd.prog w "internal/strconv.uint64pow10" .u64 Lib.pow10Tab
theorem Tb.below {w w1 : World} (h : Tb w) (hb : Below w.heap.size w w1) : Tb w1 := by
  unfold Tb Lib.TabIs World.var? at *
  cases hg : (Tryd.prog.globalNamed "internal/strconv.uint64pow10") with
  | none => rw [hg] at h; simp at h
  | some g =>
    rw [hg] at h
    simp only [Option.bind_some] at h ⊢
    have hlt : g < w.heap.size := by
      rcases Nat.lt_or_ge g w.heap.size with h1 | h1
      · exact h1
      · rw [Array.getElem?_eq_none h1] at h; simp at h
    rw [hb.block g hlt]
    exact h
theorem grow_below (w : World) (k : Nat) (os : Array Obj) : Below w.heap.size w (Sort.grow (w.drewN k) os) :=
  ⟨rfl, rfl, rfl, by simp [Sort.grow], fun j hj => by simp [Sort.grow, Array.getElem?_append_left hj]⟩
theorem itoaB_size (n : Int) (h0 : -9223372036854775808 ≤ n) (h1 : n ≤ 9223372036854775807) : (itoaB n).size ≤ 30 := by
  have key : ∀ u : Nat, u < 18446744073709551616 → (Lib.decDigits u).length ≤ 20 := by
    intro u hu
    rw [Lib.decDigits_length]
    by_cases h0 : u = 0
    · subst h0; rw [Lib.nDigits_small (by omega)]; omega
    · have h := Lib.numDigits_eq u (by omega) hu
      have h1 := h.1
      have h2 := h.2
      split at h1 <;> omega
  show (Lib.itoa n).toArray.size ≤ 30
  rw [List.size_toArray]
  unfold Lib.itoa
  split
  · have := key n.natAbs (by omega); simp; omega
  · have := key n.toNat (by omega); omega
theorem itoa_c (n : Int) (h0 : -9223372036854775808 ≤ n) (h1 : n ≤ 9223372036854775807) (w : World) (ht : Tb w) :
    Calls Tryd.prog 24 #[.int .i64 n] w fun e w' => e = .returned (.string (itoaB n)) ∧ Below w.heap.size w w' :=
  (Tryd.strconv_Itoa n h0 h1 w ht).mono fun _ _ ⟨he, k, os, hw⟩ => ⟨he, by rw [hw]; exact grow_below w k os⟩
section
variable {P : Program} {ops : Array Oper} {rest : List Oper} {o : Oper} {a : Act} {Q : Exit → Act → World → Prop} {W : World}
theorem gCat {t r : TypeId} {x y : Operand} (_hg : o.guard = none) (_ho : o.op = .binOp .add t x y r) (h : wpList P ops Q (o :: rest) a W) : wpList P ops Q (o :: rest) a W := h
theorem run_cat {t r : TypeId} {x y : Operand} {s u : ByteArray} (ho : o.op = .binOp .add t x y r) (hx : a.eval x = .string s) (hy : a.eval y = .string u) (hs : s.size + u.size ≤ 9223372036854775807) : (execOp a.eval o).run P W = .ok (.value (.string (s ++ u))) W := by
  have h : ¬ (s.size + u.size > 9223372036854775807) := by omega
  simp [execOp, ho, hx, hy, eqGuard, binOp, Op.stringOp]
  have h' : ¬ ((9223372036854775807 : Int) < (s.size : Int) + (u.size : Int)) := by omega
  simp [h']
  omega
theorem ev_cat {t r : TypeId} {x y : Operand} {s u : ByteArray} (hgd : o.guard = none) (ho : o.op = .binOp .add t x y r) (hx : a.eval x = .string s) (hy : a.eval y = .string u) (hs : s.size + u.size ≤ 9223372036854775807)
    (h : wpList P ops Q rest (a.put o.dst (.string (s ++ u))) W) : wpList P ops Q (o :: rest) a W := event hgd (run_cat ho hx hy hs) h
theorem quiet_cat {K : Act → Prop} {C : World → Prop} {t r : TypeId} {x y : Operand} {s u : ByteArray} (ho : o.op = .binOp .add t x y r) (hx : a.eval x = .string s) (hy : a.eval y = .string u) (hs : s.size + u.size ≤ 9223372036854775807)
    (h : K (a.put o.dst (.string (s ++ u)))) : o.quiet P a C K := by
  refine ⟨_, fun w hw => ?_, h⟩
  unfold Oper.quietAt
  rw [run_cat ho hx hy hs]
  exact ⟨rfl, rfl⟩
end
end Go.Proofs.YtebpacmhdkgfeaaDoor

/- Numbers as text, by a loop of rounds. -/
namespace Go.Proofs.YtebpacmhdkgfeaaDoor
open Go.RowKit

def dch (u : Nat) : UInt8 := UInt8.ofNat (48 + u % 10)
/-- What stands in s after some rounds, u being what is left. -/
def DigInv (u0 u : Nat) (s : List UInt8) : Prop := if 0 < u ∨ s = [] then Lib.decDigits u0 = Lib.decDigits u ++ s ∨ (u = 0 ∧ s = [] ∧ u0 = 0) else Lib.decDigits u0 = s
theorem dig_zero : Lib.decDigits 0 = [dch 0] := by rw [Lib.decDigits_one (by omega)]; rfl
theorem DigInv.start (u0 : Nat) : DigInv u0 u0 [] := by
  unfold DigInv
  rw [if_pos (.inr rfl)]
  exact .inl (by simp)
theorem DigInv.put {u0 u : Nat} {s : List UInt8} (h : DigInv u0 u s) (hc : 0 < u ∨ s = []) : DigInv u0 (u / 10) (dch u :: s) := by
  unfold DigInv at *
  rw [if_pos hc] at h
  rcases h with h | ⟨rfl, rfl, rfl⟩
  · by_cases h10 : u < 10
    · rw [if_neg (by simp; omega), h, Lib.decDigits_one h10, dch, Nat.mod_eq_of_lt h10]
      rfl
    · rw [if_pos (.inl (by omega))]
      refine .inl ?_
      rw [h, Lib.decDigits, dif_neg h10, List.append_assoc]
      rfl
  · rw [if_neg (by simp)]
    exact dig_zero
theorem DigInv.skip {u0 u : Nat} {s : List UInt8} (h : DigInv u0 u s) (hc : ¬ (0 < u ∨ s = [])) : DigInv u0 (u / 10) s := by
  unfold DigInv at *
  have hs : s ≠ [] := fun e => hc (.inr e)
  rw [if_neg hc] at h
  rw [if_neg (fun h => h.elim (fun h1 => hc (.inl (by omega))) hs)]
  exact h
theorem DigInv.done {u0 : Nat} {s : List UInt8} (h : DigInv u0 0 s) (hs : s ≠ []) : Lib.decDigits u0 = s := by
  unfold DigInv at h
  rw [if_neg (by simp [hs])] at h
  exact h
theorem dch_val (u : Nat) : ((dch u).toNat : Int) = 48 + (u : Int) % 10 := by
  have h : (dch u).toNat = (48 + u % 10) % 256 := rfl
  rw [h]
  omega
theorem ev_b2s {P : Program} {ops : Array Oper} {rest : List Oper} {o : Oper} {a : Act} {Q : Exit → Act → World → Prop} {W : World} {src dst e : TypeId} {x : Operand} {v : Value} {l : List UInt8} [hs : SliceT P src e] (hgd : o.guard = none) (ho : o.op = .convert src dst x) (hx : a.eval x = v) (hR : encB.R W v l)
    (he : P.underlying e = some (.int .u8)) (hd : P.underlying dst = some .string) (h : wpList P ops Q rest (a.put o.dst (.string ⟨l.toArray⟩)) W) : wpList P ops Q (o :: rest) a W := by
  refine event hgd (v := .string ⟨l.toArray⟩) (w1 := W) ?_ h
  simp [execOp, ho, hx, conv_bytes hR src dst e hs.slice he hd]
theorem one_byte {w : World} {g : Nat} {t : TypeId} {c : UInt8} (h : Box w g [.int .u8 c.toNat].toArray t) : encB.R w (.slice (some ⟨g, 0, none⟩) 1 1) [c] := by
  refine ⟨by rw [Enc.all_length], some ⟨g, 0, none⟩, 1, rfl, Nat.le_refl _, by simp, .inr ⟨_, rfl, fun j u hj => ?_⟩⟩
  have ha : (⟨g, 0, none⟩ : Addr).add j = ⟨g, j, none⟩ := by unfold Addr.add; split <;> simp_all
  rw [ha, h.cell j]
  rw [Enc.all_one_elem] at hj
  have hj' : [Value.int .u8 c.toNat][j]? = some u := hj
  simpa using hj'
theorem ba_cons (c : UInt8) (l : List UInt8) : (⟨[c].toArray⟩ : ByteArray) ++ ⟨l.toArray⟩ = ⟨(c :: l).toArray⟩ := by rw [ByteArray.mk_append_mk]; rfl
/-- The rounds of digits: what is left of u, and what stands in s. -/
def DigAt (u k uk : Nat) (l : List UInt8) : Prop := DigInv u uk l ∧ uk = u / 10 ^ k ∧ l.length ≤ k ∧ (0 < k → l ≠ [])
theorem DigAt.start (u : Nat) : DigAt u 0 u [] := ⟨.start u, by simp, by simp, by simp⟩
theorem DigAt.put {u k uk : Nat} {l : List UInt8} (h : DigAt u k uk l) (hc : 0 < uk ∨ l = []) : DigAt u (k + 1) (uk / 10) (dch uk :: l) :=
  ⟨h.1.put hc, by rw [h.2.1, Nat.div_div_eq_div_mul, Nat.pow_succ], by have := h.2.2.1; simp; omega, by simp⟩
theorem DigAt.skip {u k uk : Nat} {l : List UInt8} (h : DigAt u k uk l) (hc : ¬ (0 < uk ∨ l = [])) : DigAt u (k + 1) (uk / 10) l :=
  ⟨h.1.skip hc, by rw [h.2.1, Nat.div_div_eq_div_mul, Nat.pow_succ], by have := h.2.2.1; omega, fun _ e => hc (.inr e)⟩
theorem DigAt.done {u uk : Nat} {l : List UInt8} (h : DigAt u 20 uk l) (hu : u < 18446744073709551616) : Lib.decDigits u = l := by
  obtain ⟨h1, h2, _, h4⟩ := h
  have : uk = 0 := by rw [h2]; exact Nat.div_eq_of_lt (by omega)
  subst this
  exact h1.done (h4 (by omega))
end Go.Proofs.YtebpacmhdkgfeaaDoor

/- A mark, or a stamp: two numbers. -/
namespace Go.Proofs.YtebpacmhdkgfeaaDoor
open Go.RowKit

structure Mk where
  (boot n : Int)
  deriving DecidableEq
abbrev Mk.val (m : Mk) : Value := .agg #[.int .i64 m.boot, .int .i64 m.n]
def I64 (n : Int) : Prop := -9223372036854775808 ≤ n ∧ n ≤ 9223372036854775807
theorem ret_b {a b : Bool} (h : a = b) : Ending.returned (.bool a) = .returned (.bool b) := by rw [h]
theorem ret_s {a b : ByteArray} (h : a = b) : Ending.returned (.string a) = .returned (.string b) := by rw [h]
end Go.Proofs.YtebpacmhdkgfeaaDoor

/- Marks as words. -/
namespace Go.Proofs.YtebpacmhdkgfeaaDoor
open Go.RowKit

theorem I64.size {n : Int} (h : I64 n) : (itoaB n).size ≤ 30 := itoaB_size n h.1 h.2
theorem itoa_ext {W : World} {e : Ext W} (ht : Tb W) (n : Int) (h : I64 n) : Calls Tryd.prog 24 #[.int .i64 n] e.w fun en w'' => en = .returned (.string (itoaB n)) ∧ ∃ m : Ext W, w'' = m.w :=
  calls_ext (itoa_c n h.1 h.2 _ (ht.below e.ok))
def Mk.text (m : Mk) : ByteArray := itoaB m.boot ++ ⟨#[46]⟩ ++ itoaB m.n
theorem Mk.text_size (m : Mk) (hb : I64 m.boot) (hn : I64 m.n) : m.text.size ≤ 61 := by
  have h1 := hb.size
  have h2 := hn.size
  unfold Mk.text
  simp only [ByteArray.size_append, ByteArray.size_mk']
  simp
  omega
end Go.Proofs.YtebpacmhdkgfeaaDoor

/- What an argument of cells holds: numbers, bools, strings, slices, in structs and arrays, however nested. Over any program. -/
namespace Go.Proofs.YtebpacmhdkgfeaaDoor
open Go.ChangeShapes Go.WideShapes Go.RowKit Go.Deep

inductive Leg where
  | int (k : IntKind)
  | str
  | bool
  | sl (t : TypeId)
def Leg.is (S : TypeId → Value → Prop) (B : Nat) : Leg → Value → Prop
  | .int k, v => ∃ n, v = .int k n ∧ (Lit.int k n).wf = true
  | .str, v => ∃ s : ByteArray, v = .string s ∧ s.size ≤ B
  | .bool, v => ∃ b, v = .bool b
  | .sl t, v => S t v
def FitsR (S : TypeId → Value → Prop) (B : Nat) : List Leg → List Value → Prop
  | [], [] => True
  | l :: ls, v :: vs => l.is S B v ∧ FitsR S B ls vs
  | _, _ => False
theorem FitsR.length {S : TypeId → Value → Prop} {B : Nat} : ∀ {ls : List Leg} {vs : List Value}, FitsR S B ls vs → vs.length = ls.length
  | [], [], _ => rfl
  | _ :: _, _ :: _, h => by simp [FitsR.length h.2]
theorem FitsR.append {S : TypeId → Value → Prop} {B : Nat} : ∀ {a b : List Leg} {x y : List Value}, FitsR S B a x → FitsR S B b y → FitsR S B (a ++ b) (x ++ y)
  | [], _, [], _, _, h => h
  | _ :: _, _, _ :: _, _, h1, h2 => ⟨h1.1, FitsR.append h1.2 h2⟩
def legsF (P : Program) (rec : TypeId → Option (List Leg)) : List Field → Nat → Option (List Leg)
  | [], _ => some []
  | f :: fs, off => if f.offset = off then (match rec f.type with
    | some l => if P.cellsOf f.type = l.length then (match legsF P rec fs (off + l.length) with | some r => some (l ++ r) | none => none) else none
    | none => none) else none
def legsA (l : List Leg) : Nat → List Leg
  | 0 => []
  | n + 1 => l ++ legsA l n
def legs (P : Program) : Nat → TypeId → Option (List Leg)
  | 0, _ => none
  | n + 1, t => match P.underlying t with
    | some (.int k) => some [.int k]
    | some .string => some [.str]
    | some .bool => some [.bool]
    | some (.slice _) => some [.sl t]
    | some (.struct fs) => match legsF P (legs P n) fs.toList 0 with | some ls => if P.cellsOf t = ls.length then some ls else none | none => none
    | some (.array m e) => match legs P n e with | some l => if P.cellsOf e = l.length ∧ P.cellsOf t = m * l.length then some (legsA l m) else none | none => none
    | _ => none
theorem legsA_length (l : List Leg) (n : Nat) : (legsA l n).length = n * l.length := by
  induction n with
  | zero => simp [legsA]
  | succ n ih => simp [legsA, ih, Nat.add_mul, Nat.add_comm]
theorem legsF_fits {P : Program} {rec : TypeId → Option (List Leg)} {R : TypeId → List Value → Prop} {S : TypeId → Value → Prop} {B : Nat} (hrec : ∀ t l cs, rec t = some l → R t cs → FitsR S B l cs) (cs : List Value) :
    ∀ (fs : List Field) (off : Nat) (ls : List Leg), legsF P rec fs off = some ls → (∀ (i : Nat) f, fs[i]? = some f → R f.type ((cs.drop f.offset).take (P.cellsOf f.type))) → FitsR S B ls ((cs.drop off).take ls.length) := by
  intro fs
  induction fs with
  | nil =>
    intro off ls h _
    simp only [legsF, Option.some.injEq] at h
    subst h
    simp [FitsR]
  | cons f fs ih =>
    intro off ls h hf
    simp only [legsF] at h
    split at h
    · rename_i ho
      split at h
      · rename_i l hl
        split at h
        · rename_i hc
          split at h
          · rename_i r hr
            injection h with h
            subst h
            have h1 := hrec _ _ _ hl (hf 0 f rfl)
            have h2 := ih _ _ hr (fun i g hg => hf (i + 1) g (by simpa using hg))
            rw [ho, hc] at h1
            have e : (cs.drop off).take (l ++ r).length = (cs.drop off).take l.length ++ (cs.drop (off + l.length)).take r.length := by
              rw [List.length_append, List.take_add, List.drop_drop]
            rw [e]
            exact h1.append h2
          · cases h
        · cases h
      · cases h
    · cases h
/-- What is asked of all that is read, part by part: of a text that it is no longer than B. -/
structure Keep {H : Type} (K : DataW H → Prop) (B : Nat) : Prop where
  agg : ∀ l, K (.agg l) → ∀ d ∈ l, K d
  slice : ∀ l r, K (.slice l r) → ∀ d ∈ l, K d
  str : ∀ b : List UInt8, b.length ≤ maxLen → K (.lit (.string b)) → b.length ≤ B
theorem Keep.all {H : Type} : Keep (H := H) (fun _ => True) maxLen := ⟨fun _ _ _ _ => trivial, fun _ _ _ _ _ => trivial, fun _ h _ => h⟩
/-- A value that is trodden through as one of type t. -/
def TrodS {H : Type} (K : DataW H → Prop) (enc : TypeId × Value → H) (P : Program) (w : World) (base : Nat) (spare : Nat → Bool) (held : Bool) (t : TypeId) (v : Value) : Prop := ∃ (fuel : Nat) (x : DataW H × List MemPlace), DataW.trod enc P w base spare held fuel t [v] = some x ∧ K x.1
section
variable {H : Type} {enc : TypeId × Value → H} {P : Program} {w : World} {base : Nat} {spare : Nat → Bool} {held : Bool} {K : DataW H → Prop} {B : Nat}
theorem legs_fits (hK : Keep K B) : ∀ (n : Nat) (t : TypeId) (ls : List Leg) (fuel : Nat) (cs : List Value) (x : DataW H × List MemPlace), legs P n t = some ls → DataW.trod enc P w base spare held fuel t cs = some x → K x.1 → FitsR (TrodS K enc P w base spare held) B ls cs := by
  intro n
  induction n with
  | zero => intro t ls fuel cs x h; simp [legs] at h
  | succ n ih =>
    intro t ls fuel cs x h ht hx
    simp only [legs] at h
    split at h
    · rename_i k hu
      injection h with h; subst h
      obtain ⟨m, rfl, _, hw⟩ := DataW.trod_int hu ht
      exact ⟨⟨m, rfl, hw⟩, trivial⟩
    · rename_i hu
      injection h with h; subst h
      obtain ⟨s, rfl, rfl, hw⟩ := DataW.trod_string hu ht
      have e : s.data.toList.length = s.size := Array.length_toList
      exact ⟨⟨s, rfl, by rw [← e] at hw ⊢; exact hK.str _ hw hx⟩, trivial⟩
    · rename_i hu
      injection h with h; subst h
      obtain ⟨s, rfl, _⟩ := DataW.trod_bool hu ht
      exact ⟨⟨s, rfl⟩, trivial⟩
    · rename_i e hu
      injection h with h; subst h
      rcases open_slice hu ht with ⟨rfl, -⟩ | ⟨a, len, cap, m, n, D, Pl, rfl, -⟩
      · exact ⟨⟨fuel, x, ht, hx⟩, trivial⟩
      · exact ⟨⟨fuel, x, ht, hx⟩, trivial⟩
    · rename_i fs hu
      split at h
      · rename_i l hl
        split at h
        · rename_i hc
          injection h with h; subst h
          obtain ⟨xs, m, _, rfl, hlen, hxl, hf⟩ := DataW.trod_struct hu ht
          have h1 := legsF_fits (P := P) (R := fun t cs => ∃ x, DataW.trod enc P w base spare held m t cs = some x ∧ K x.1) (fun t l cs h1 h2 => h2.elim fun x hx => ih t l m cs x h1 hx.1 hx.2) cs fs.toList 0 l hl (fun i f hi => by
            have hi' : fs[i]? = some f := by simpa using hi
            have hlt : i < xs.length := by rw [hxl]; exact (Array.getElem?_eq_some_iff.1 hi').1
            exact ⟨xs[i], (hf i f hi').trans (List.getElem?_eq_getElem hlt), hK.agg _ hx _ (List.mem_map.2 ⟨_, List.getElem_mem hlt, rfl⟩)⟩)
          rw [List.drop_zero, List.take_of_length_le (by omega)] at h1
          exact h1
        · cases h
      · cases h
    · rename_i m e hu
      split at h
      · rename_i l hl
        split at h
        · rename_i hc
          injection h with h; subst h
          obtain ⟨xs, k, _, rfl, hlen, hxl, hf⟩ := DataW.trod_array hu ht
          have key : ∀ (q : Nat) (i : Nat), i + q = m → FitsR (TrodS K enc P w base spare held) B (legsA l q) ((cs.drop (i * l.length)).take (q * l.length)) := by
            intro q
            induction q with
            | zero => intro i _; simp [legsA, FitsR]
            | succ q ihq =>
              intro i hi
              have hlt : i < xs.length := by omega
              have h1 := ih e l k _ _ hl ((hf i (by omega)).trans (List.getElem?_eq_getElem hlt)) (hK.agg _ hx _ (List.mem_map.2 ⟨_, List.getElem_mem hlt, rfl⟩))
              rw [hc.1] at h1
              have h2 := ihq (i + 1) (by omega)
              have e2 : (cs.drop (i * l.length)).take ((q + 1) * l.length) = (cs.drop (i * l.length)).take l.length ++ (cs.drop ((i + 1) * l.length)).take (q * l.length) := by
                rw [Nat.add_mul, Nat.one_mul, Nat.add_comm (q * l.length), List.take_add, List.drop_drop, Nat.add_mul, Nat.one_mul]
              rw [e2]
              exact h1.append h2
          have h3 := key m 0 (by omega)
          rw [Nat.zero_mul, List.drop_zero, List.take_of_length_le (by omega)] at h3
          exact h3
        · cases h
      · cases h
    · cases h
/-- A slice whose elements open, each as one of a row. -/
theorem open_row {α : Type} (E : Enc α) {Good : α → Prop} {t e : TypeId} {v : Value} (hu : P.underlying t = some (.slice e)) (hC : P.cellsOf e = E.sz) (hK : Keep K B) (hel : ∀ fuel cs x, DataW.trod enc P w base spare held fuel e cs = some x → K x.1 → ∃ d, cs = E.cells d ∧ Good d)
    (h : TrodS K enc P w base spare held t v) : ∃ ds : List α, E.R w v ds ∧ ∀ d ∈ ds, Good d := by
  obtain ⟨fuel, x, h, hxK⟩ := h
  rcases open_slice hu h with ⟨h0, -⟩ | ⟨a, len, cap, m, n, D, Pl, hcs, hb, hl, hm, hmm, rfl, hi⟩
  · injection h0 with h0 _
    subst h0
    exact ⟨[], Enc.R.none w, by simp⟩
  · injection hcs with hcs _
    subst hcs
    have hlm : len ≤ m := by rw [hmm]; split <;> omega
    have key : ∀ q, q ≤ len → ∃ ds : List α, ds.length = q ∧ (∀ d ∈ ds, Good d) ∧ ∀ i, (hi : i < ds.length) → ∀ j, j < E.sz → w.cell? (a.add (i * E.sz + j)) = (E.cells ds[i])[j]? := by
      intro q
      induction q with
      | zero => intro _; exact ⟨[], rfl, by simp, fun i hi => by simp at hi⟩
      | succ q ih =>
        intro hq
        obtain ⟨ds, hds, hg, hd⟩ := ih (by omega)
        obtain ⟨cs', hc, ht⟩ := hi q (by omega)
        rw [hC] at hc
        obtain ⟨d, rfl, hgd⟩ := hel _ _ _ ht (hK.slice _ _ hxK _ (List.mem_map.2 ⟨q, List.mem_range.2 (by omega), rfl⟩))
        obtain ⟨_, h1, h2⟩ := World.cells?_some hc
        refine ⟨ds ++ [d], by simp [hds], fun d' hd' => ?_, fun i hi' j hj => ?_⟩
        · rcases List.mem_append.1 hd' with h | h
          · exact hg d' h
          · rw [List.mem_singleton.1 h]; exact hgd
        by_cases h3 : i < ds.length
        · rw [List.getElem_append_left h3]; exact hd i h3 j hj
        · have h4 : i = q := by simp at hi'; omega
          subst h4
          rw [← Go.Deep.add_add, h2 j hj]
          simp [hds]
    obtain ⟨ds, hds, hg, hd⟩ := key len (Nat.le_refl _)
    refine ⟨ds, ⟨by rw [Enc.all_length], some a, cap, by rw [hds], by omega, by simp only [maxLen] at hm; omega, .inr ⟨a, rfl, fun k u hu => ?_⟩⟩, hg⟩
    have hk : k < ds.length * E.sz := by have := (List.getElem?_eq_some_iff.1 hu).1; rw [Enc.all_length] at this; exact this
    have hp := E.pos
    have h1 : k / E.sz < ds.length := (Nat.div_lt_iff_lt_mul hp).2 hk
    have h2 := hd (k / E.sz) h1 (k % E.sz) (Nat.mod_lt _ hp)
    have h3 := E.all_get ds (k / E.sz) (k % E.sz) h1 (Nat.mod_lt _ hp)
    have e : k / E.sz * E.sz + k % E.sz = k := by rw [Nat.mul_comm]; exact Nat.div_add_mod k E.sz
    rw [e] at h2 h3
    rw [h2, ← hu, h3]
end
end Go.Proofs.YtebpacmhdkgfeaaDoor

/- What the laws' listed tables give: Itoa's. The bulk of what is read. -/
namespace Go.Proofs.YtebpacmhdkgfeaaDoor
open Go.ChangeShapes Go.WideShapes Go.RowKit Go.Deep

theorem bulk_part {H : Type} {d : DataW H} {l : List (DataW H)} (h : d ∈ l) : Rows.uptoBulk d ≤ Rows.uptoBulkAll l := by
  induction l with
  | nil => cases h
  | cons x r ih =>
    simp only [Rows.uptoBulkAll]
    rcases List.mem_cons.1 h with rfl | h
    · omega
    · have := ih h; omega
/-- What is of small bulk: its texts are no longer. -/
theorem keep_bulk {H : Type} (B : Nat) : Keep (H := H) (fun d => Rows.uptoBulk d ≤ B) B := by
  refine ⟨fun l h d hd => ?_, fun l r h d hd => ?_, fun b _ h => ?_⟩
  · have := bulk_part hd; simp only [Rows.uptoBulk] at h; omega
  · have := bulk_part hd; simp only [Rows.uptoBulk] at h; omega
  · simp only [Rows.uptoBulk] at h; omega
/-- The rows' list of laid tables. -/
abbrev laidL : List (String × DataW Unit) := [("math/bits.deBruijn32tab", Rows.laid_math_bits_deBruijn32tab), ("math/bits.deBruijn64tab", Rows.laid_math_bits_deBruijn64tab), ("internal/strconv.uint64pow10", Rows.laid_internal_strconv_uint64pow10)]
theorem tab_data : (Rows.laid_internal_strconv_uint64pow10 : DataW Unit) = Lib.tabData .u64 Lib.pow10Tab := by
  unfold Rows.laid_internal_strconv_uint64pow10 Lib.tabData Lib.pow10Tab
  rfl
theorem tb_of_laid {W : World} (h : laidMetH Tryd.prog laidL W) : Tb W := by
  rw [MakeChecks.laidMetH_plain _ _ _ (by kernel_rfl)] at h
  obtain ⟨ps, ⟨_, _, _, _, _, _, _, _, _, _, ⟨_, _, _, _, _, _, _, _, _, _, ⟨g, t, cs, fuel, p, q, hg, hty, hvar, hd, _, _⟩, _⟩, _⟩, _⟩ := h
  obtain rfl := Option.some.inj ((show Tryd.prog.globalNamed "internal/strconv.uint64pow10" = some 0 by kernel_rfl).symm.trans hg)
  obtain rfl := Option.some.inj ((show (Tryd.prog.globals[0]?).map (·.type) = some 117 by kernel_rfl).symm.trans hty)
  rw [tab_data] at hd
  unfold Tb Lib.TabIs
  rw [hvar, ← Lib.cells_of_tab Tryd.underlying117 Tryd.underlying54 (by kernel_rfl) (by kernel_rfl) hd]
end Go.Proofs.YtebpacmhdkgfeaaDoor
