/- Variables and rows of one's own as a list of items, each known by blocks of its own; events of a walk that turn the list. Over any program. -/
import Derived.Test.YtebpacmhdkgfeaaDoorEvG
import Derived.Deep.MidRow
namespace Go.Proofs.YtebpacmhdkgfeaaDoor
open Go.RowKit

/-- What holds of a world by some blocks alone. -/
structure Item where
  S : Nat → Prop
  p : World → Prop
structure Item.At (i : Item) (w : World) : Prop where
  p : i.p w
  lt : ∀ k, i.S k → k < w.heap.size
  stay : ∀ w', w.heap.size ≤ w'.heap.size → (∀ k, i.S k → w'.heap[k]? = w.heap[k]?) → i.p w'
theorem Item.At.keep {i : Item} {w w' : World} (h : i.At w) (hz : w.heap.size ≤ w'.heap.size) (hb : ∀ k, i.S k → w'.heap[k]? = w.heap[k]?) : i.At w' :=
  ⟨h.stay w' hz hb, fun k hk => Nat.lt_of_lt_of_le (h.lt k hk) hz, fun w'' hz' hb' => h.stay w'' (Nat.le_trans hz hz') fun k hk => (hb' k hk).trans (hb k hk)⟩
/-- Only blocks of M, and what is new, have turned. -/
structure Mod (M : Nat → Prop) (w w1 : World) : Prop where
  os : w1.os = w.os
  tape : w1.tape = w.tape
  output : w1.output = w.output
  size : w.heap.size ≤ w1.heap.size
  block : ∀ k, k < w.heap.size → ¬ M k → w1.heap[k]? = w.heap[k]?
def NoM : Nat → Prop := fun _ => False
namespace Mod
variable {M M' : Nat → Prop} {w w1 w2 : World}
theorem refl (M : Nat → Prop) (w : World) : Mod M w w := ⟨rfl, rfl, rfl, Nat.le_refl _, fun _ _ _ => rfl⟩
theorem of_below (h : Below w.heap.size w w1) : Mod M w w1 := ⟨h.os, h.tape, h.output, h.size, fun k hk _ => h.block k hk⟩
theorem below (h : Mod NoM w w1) : Below w.heap.size w w1 := ⟨h.os, h.tape, h.output, h.size, fun k hk => h.block k hk fun e => e⟩
theorem of_put {g : Nat} (h : Put w w1 g) : Mod (· = g) w w1 := ⟨h.os, h.tape, h.output, h.size, fun k hk hn => h.block k hk hn⟩
theorem put {g : Nat} (h : Mod (· = g) w w1) : Put w w1 g := ⟨h.os, h.tape, h.output, h.size, fun k hk hn => h.block k hk hn⟩
theorem of_grown {row : Option Nat} (h : w.grownBy w1 row) : Mod (fun k => some k = row) w w1 := ⟨h.os, h.tape, h.output, h.size, fun k hk hn => h.block k hk hn⟩
theorem mono (h : Mod M w w1) (hM : ∀ k, k < w.heap.size → M k → M' k) : Mod M' w w1 := ⟨h.os, h.tape, h.output, h.size, fun k hk hn => h.block k hk fun e => hn (hM k hk e)⟩
theorem trans (h : Mod M w w1) (k : Mod M' w1 w2) (hM : ∀ b, b < w.heap.size → M' b → M b) : Mod M w w2 :=
  ⟨k.os.trans h.os, k.tape.trans h.tape, k.output.trans h.output, Nat.le_trans h.size k.size, fun i hi hn =>
    (k.block i (Nat.lt_of_lt_of_le hi h.size) (fun e => hn (hM i hi e))).trans (h.block i hi hn)⟩
end Mod
structure Loc (w0 : World) (M : Nat → Prop) (w : World) (l : List Item) : Prop where
  mod : Mod M w0 w
  at_ : ∀ i ∈ l, i.At w
  new : ∀ i ∈ l, ∀ k, i.S k → w0.heap.size ≤ k ∨ M k
  apart : l.Pairwise fun i j => ∀ k, i.S k → ¬ j.S k
/-- A variable at block g. -/
def var (g : Nat) (cs : List Value) (t : TypeId) : Item := ⟨(· = g), fun w => Box w g cs.toArray t⟩
/-- What holds by the blocks from a up to b. -/
def seg (a b : Nat) (p : World → Prop) : Item := ⟨fun k => a ≤ k ∧ k < b, p⟩
/-- A row of one's own. -/
def row {α : Type} (E : Enc α) (base : Nat) (e : TypeId) (v : Value) (xs : List α) : Item := ⟨fun k => v.ownBlock = some k, fun w => E.O w base e v xs⟩
inductive Swap (i i' : Item) : List Item → List Item → Prop where
  | here (l : List Item) : Swap i i' (i :: l) (i' :: l)
  | there (j : Item) {l l' : List Item} : Swap i i' l l' → Swap i i' (j :: l) (j :: l')
theorem Swap.mem {i i' : Item} {l l' : List Item} (h : Swap i i' l l') : i ∈ l := by
  induction h with
  | here l => exact .head _
  | there j _ ih => exact .tail _ ih
theorem Swap.out {i i' : Item} {l l' : List Item} (h : Swap i i' l l') : ∀ j ∈ l', j = i' ∨ j ∈ l := by
  induction h with
  | here l => exact fun j hj => (List.mem_cons.1 hj).elim .inl fun h => .inr (.tail _ h)
  | there j _ ih => exact fun k hk => (List.mem_cons.1 hk).elim (fun e => .inr (e ▸ .head _)) fun h => (ih k h).elim .inl fun h => .inr (.tail _ h)
theorem var_at {w : World} {g : Nat} {cs : List Value} {t : TypeId} (h : Box w g cs.toArray t) : (var g cs t).At w :=
  ⟨h, fun k hk => by cases hk; exact h.lt, fun w' _ hb => (hb g rfl).trans h⟩
theorem row_at {α : Type} {E : Enc α} {w : World} {base : Nat} {e : TypeId} {v : Value} {xs : List α} (h : E.O w base e v xs) : (row E base e v xs).At w := by
  refine ⟨h, fun k hk => h.lt k hk, fun w' hz hb => ?_⟩
  unfold Item.p row Enc.O at *
  refine ⟨h.1, ?_⟩
  rcases h.2 with hn | ⟨g, cap, cur, rfl, hbb, hg, rest⟩
  · exact .inl hn
  · exact .inr ⟨g, cap, cur, rfl, hbb, (hb g rfl).trans hg, rest⟩
namespace Loc
variable {w0 w w1 : World} {M : Nat → Prop} {l l' : List Item} {i i' : Item}
theorem nil (w : World) (M : Nat → Prop) : Loc w M w [] := ⟨.refl _ _, by simp, by simp, .nil⟩
theorem below (h : Loc w0 NoM w l) : Below w0.heap.size w0 w := h.mod.below
theorem size (h : Loc w0 M w l) : w0.heap.size ≤ w.heap.size := h.mod.size
theorem get (h : Loc w0 M w l) (hm : i ∈ l) : i.p w := (h.at_ i hm).p
theorem box {g : Nat} {cs : List Value} {t : TypeId} (h : Loc w0 M w l) (hm : var g cs t ∈ l) : Box w g cs.toArray t := h.get hm
theorem own {α : Type} {E : Enc α} {base : Nat} {e : TypeId} {v : Value} {xs : List α} (h : Loc w0 M w l) (hm : row E base e v xs ∈ l) : E.O w base e v xs := h.get hm
theorem fact {a b : Nat} {p : World → Prop} (h : Loc w0 M w l) (hm : seg a b p ∈ l) : p w := h.get hm
/-- A call that only makes new memory. -/
theorem call (h : Loc w0 M w l) (hb : Below w.heap.size w w1) : Loc w0 M w1 l :=
  ⟨h.mod.trans (.of_below (M := NoM) hb) fun _ _ e => e.elim, fun i hi => (h.at_ i hi).keep hb.size fun k hk => hb.block k ((h.at_ i hi).lt k hk), h.new, h.apart⟩
/-- The same, and something holds of what is new. -/
theorem callNew (h : Loc w0 M w l) (hb : Below w.heap.size w w1) (hi : i.At w1) (hS : ∀ k, i.S k → w.heap.size ≤ k) : Loc w0 M w1 (i :: l) := by
  have h1 := h.call hb
  refine ⟨h1.mod, fun j hj => (List.mem_cons.1 hj).elim (fun e => e ▸ hi) (h1.at_ j), fun j hj k hk => ?_, .cons (fun j hj k hk hk' => ?_) h1.apart⟩
  · rcases List.mem_cons.1 hj with rfl | hj
    · exact .inl (Nat.le_trans h.size (hS k hk))
    · exact h1.new j hj k hk
  · have := (h.at_ j hj).lt k hk'
    have := hS k hk
    omega
theorem callVar {g : Nat} {cs : List Value} {t : TypeId} (h : Loc w0 M w l) (hb : Below w.heap.size w w1) (hx : Box w1 g cs.toArray t) (hg : w.heap.size ≤ g) : Loc w0 M w1 (var g cs t :: l) :=
  h.callNew hb (var_at hx) fun k hk => by cases hk; exact hg
theorem callRow {α : Type} {E : Enc α} {e : TypeId} {v : Value} {xs : List α} {base : Nat} (h : Loc w0 M w l) (hb : Below w.heap.size w w1) (ho : E.O w1 base e v xs) (hbase : w.heap.size ≤ base) : Loc w0 M w1 (row E base e v xs :: l) :=
  h.callNew hb (row_at ho) fun k hk => Nat.le_trans hbase (ho.base k hk)
/-- One item turns into another one, in its own blocks or new ones. -/
theorem swap (h : Loc w0 M w l) (hs : Swap i i' l l') (hm : Mod i.S w w1) (hi : i'.At w1) (hS : ∀ k, i'.S k → i.S k ∨ w.heap.size ≤ k) : Loc w0 M w1 l' := by
  have hmi := hs.mem
  refine ⟨h.mod.trans hm fun b hb hk => ?_, ?_, fun j hj k hk => ?_, ?_⟩
  · rcases h.new i hmi b hk with h1 | h1
    · omega
    · exact h1
  · have key : ∀ {l l' : List Item}, Swap i i' l l' → (∀ j ∈ l, j.At w) → (l.Pairwise fun i j => ∀ k, i.S k → ¬ j.S k) → ∀ j ∈ l', j.At w1 := by
      intro l l' hs
      induction hs with
      | here l =>
        intro ha hp j hj
        rcases List.mem_cons.1 hj with rfl | hj
        · exact hi
        · exact (ha j (.tail _ hj)).keep hm.size fun k hk => hm.block k ((ha j (.tail _ hj)).lt k hk) fun e => (List.pairwise_cons.1 hp).1 j hj k e hk
      | there j0 hs ih =>
        intro ha hp j hj
        rcases List.mem_cons.1 hj with rfl | hj
        · exact (ha j (.head _)).keep hm.size fun k hk => hm.block k ((ha j (.head _)).lt k hk) fun e => (List.pairwise_cons.1 hp).1 i hs.mem k hk e
        · exact ih (fun j hj => ha j (.tail _ hj)) (List.pairwise_cons.1 hp).2 j hj
    exact key hs h.at_ h.apart
  · rcases hs.out j hj with rfl | hj
    · rcases hS k hk with h1 | h1
      · exact h.new i hmi k h1
      · exact .inl (Nat.le_trans h.size h1)
    · exact h.new j hj k hk
  · have key : ∀ {l l' : List Item}, Swap i i' l l' → (∀ j ∈ l, j.At w) → (l.Pairwise fun i j => ∀ k, i.S k → ¬ j.S k) → l'.Pairwise fun i j => ∀ k, i.S k → ¬ j.S k := by
      intro l l' hs
      induction hs with
      | here l =>
        intro ha hp
        refine .cons (fun j hj k hk hk' => ?_) (List.pairwise_cons.1 hp).2
        rcases hS k hk with h1 | h1
        · exact (List.pairwise_cons.1 hp).1 j hj k h1 hk'
        · have := (ha j (.tail _ hj)).lt k hk'; omega
      | there j0 hs ih =>
        intro ha hp
        refine .cons (fun j hj k hk hk' => ?_) (ih (fun j hj => ha j (.tail _ hj)) (List.pairwise_cons.1 hp).2)
        rcases hs.out j hj with rfl | hj
        · rcases hS k hk' with h1 | h1
          · exact (List.pairwise_cons.1 hp).1 i hs.mem k hk h1
          · have := (ha j0 (.head _)).lt k hk; omega
        · exact (List.pairwise_cons.1 hp).1 j hj k hk hk'
    exact key hs h.at_ h.apart
/-- A variable is turned, by a store or a call. -/
theorem put {g : Nat} {cs cs' : List Value} {t : TypeId} (h : Loc w0 M w l) (hs : Swap (var g cs t) (var g cs' t) l l') (hp : Put w w1 g) (hx : Box w1 g cs'.toArray t) : Loc w0 M w1 l' :=
  h.swap hs (Mod.of_put hp) (var_at hx) fun _ hk => .inl hk
/-- A row grows. -/
theorem grow {α : Type} {E : Enc α} {base : Nat} {e : TypeId} {v v' : Value} {xs xs' : List α} (h : Loc w0 M w l) (hs : Swap (row E base e v xs) (row E base e v' xs') l l') (hg : w.grownBy w1 v.ownBlock) (ho : E.O w1 base e v' xs')
    (hv : v'.ownBlock = v.ownBlock ∨ ∃ b, v'.ownBlock = some b ∧ w.heap.size ≤ b) : Loc w0 M w1 l' :=
  h.swap hs ((Mod.of_grown hg).mono fun k _ e => e.symm) (row_at ho) fun k hk => by
    rcases hv with h1 | ⟨b, h1, h2⟩
    · exact .inl (h1.symm.trans hk)
    · have hk' : v'.ownBlock = some k := hk
      rw [h1] at hk'
      injection hk' with hk'
      exact .inr (by omega)
/-- What is no more asked of. -/
theorem drop (h : Loc w0 M w (i :: l)) : Loc w0 M w l := ⟨h.mod, fun j hj => h.at_ j (.tail _ hj), fun j hj => h.new j (.tail _ hj), (List.pairwise_cons.1 h.apart).2⟩
theorem sub (h : Loc w0 M w l) (hs : l'.Sublist l) : Loc w0 M w l' := ⟨h.mod, fun j hj => h.at_ j (hs.mem hj), fun j hj => h.new j (hs.mem hj), h.apart.sublist hs⟩
/-- Begun anew from here. -/
theorem drewN (h : Loc w0 M w l) (n : Nat) : Loc w0 M (w.drewN n) l := ⟨⟨h.mod.os, h.mod.tape, h.mod.output, h.mod.size, h.mod.block⟩, fun i hi => (h.at_ i hi).keep (w' := w.drewN n) (Nat.le_refl _) fun _ _ => rfl, h.new, h.apart⟩
end Loc

/-! ### Cells of a list -/
inductive Seg : List Value → Nat → Nat → List Value → Prop where
  | nil (cs : List Value) : Seg cs 0 0 []
  | take {c : Value} {cs vs : List Value} {n : Nat} : Seg cs 0 n vs → Seg (c :: cs) 0 (n + 1) (c :: vs)
  | skip {c : Value} {cs vs : List Value} {j n : Nat} : Seg cs j n vs → Seg (c :: cs) (j + 1) n vs
theorem Seg.len {cs vs : List Value} {j n : Nat} (h : Seg cs j n vs) : vs.length = n := by
  induction h with
  | nil cs => rfl
  | take _ ih => simp [ih]
  | skip _ ih => exact ih
theorem Seg.get {cs vs : List Value} {j n : Nat} (h : Seg cs j n vs) : ∀ k v, vs[k]? = some v → cs[j + k]? = some v := by
  induction h with
  | nil cs => intro k v h; simp at h
  | take _ ih =>
    intro k v h
    cases k with
    | zero => simpa using h
    | succ k => simpa using ih k v (by simpa using h)
  | @skip c cs vs j n _ ih =>
    intro k v h
    have e : j + 1 + k = (j + k) + 1 := by omega
    rw [e]
    simpa using ih k v h
inductive SetAt : List Value → Nat → List Value → List Value → Prop where
  | nil (cs : List Value) : SetAt cs 0 [] cs
  | put {c v : Value} {cs vs cs' : List Value} : SetAt cs 0 vs cs' → SetAt (c :: cs) 0 (v :: vs) (v :: cs')
  | skip {c : Value} {cs vs cs' : List Value} {j : Nat} : SetAt cs j vs cs' → SetAt (c :: cs) (j + 1) vs (c :: cs')
theorem SetAt.eq {cs vs cs' : List Value} {j : Nat} (h : SetAt cs j vs cs') : cs.take j ++ vs ++ cs.drop (j + vs.length) = cs' ∧ j + vs.length ≤ cs.length := by
  induction h with
  | nil cs => simp
  | put _ ih =>
    obtain ⟨h1, h2⟩ := ih
    simp only [List.take_zero, List.nil_append, Nat.zero_add] at h1 h2 ⊢
    refine ⟨?_, by simp only [List.length_cons]; omega⟩
    rw [List.cons_append, List.length_cons, List.drop_succ_cons, h1]
  | @skip c cs vs cs' j _ ih =>
    obtain ⟨h1, h2⟩ := ih
    refine ⟨?_, by simp only [List.length_cons]; omega⟩
    have e : j + 1 + vs.length = (j + vs.length) + 1 := by omega
    rw [e, List.take_succ_cons, List.drop_succ_cons, List.cons_append, List.cons_append, h1]

/-! ### The types' rows of the table -/
class SizeT (P : Program) (ty : TypeId) (n : outParam Nat) : Prop where
  size : (P.info? ty).map (·.size) = some n
class AggT (P : Program) (ty : TypeId) : Prop where
  agg : isAggT P ty = true
class OneT (P : Program) (ty : TypeId) : Prop where
  one : isAggT P ty = false
  ty : (P.underlying ty).isSome = true
class ZeroT (P : Program) (ty : TypeId) (z : outParam Value) : Prop where
  zero : (P.info? ty).map (·.zero) = some (some z)
class SliceT (P : Program) (ty : TypeId) (e : outParam TypeId) : Prop where
  slice : P.underlying ty = some (.slice e)
/-- A value's cells, each of one. -/
structure CellsOf (v : Value) (cs : List Value) : Prop where
  eq : v.cells = cs.toArray
  one : ∀ u ∈ cs, u.oneCell' = true
theorem cells_agg (cs : List Value) (h : cs.all (·.oneCell') = true) : CellsOf (.agg cs.toArray) cs := ⟨rfl, fun u hu => List.all_eq_true.1 h u hu⟩
theorem cells_int (k : IntKind) (n : Int) : CellsOf (.int k n) [.int k n] := ⟨rfl, by simp [Value.oneCell']⟩
theorem cells_bool (b : Bool) : CellsOf (.bool b) [.bool b] := ⟨rfl, by simp [Value.oneCell']⟩
theorem cells_str (s : ByteArray) : CellsOf (.string s) [.string s] := ⟨rfl, by simp [Value.oneCell']⟩
theorem cells_slice (a : Option Addr) (n c : Nat) : CellsOf (.slice a n c) [.slice a n c] := ⟨rfl, by simp [Value.oneCell']⟩
theorem cells_ptr (a : Option Addr) : CellsOf (.pointer a) [.pointer a] := ⟨rfl, by simp [Value.oneCell']⟩
theorem cells_map (a : Option Nat) : CellsOf (.map a) [.map a] := ⟨rfl, by simp [Value.oneCell']⟩
theorem cells_func (f : Fn) (a c : Array Value) : CellsOf (.func f a c) [.func f a c] := ⟨rfl, by simp [Value.oneCell']⟩
theorem cells_nilFunc : CellsOf .nilFunc [.nilFunc] := ⟨rfl, by simp [Value.oneCell']⟩
theorem cells_one {v : Value} (h : v.oneCell' = true) (hc : v.cells = #[v]) : CellsOf v [v] := ⟨hc, by simp [h]⟩

theorem range_of_box {W : World} {g : Nat} {cs vs : List Value} {t : TypeId} {j n : Nat} (hx : Box W g cs.toArray t) (hs : Seg cs j n vs) : W.rangeAt g j vs := fun k v hv => by
  rw [hx.cell (j + k)]
  simpa using hs.get k v hv
theorem isRow_of {P : Program} {ty : TypeId} (h : isAggT P ty = true) : ∃ d, P.underlying ty = some d ∧ d.isRow = true := by
  cases hu : P.underlying ty with
  | none => simp [isAggT, hu] at h
  | some d => exact ⟨d, rfl, by unfold isAggT at h; rw [hu] at h; cases d <;> simp_all [TypeDesc.isRow]⟩
theorem run_loadVar_cell {P : Program} {ty : TypeId} (h : OneT P ty) (w : World) (a : Addr) (v : Value) (hc : w.cell? a = some v) : (loadVar ty a).run P w = .ok v w := by
  cases hu : P.underlying ty with
  | none => have := h.ty; simp [hu] at this
  | some d =>
    have ha : (isAgg ty).run P w = .ok false w := by
      have h1 := h.one
      unfold isAggT at h1
      rw [hu] at h1
      unfold isAgg
      rw [Sem.run_bind, run_underlying hu w]
      cases d <;> simp_all
    simp [loadVar, Sem.run_bind, ha, hc]

section
variable {P : Program} {ops : Array Oper} {rest : List Oper} {o : Oper} {a : Act} {Q : Exit → Act → World → Prop} {W w0 : World} {M : Nat → Prop} {l l' : List Item}
theorem wanted_some {j d : Nat} {want b : Bool} {tmps : Array Value} (hg : o.guard = some (j, want)) (hd : (ops[j]?).bind (·.dst) = some d) (ht : tmps[d]? = some (.bool b)) (hb : b = want) : Region.wanted o (yielded ops tmps) = true := by
  subst hb
  simp [Region.wanted, hg, yielded, hd, ht]
theorem gAlloc {t : TypeId} (_hg : o.guard = none) (_ho : o.op = .alloc t) (h : wpList P ops Q (o :: rest) a W) : wpList P ops Q (o :: rest) a W := h
theorem gBox {t : TypeId} {x : Operand} (_hg : o.guard = none) (_ho : o.op = .box t x) (h : wpList P ops Q (o :: rest) a W) : wpList P ops Q (o :: rest) a W := h
theorem gLoad {t : TypeId} {x : Operand} (_hg : o.guard = none) (_ho : o.op = .load t x) (h : wpList P ops Q (o :: rest) a W) : wpList P ops Q (o :: rest) a W := h
theorem gStore {t : TypeId} {x y : Operand} (_hg : o.guard = none) (_ho : o.op = .store t x y) (h : wpList P ops Q (o :: rest) a W) : wpList P ops Q (o :: rest) a W := h
theorem gLoadG {t : TypeId} {x : Operand} {g : Nat × Bool} (_hg : o.guard = some g) (_ho : o.op = .load t x) (_h : Region.wanted o (yielded ops a.tmps) = true) (h : wpList P ops Q (o :: rest) a W) : wpList P ops Q (o :: rest) a W := h
theorem ev_allocL {t : TypeId} {z : Value} {cs : List Value} [hz : ZeroT P t z] (hgd : o.guard = none) (hL : Loc w0 M W l) (ho : o.op = .alloc t) (hc : CellsOf z cs)
    (h : ∀ g w1, Loc w0 M w1 (var g cs t :: l) → wpList P ops Q rest (a.put o.dst (.pointer (some ⟨g, 0, none⟩))) w1) : wpList P ops Q (o :: rest) a W := by
  refine event hgd (v := .pointer (some ⟨W.heap.size, 0, none⟩)) (w1 := W.alloc (.cells cs.toArray t)) ?_ (h _ _ (hL.callVar (bl_alloc (Below.refl _ _) _) (Box.new W _ t) (Nat.le_refl _)))
  obtain ⟨i, hi, hzz⟩ := Option.map_eq_some_iff.1 hz.zero
  simp [execOp, ho, Instr.alloc, zeroValue, typeInfo, hi, hzz, hc.eq, newVar, newRow]
theorem ev_boxL {t : TypeId} {x : Operand} {v : Value} {cs : List Value} (hgd : o.guard = none) (hL : Loc w0 M W l) (ho : o.op = .box t x) (hx : a.eval x = v) (hc : CellsOf v cs)
    (h : ∀ g w1, Loc w0 M w1 (var g cs t :: l) → wpList P ops Q rest (a.put o.dst (.pointer (some ⟨g, 0, none⟩))) w1) : wpList P ops Q (o :: rest) a W := by
  refine event hgd (v := .pointer (some ⟨W.heap.size, 0, none⟩)) (w1 := W.alloc (.cells cs.toArray t)) ?_ (h _ _ (hL.callVar (bl_alloc (Below.refl _ _) _) (Box.new W _ t) (Nat.le_refl _)))
  simp [execOp, ho, Instr.box, hx, hc.eq, newVar, newRow]
theorem ev_loadL {ty : TypeId} {x : Operand} {n g j : Nat} {cs vs : List Value} {t : TypeId} [ha : AggT P ty] [hn : SizeT P ty n] (hgd : o.guard = none) (hL : Loc w0 M W l) (ho : o.op = .load ty x) (hx : a.eval x = .pointer (some ⟨g, j, none⟩))
    (hm : var g cs t ∈ l) (hs : Seg cs j n vs) (h : wpList P ops Q rest (a.put o.dst (.agg vs.toArray)) W) : wpList P ops Q (o :: rest) a W := by
  obtain ⟨d, hu, hd⟩ := isRow_of ha.agg
  refine event hgd (v := .agg vs.toArray) (w1 := W) ?_ h
  unfold execOp
  simp only [ho, hx, Instr.loadAt, Instr.sureAddr, Sem.run_bind, Sem.run_pure, Result.andThen_ok, run_loadVar_mid W g j ty vs d (range_of_box (hL.box hm) hs) hu hd (by rw [hs.len]; exact hn.size)]
theorem ev_loadAllL {ty : TypeId} {x : Operand} {n g : Nat} {cs : List Value} {t : TypeId} [ha : AggT P ty] [hn : SizeT P ty n] (hgd : o.guard = none) (hL : Loc w0 M W l) (ho : o.op = .load ty x) (hx : a.eval x = .pointer (some ⟨g, 0, none⟩))
    (hm : var g cs t ∈ l) (hs : cs.length = n) (h : wpList P ops Q rest (a.put o.dst (.agg cs.toArray)) W) : wpList P ops Q (o :: rest) a W := by
  obtain ⟨d, hu, hd⟩ := isRow_of ha.agg
  refine event hgd (v := .agg cs.toArray) (w1 := W) ?_ h
  have hr : W.rangeAt g 0 cs := fun k v hv => by rw [(hL.box hm).cell (0 + k)]; simpa using hv
  unfold execOp
  simp only [ho, hx, Instr.loadAt, Instr.sureAddr, Sem.run_bind, Sem.run_pure, Result.andThen_ok, run_loadVar_mid W g 0 ty cs d hr hu hd (by rw [hs]; exact hn.size)]
theorem ev_load1L {ty : TypeId} {x : Operand} {g j : Nat} {cs : List Value} {v : Value} {t : TypeId} [ha : OneT P ty] (hgd : o.guard = none) (hL : Loc w0 M W l) (ho : o.op = .load ty x) (hx : a.eval x = .pointer (some ⟨g, j, none⟩))
    (hm : var g cs t ∈ l) (hv : cs[j]? = some v) (h : wpList P ops Q rest (a.put o.dst v) W) : wpList P ops Q (o :: rest) a W := by
  have hc : W.cell? ⟨g, j, none⟩ = some v := by rw [(hL.box hm).cell j]; simpa using hv
  refine event hgd (v := v) (w1 := W) ?_ h
  unfold execOp
  simp only [ho, hx, Instr.loadAt, Instr.sureAddr, Sem.run_bind, Sem.run_pure, Result.andThen_ok, run_loadVar_cell ha W _ v hc]
theorem ev_loadG_ {ty : TypeId} {x : Operand} {n g j : Nat} {cs vs : List Value} {t : TypeId} [ha : AggT P ty] [hn : SizeT P ty n] (hw : Region.wanted o (yielded ops a.tmps) = true) (hL : Loc w0 M W l) (ho : o.op = .load ty x) (hx : a.eval x = .pointer (some ⟨g, j, none⟩))
    (hm : var g cs t ∈ l) (hs : Seg cs j n vs) (h : wpList P ops Q rest (a.put o.dst (.agg vs.toArray)) W) : wpList P ops Q (o :: rest) a W := by
  obtain ⟨d, hu, hd⟩ := isRow_of ha.agg
  refine eventG hw (v := .agg vs.toArray) (w1 := W) ?_ h
  unfold execOp
  simp only [ho, hx, Instr.loadAt, Instr.sureAddr, Sem.run_bind, Sem.run_pure, Result.andThen_ok, run_loadVar_mid W g j ty vs d (range_of_box (hL.box hm) hs) hu hd (by rw [hs.len]; exact hn.size)]
theorem ev_loadAllG {ty : TypeId} {x : Operand} {n g : Nat} {cs : List Value} {t : TypeId} [ha : AggT P ty] [hn : SizeT P ty n] (hw : Region.wanted o (yielded ops a.tmps) = true) (hL : Loc w0 M W l) (ho : o.op = .load ty x) (hx : a.eval x = .pointer (some ⟨g, 0, none⟩))
    (hm : var g cs t ∈ l) (hs : cs.length = n) (h : wpList P ops Q rest (a.put o.dst (.agg cs.toArray)) W) : wpList P ops Q (o :: rest) a W := by
  obtain ⟨d, hu, hd⟩ := isRow_of ha.agg
  refine eventG hw (v := .agg cs.toArray) (w1 := W) ?_ h
  have hr : W.rangeAt g 0 cs := fun k v hv => by rw [(hL.box hm).cell (0 + k)]; simpa using hv
  unfold execOp
  simp only [ho, hx, Instr.loadAt, Instr.sureAddr, Sem.run_bind, Sem.run_pure, Result.andThen_ok, run_loadVar_mid W g 0 ty cs d hr hu hd (by rw [hs]; exact hn.size)]
theorem ev_load1G {ty : TypeId} {x : Operand} {g j : Nat} {cs : List Value} {v : Value} {t : TypeId} [ha : OneT P ty] (hw : Region.wanted o (yielded ops a.tmps) = true) (hL : Loc w0 M W l) (ho : o.op = .load ty x) (hx : a.eval x = .pointer (some ⟨g, j, none⟩))
    (hm : var g cs t ∈ l) (hv : cs[j]? = some v) (h : wpList P ops Q rest (a.put o.dst v) W) : wpList P ops Q (o :: rest) a W := by
  have hc : W.cell? ⟨g, j, none⟩ = some v := by rw [(hL.box hm).cell j]; simpa using hv
  refine eventG hw (v := v) (w1 := W) ?_ h
  unfold execOp
  simp only [ho, hx, Instr.loadAt, Instr.sureAddr, Sem.run_bind, Sem.run_pure, Result.andThen_ok, run_loadVar_cell ha W _ v hc]
theorem ev_storeL {ty : TypeId} {p x : Operand} {n g j : Nat} {cs cs' vs : List Value} {v : Value} {t : TypeId} [hn : SizeT P ty n] (hgd : o.guard = none) (hL : Loc w0 M W l) (ho : o.op = .store ty p x) (hp : a.eval p = .pointer (some ⟨g, j, none⟩)) (hx : a.eval x = v)
    (hc : CellsOf v vs) (hl : vs.length = n) (hs : Swap (var g cs t) (var g cs' t) l l') (hcs : SetAt cs j vs cs')
    (h : ∀ w1, Loc w0 M w1 l' → wpList P ops Q rest (a.put o.dst undef) w1) : wpList P ops Q (o :: rest) a W := by
  obtain ⟨e1, e2⟩ := hcs.eq
  refine ev_set hgd ty p x ho hp (hL.box hs.mem) hx (cs' := cs'.toArray) (by rw [hc.eq]; simpa using hc.one) (by rw [hc.eq]; simpa [hl] using hn.size) (by rw [hc.eq]; simpa using e2) (by rw [hc.eq]; simpa using congrArg List.toArray e1) fun w1 hx1 hp1 => h w1 (hL.put hs hp1 hx1)
end

/-! ### Regions that draw their order, read, and call what only makes new memory -/
section
variable {P : Program} {o : Oper} {a : Act} {K : Act → Prop} {W w0 : World} {M : Nat → Prop} {l : List Item}
theorem quiet_loadL {ty : TypeId} {x : Operand} {n g j : Nat} {cs vs : List Value} {t : TypeId} [ha : AggT P ty] [hn : SizeT P ty n] (hL : Loc w0 M W l) (ho : o.op = .load ty x) (hx : a.eval x = .pointer (some ⟨g, j, none⟩))
    (hm : var g cs t ∈ l) (hs : Seg cs j n vs) (h : K (a.put o.dst (.agg vs.toArray))) : o.quiet P a (fun w' => ∃ e : Ext W, w' = e.w) K := by
  refine ⟨.agg vs.toArray, ?_, h⟩
  rintro _ ⟨e, rfl⟩
  obtain ⟨d, hu, hd⟩ := isRow_of ha.agg
  have hb := (hL.call e.ok).box hm
  unfold Oper.quietAt execOp
  simp only [ho, hx, Instr.loadAt, Instr.sureAddr, Sem.run_bind, Sem.run_pure, Result.andThen_ok, run_loadVar_mid e.w g j ty vs d (range_of_box hb hs) hu hd (by rw [hs.len]; exact hn.size)]
  exact ⟨rfl, rfl⟩
theorem quiet_loadAllL {ty : TypeId} {x : Operand} {n g : Nat} {cs : List Value} {t : TypeId} [ha : AggT P ty] [hn : SizeT P ty n] (hL : Loc w0 M W l) (ho : o.op = .load ty x) (hx : a.eval x = .pointer (some ⟨g, 0, none⟩))
    (hm : var g cs t ∈ l) (hs : cs.length = n) (h : K (a.put o.dst (.agg cs.toArray))) : o.quiet P a (fun w' => ∃ e : Ext W, w' = e.w) K := by
  refine ⟨.agg cs.toArray, ?_, h⟩
  rintro _ ⟨e, rfl⟩
  obtain ⟨d, hu, hd⟩ := isRow_of ha.agg
  have hr : e.w.rangeAt g 0 cs := fun k v hv => by rw [((hL.call e.ok).box hm).cell (0 + k)]; simpa using hv
  unfold Oper.quietAt execOp
  simp only [ho, hx, Instr.loadAt, Instr.sureAddr, Sem.run_bind, Sem.run_pure, Result.andThen_ok, run_loadVar_mid e.w g 0 ty cs d hr hu hd (by rw [hs]; exact hn.size)]
  exact ⟨rfl, rfl⟩
theorem quiet_load1L {ty : TypeId} {x : Operand} {g j : Nat} {cs : List Value} {v : Value} {t : TypeId} [ha : OneT P ty] (hL : Loc w0 M W l) (ho : o.op = .load ty x) (hx : a.eval x = .pointer (some ⟨g, j, none⟩))
    (hm : var g cs t ∈ l) (hv : cs[j]? = some v) (h : K (a.put o.dst v)) : o.quiet P a (fun w' => ∃ e : Ext W, w' = e.w) K := by
  refine ⟨v, ?_, h⟩
  rintro _ ⟨e, rfl⟩
  have hc : e.w.cell? ⟨g, j, none⟩ = some v := by rw [((hL.call e.ok).box hm).cell j]; simpa using hv
  unfold Oper.quietAt execOp
  simp only [ho, hx, Instr.loadAt, Instr.sureAddr, Sem.run_bind, Sem.run_pure, Result.andThen_ok, run_loadVar_cell ha e.w _ v hc]
  exact ⟨rfl, rfl⟩
end

/-! ### Results -/
section
variable {P : Program} {fn : Func} {W w0 : World} {M : Nat → Prop} {l : List Item}
theorem res_cell {p : Tmp} {ty : TypeId} {n g : Nat} {cs : List Value} {t : TypeId} [ha : AggT P ty] [hn : SizeT P ty n] (h : fn.results = #[.cell p ty]) (hL : Loc w0 M W l) (tmps : Array Value) (hp : tmps.getD p undef = .pointer (some ⟨g, 0, none⟩)) (hm : var g cs t ∈ l) (hs : cs.length = n) :
    (results fn tmps).run P W = .ok (.agg cs.toArray) W := by
  obtain ⟨d, hu, hd⟩ := isRow_of ha.agg
  exact results_cell_row h tmps W g t cs.toArray (0, 0) d hp (hL.box hm) hu (by cases d <;> simp_all [TypeDesc.isRow]) (by rw [List.size_toArray, hs]; exact hn.size)
end

/-! ### What the events' lists are, found by instances -/
class HasV (g : Nat) (l : List Item) (cs : outParam (List Value)) (t : outParam TypeId) : Prop where
  mem : var g cs t ∈ l
instance (priority := high) (g : Nat) (cs : List Value) (t : TypeId) (l : List Item) : HasV g (var g cs t :: l) cs t := ⟨.head _⟩
instance (g : Nat) (cs : List Value) (t : TypeId) (j : Item) (l : List Item) [h : HasV g l cs t] : HasV g (j :: l) cs t := ⟨.tail _ h.mem⟩
class SegC (cs : List Value) (j n : Nat) (vs : outParam (List Value)) : Prop where
  seg : Seg cs j n vs
instance (priority := high) (cs : List Value) : SegC cs 0 0 [] := ⟨.nil _⟩
instance (c : Value) (cs vs : List Value) (n : Nat) [h : SegC cs 0 n vs] : SegC (c :: cs) 0 (n + 1) (c :: vs) := ⟨.take h.seg⟩
instance (c : Value) (cs vs : List Value) (j n : Nat) [h : SegC cs j n vs] : SegC (c :: cs) (j + 1) n vs := ⟨.skip h.seg⟩
class SetC (cs : List Value) (j : Nat) (vs : List Value) (cs' : outParam (List Value)) : Prop where
  set : SetAt cs j vs cs'
instance (priority := high) (cs : List Value) : SetC cs 0 [] cs := ⟨.nil _⟩
instance (c v : Value) (cs vs cs' : List Value) [h : SetC cs 0 vs cs'] : SetC (c :: cs) 0 (v :: vs) (v :: cs') := ⟨.put h.set⟩
instance (c : Value) (cs vs cs' : List Value) (j : Nat) [h : SetC cs j vs cs'] : SetC (c :: cs) (j + 1) vs (c :: cs') := ⟨.skip h.set⟩
class StoreC (g : Nat) (l : List Item) (j : Nat) (vs : List Value) (cs cs' : outParam (List Value)) (t : outParam TypeId) (l' : outParam (List Item)) : Prop where
  swp : Swap (var g cs t) (var g cs' t) l l'
  set : SetAt cs j vs cs'
instance (priority := high) (g : Nat) (cs cs' : List Value) (t : TypeId) (l : List Item) (j : Nat) (vs : List Value) [h : SetC cs j vs cs'] : StoreC g (var g cs t :: l) j vs cs cs' t (var g cs' t :: l) := ⟨.here _, h.set⟩
instance (g : Nat) (cs cs' : List Value) (t : TypeId) (i : Item) (l l' : List Item) (j : Nat) (vs : List Value) [h : StoreC g l j vs cs cs' t l'] : StoreC g (i :: l) j vs cs cs' t (i :: l') := ⟨.there _ h.swp, h.set⟩
class SwapV (g : Nat) (l : List Item) (cs' : List Value) (cs : outParam (List Value)) (t : outParam TypeId) (l' : outParam (List Item)) : Prop where
  swp : Swap (var g cs t) (var g cs' t) l l'
instance (priority := high) (g : Nat) (cs cs' : List Value) (t : TypeId) (l : List Item) : SwapV g (var g cs t :: l) cs' cs t (var g cs' t :: l) := ⟨.here _⟩
instance (g : Nat) (cs cs' : List Value) (t : TypeId) (i : Item) (l l' : List Item) [h : SwapV g l cs' cs t l'] : SwapV g (i :: l) cs' cs t (i :: l') := ⟨.there _ h.swp⟩
class OneC (v : Value) : Prop where
  one : v.oneCell' = true
instance (k : IntKind) (n : Int) : OneC (.int k n) := ⟨rfl⟩
instance (b : Bool) : OneC (.bool b) := ⟨rfl⟩
instance (s : ByteArray) : OneC (.string s) := ⟨rfl⟩
instance (a : Option Addr) (n c : Nat) : OneC (.slice a n c) := ⟨rfl⟩
instance (a : Option Addr) : OneC (.pointer a) := ⟨rfl⟩
instance (a : Option Nat) : OneC (.map a) := ⟨rfl⟩
instance (f : Fn) (a c : Array Value) : OneC (.func f a c) := ⟨rfl⟩
instance : OneC .nilFunc := ⟨rfl⟩
class OnesC (cs : List Value) : Prop where
  one : ∀ u ∈ cs, u.oneCell' = true
instance : OnesC [] := ⟨by simp⟩
instance (c : Value) (cs : List Value) [h : OneC c] [hs : OnesC cs] : OnesC (c :: cs) := ⟨fun u hu => (List.mem_cons.1 hu).elim (fun e => e ▸ h.one) (hs.one u)⟩
class CellsC (v : Value) (cs : outParam (List Value)) : Prop where
  of : CellsOf v cs
instance (cs : List Value) [h : OnesC cs] : CellsC (.agg cs.toArray) cs := ⟨⟨rfl, h.one⟩⟩
instance (k : IntKind) (n : Int) : CellsC (.int k n) [.int k n] := ⟨cells_int _ _⟩
instance (b : Bool) : CellsC (.bool b) [.bool b] := ⟨cells_bool _⟩
instance (s : ByteArray) : CellsC (.string s) [.string s] := ⟨cells_str _⟩
instance (a : Option Addr) (n c : Nat) : CellsC (.slice a n c) [.slice a n c] := ⟨cells_slice _ _ _⟩
instance (a : Option Addr) : CellsC (.pointer a) [.pointer a] := ⟨cells_ptr _⟩
instance (a : Option Nat) : CellsC (.map a) [.map a] := ⟨cells_map _⟩
instance (f : Fn) (a c : Array Value) : CellsC (.func f a c) [.func f a c] := ⟨cells_func _ _ _⟩
instance : CellsC .nilFunc [.nilFunc] := ⟨cells_nilFunc⟩
section
variable {P : Program} {ops : Array Oper} {rest : List Oper} {o : Oper} {a : Act} {Q : Exit → Act → World → Prop} {W w0 : World} {M : Nat → Prop} {l l' : List Item}
theorem ev_storeC {ty : TypeId} {p x : Operand} {n g j : Nat} {cs cs' vs : List Value} {v : Value} {t : TypeId} [hn : SizeT P ty n] (hgd : o.guard = none) (hL : Loc w0 M W l) (ho : o.op = .store ty p x) (hp : a.eval p = .pointer (some ⟨g, j, none⟩)) (hx : a.eval x = v)
    (hc : CellsOf v vs) [hs : StoreC g l j vs cs cs' t l'] (hl : vs.length = n)
    (h : ∀ w1, Loc w0 M w1 l' → wpList P ops Q rest (a.put o.dst undef) w1) : wpList P ops Q (o :: rest) a W :=
  ev_storeL hgd hL ho hp hx hc hl hs.swp hs.set h
theorem setAt_all {cs vs : List Value} (h : vs.length = cs.length) : SetAt cs 0 vs vs := by
  induction cs generalizing vs with
  | nil => obtain rfl := List.eq_nil_of_length_eq_zero (by simpa using h); exact .nil _
  | cons c cs ih =>
    match vs, h with
    | v :: vs, h => exact .put (ih (by simpa using h))
theorem ev_storeAllC {ty : TypeId} {p x : Operand} {n g : Nat} {cs vs : List Value} {v : Value} {t : TypeId} [hn : SizeT P ty n] (hgd : o.guard = none) (hL : Loc w0 M W l) (ho : o.op = .store ty p x) (hp : a.eval p = .pointer (some ⟨g, 0, none⟩)) (hx : a.eval x = v)
    (hc : CellsOf v vs) (hl : vs.length = n) [hs : SwapV g l vs cs t l'] (hall : vs.length = cs.length)
    (h : ∀ w1, Loc w0 M w1 l' → wpList P ops Q rest (a.put o.dst undef) w1) : wpList P ops Q (o :: rest) a W :=
  ev_storeL hgd hL ho hp hx hc hl hs.swp (setAt_all hall) h
end
end Go.Proofs.YtebpacmhdkgfeaaDoor
