/- Events on rows: a literal slice, append, an element's address, a load of an element. Over any program. -/
import Derived.Test.YtebpacmhdkgfeaaDoorLoc
namespace Go.Proofs.YtebpacmhdkgfeaaDoor
open Go.RowKit

class BytesT (P : Program) (ty : TypeId) (n : outParam Nat) : Prop where
  bytes : (P.info? ty).map (·.bytes) = some n
theorem info_of {P : Program} {e : TypeId} {z : Value} {sz by_ : Nat} [hz : ZeroT P e z] [hs : SizeT P e sz] [hb : BytesT P e by_] : (P.info? e).map (fun i => (i.zero, i.size, i.bytes)) = some (some z, sz, by_) := by
  obtain ⟨i, hi, h1⟩ := Option.map_eq_some_iff.1 hz.zero
  have h2 := hs.size
  have h3 := hb.bytes
  simp only [hi, Option.map_some, Option.some.injEq] at h2 h3 ⊢
  rw [h1, h2, h3]
theorem SetAt.all {cs vs : List Value} (h : vs.length = cs.length) : SetAt cs 0 vs vs := by
  induction vs generalizing cs with
  | nil => cases cs with
    | nil => exact .nil _
    | cons c cs => simp at h
  | cons v vs ih => cases cs with
    | nil => simp at h
    | cons c cs => exact .put (ih (by simpa using h))
theorem Seg.of {cs vs : List Value} {j n : Nat} (h : (cs.drop j).take n = vs) (hl : j + n ≤ cs.length) : Seg cs j n vs := by
  subst h
  induction j generalizing cs with
  | zero =>
    induction n generalizing cs with
    | zero => exact .nil _
    | succ n ih => cases cs with
      | nil => simp at hl
      | cons c cs => exact .take (ih (by simp at hl ⊢; omega))
  | succ j ih => cases cs with
    | nil => simp at hl
    | cons c cs => exact .skip (ih (by simp at hl; omega))
theorem range_below {w w1 : World} {g off : Nat} {cs : List Value} (h : w.rangeAt g off cs) (hb : Below w.heap.size w w1) : w1.rangeAt g off cs := fun j v hj => by
  have h1 := h j v hj
  exact (hb.cell (World.block_lt_of_cell? w _ h1)).trans h1
/-- An element of a slice that reads as xs. -/
theorem R_elem {α : Type} {E : Enc α} {w : World} {v : Value} {xs : List α} (h : E.R w v xs) : ∃ ao c, v = .slice ao xs.length c ∧ ∀ i, (hi : i < xs.length) → ∃ g off, ao = some ⟨g, off, none⟩ ∧ w.rangeAt g (off + i * E.sz) (E.cells xs[i]) := by
  obtain ⟨ao, c, rfl, hc, hm, hi⟩ := h.open_
  refine ⟨ao, c, rfl, fun i hl => ?_⟩
  obtain ⟨⟨g, off, spot⟩, rfl, hcell⟩ := hi i hl
  obtain ⟨ad0, e0, h0⟩ := hi 0 (by omega)
  injection e0 with e0
  subst e0
  have h00 := h0 0 E.pos
  have hsp : spot = none := by
    have hl0 : 0 < (E.cells xs[0]).length := by rw [E.len]; exact E.pos
    have h1 : w.cell? ((⟨g, off, spot⟩ : Addr).add (0 * E.sz + 0)) = some ((E.cells xs[0])[0]) := by rw [h00, List.getElem?_eq_getElem hl0]
    simpa [Addr.add] using World.cell?_spot h1
  subst hsp
  refine ⟨g, off, rfl, fun j u hj => ?_⟩
  have hj' : j < E.sz := by have := (List.getElem?_eq_some_iff.1 hj).1; rwa [E.len] at this
  have h1 := hcell j hj'
  have e : (⟨g, off, none⟩ : Addr).add (i * E.sz + j) = ⟨g, off + i * E.sz + j, none⟩ := by
    unfold Addr.add; split <;> simp <;> omega
  rw [e] at h1
  exact h1.trans hj
theorem R_max {α : Type} {E : Enc α} {w : World} {v : Value} {xs : List α} (h : E.R w v xs) : xs.length ≤ 9223372036854775807 := by
  obtain ⟨_, _, _, _, _, hm, _⟩ := h
  exact hm

section
variable {P : Program} {ops : Array Oper} {rest : List Oper} {o : Oper} {a : Act} {Q : Exit → Act → World → Prop} {W w0 : World} {M : Nat → Prop} {l l' : List Item}
theorem gIndex {t : TypeId} {x y : Operand} (_hg : o.guard = none) (_ho : o.op = .indexAddr t x y) (h : wpList P ops Q (o :: rest) a W) : wpList P ops Q (o :: rest) a W := h
theorem gLit {t : TypeId} {n : Nat} {ps : Array (Nat × Operand)} (_hg : o.guard = none) (_ho : o.op = .buildSlice t n ps) (h : wpList P ops Q (o :: rest) a W) : wpList P ops Q (o :: rest) a W := h
theorem run_index {t : TypeId} {x ix : Operand} {g off n c i sz : Nat} {k : IntKind} {e : TypeId} [ht : SliceT P t e] [hsz : SizeT P e sz] (ho : o.op = .indexAddr t x ix) (hx : a.eval x = .slice (some ⟨g, off, none⟩) n c) (hix : a.eval ix = .int k i) (hi : i < n) (w : World) :
    (execOp a.eval o).run P w = .ok (.value (.pointer (some ⟨g, off + i * sz, none⟩))) w := by
  have he : P.elem t = e := by simp [Program.elem, ht.slice]
  obtain ⟨inf, hinf, hs⟩ := Option.map_eq_some_iff.1 hsz.size
  have h1 : (0 : Int) ≤ (i : Int) ∧ (i : Int) < (n : Int) := by omega
  have ha : (⟨g, off, none⟩ : Addr).add (i * sz) = ⟨g, off + i * sz, none⟩ := Addr.add_mid g off _
  simp only [execOp, ho, hx, hix, Sem.run_bind]
  rw [run_indexAt_slice (h := by rw [he]; exact ht.slice), if_pos h1, he]
  simp [sizeOf, typeInfo, hinf, hs, ha]
theorem ev_indexL {t : TypeId} {x ix : Operand} {g off n c i sz : Nat} {k : IntKind} {e : TypeId} [ht : SliceT P t e] [hsz : SizeT P e sz] (hgd : o.guard = none) (ho : o.op = .indexAddr t x ix) (hx : a.eval x = .slice (some ⟨g, off, none⟩) n c) (hix : a.eval ix = .int k i) (hi : i < n)
    (h : wpList P ops Q rest (a.put o.dst (.pointer (some ⟨g, off + i * sz, none⟩))) W) : wpList P ops Q (o :: rest) a W :=
  event hgd (run_index (sz := sz) ho hx hix hi W) h
/-- A load of a range of argument memory. -/
theorem ev_loadR {ty : TypeId} {x : Operand} {n g off : Nat} {cs : List Value} [ha : AggT P ty] [hn : SizeT P ty n] (hgd : o.guard = none) (ho : o.op = .load ty x) (hx : a.eval x = .pointer (some ⟨g, off, none⟩))
    (hr : W.rangeAt g off cs) (hs : cs.length = n) (h : wpList P ops Q rest (a.put o.dst (.agg cs.toArray)) W) : wpList P ops Q (o :: rest) a W := by
  obtain ⟨d, hu, hd⟩ := isRow_of ha.agg
  refine event hgd (v := .agg cs.toArray) (w1 := W) ?_ h
  unfold execOp
  simp only [ho, hx, Instr.loadAt, Instr.sureAddr, Sem.run_bind, Sem.run_pure, Result.andThen_ok, run_loadVar_mid W g off ty cs d hr hu hd (by rw [hs]; exact hn.size)]
theorem ev_loadR1 {ty : TypeId} {x : Operand} {g off : Nat} {v : Value} [ha : OneT P ty] (hgd : o.guard = none) (ho : o.op = .load ty x) (hx : a.eval x = .pointer (some ⟨g, off, none⟩))
    (hr : W.rangeAt g off [v]) (h : wpList P ops Q rest (a.put o.dst v) W) : wpList P ops Q (o :: rest) a W := by
  have hc : W.cell? ⟨g, off, none⟩ = some v := by simpa using hr 0 v rfl
  refine event hgd (v := v) (w1 := W) ?_ h
  unfold execOp
  simp only [ho, hx, Instr.loadAt, Instr.sureAddr, Sem.run_bind, Sem.run_pure, Result.andThen_ok, run_loadVar_cell ha W _ v hc]
/-- A slice made of its parts. -/
theorem ev_litL {t : TypeId} {n : Nat} {parts : Array (Nat × Operand)} {e : TypeId} {sz : Nat} {z : Value} {cs : List Value} [ht : SliceT P t e] [hz : ZeroT P e z] [hs : SizeT P e sz] (hgd : o.guard = none) (hL : Loc w0 M W l) (ho : o.op = .buildSlice t n parts)
    (hn : decide (n * sz ≤ 16777216) = true) (h0 : decide (0 < n * sz) = true) (hfill : Instr.fill (fun i => some (i * sz, sz)) ((Array.range (n * sz)).map fun j => z.cells[j % z.cells.size]!) (parts.map fun (i, x) => (i, a.eval x)).toList = some cs.toArray)
    (h : ∀ g w1, Loc w0 M w1 (var g cs e :: l) → wpList P ops Q rest (a.put o.dst (.slice (some ⟨g, 0, none⟩) n n)) w1) : wpList P ops Q (o :: rest) a W := by
  refine event hgd (v := .slice (some ⟨W.heap.size, 0, none⟩) n n) (w1 := W.alloc (.cells cs.toArray e)) ?_ (h _ _ (hL.callVar (bl_alloc (Below.refl _ _) _) (Box.new W _ e) (Nat.le_refl _)))
  obtain ⟨i, hi, hzz⟩ := Option.map_eq_some_iff.1 hz.zero
  have hsz : i.size = sz := by have := hs.size; simpa [hi] using this
  have h1 : ¬ n * sz > 2 ^ 24 := by have := of_decide_eq_true hn; omega
  have h2 : ¬ n * sz = 0 := by have := of_decide_eq_true h0; omega
  simp at hfill
  simp [execOp, ho, Instr.buildSlice, run_underlying ht.slice, sizeOf, typeInfo, hi, hsz, zeroValue, hzz, h1, h2, hfill, newRow]
/-- append of one element, that a literal holds, onto a row of one's own. -/
theorem ev_app1L {α : Type} {E : Enc α} {s x : Operand} {t e e2 : TypeId} {z : Value} {by_ : Nat} {base g c : Nat} {v : Value} {xs : List α} {cs : List Value} {f : Value → List Item} [ht : SliceT P t e] [hz : ZeroT P e z] [hsz : SizeT P e E.sz] [hb : BytesT P e by_]
    (y : α) (hgd : o.guard = none) (hL : Loc w0 M W l) (ho : o.op = .call { callee := .builtin .append, args := #[s, x], argTypes := #[t, t] }) (hs : a.eval s = v) (hx : a.eval x = .slice (some ⟨g, 0, none⟩) 1 c)
    (hm : var g cs e2 ∈ l) (hsw : ∀ v', Swap (row E base e v xs) (row E base e v' (xs ++ [y])) l (f v')) (hy : cs = E.cells y) (hzc : z.cells.size = E.sz) (hby : decide (by_ ≤ 1000) = true) (h63 : xs.length < 100000000000) (hbase : base ≤ W.heap.size)
    (h : ∀ ao c' w1, Loc w0 M w1 (f (.slice ao (xs.length + 1) c')) → wpList P ops Q rest (a.put o.dst (.slice ao (xs.length + 1) c')) w1) : wpList P ops Q (o :: rest) a W := by
  have hown : E.O W base e v xs := hL.own (hsw v).mem
  have hbx := hL.box hm
  subst hy
  have hR : E.R W (.slice (some ⟨g, 0, none⟩) 1 1) [y] := by
    refine ⟨by rw [Enc.all_length], some ⟨g, 0, none⟩, 1, rfl, Nat.le_refl _, by simp, .inr ⟨_, rfl, fun j u hj => ?_⟩⟩
    have ha : (⟨g, 0, none⟩ : Addr).add j = ⟨g, j, none⟩ := by unfold Addr.add; split <;> simp_all
    rw [ha, hbx.cell j]
    rw [Enc.all_one_elem] at hj
    simpa using hj
  have hsrc : Src P E.sz t (.slice (some ⟨g, 0, none⟩) 1 c) [y].length (E.all [y]) W := Src.ofSlice W ht.slice ⟨g, 0, none⟩ 1 c (E.all [y]) (by rw [Enc.all_length]; rfl) (fun j u hj => by
    have ha : (⟨g, 0, none⟩ : Addr).add j = ⟨g, j, none⟩ := by unfold Addr.add; split <;> simp_all
    rw [ha, hbx.cell j]
    rw [Enc.all_one_elem] at hj
    simpa using hj) (E.all_one [y])
  refine Enc.app (E := E) hgd s x t t ho z by_ ht.slice info_of hzc hs hown hx hsrc (by simp; omega) (of_decide_eq_true hby) hbase ?_
  intro v' w1 h1 h2 h3
  obtain ⟨ao, c', e1, -⟩ := R_elem h1.read
  rw [List.length_append, List.length_singleton] at e1
  subst e1
  exact h ao c' w1 (hL.grow (hsw _) h2 h1 (h3.imp id fun h => ⟨_, h, Nat.le_refl _⟩))
end
section
variable {P : Program} {o : Oper} {a : Act} {K : Act → Prop} {W : World} {C : World → Prop}
theorem quiet_index {t : TypeId} {x ix : Operand} {g off n c i sz : Nat} {k : IntKind} {e : TypeId} [ht : SliceT P t e] [hsz : SizeT P e sz] (ho : o.op = .indexAddr t x ix) (hx : a.eval x = .slice (some ⟨g, off, none⟩) n c) (hix : a.eval ix = .int k i) (hi : i < n)
    (h : K (a.put o.dst (.pointer (some ⟨g, off + i * sz, none⟩)))) : o.quiet P a C K := by
  refine ⟨_, fun w hw => ?_, h⟩
  unfold Oper.quietAt
  rw [run_index (sz := sz) ho hx hix hi w]
  exact ⟨rfl, rfl⟩
theorem quiet_loadR {ty : TypeId} {x : Operand} {n g off : Nat} {cs : List Value} [ha : AggT P ty] [hn : SizeT P ty n] (ho : o.op = .load ty x) (hx : a.eval x = .pointer (some ⟨g, off, none⟩))
    (hr : W.rangeAt g off cs) (hs : cs.length = n) (h : K (a.put o.dst (.agg cs.toArray))) : o.quiet P a (fun w' => ∃ e : Ext W, w' = e.w) K := by
  refine ⟨.agg cs.toArray, ?_, h⟩
  rintro _ ⟨e, rfl⟩
  obtain ⟨d, hu, hd⟩ := isRow_of ha.agg
  unfold Oper.quietAt execOp
  simp only [ho, hx, Instr.loadAt, Instr.sureAddr, Sem.run_bind, Sem.run_pure, Result.andThen_ok, run_loadVar_mid e.w g off ty cs d (range_below hr e.ok) hu hd (by rw [hs]; exact hn.size)]
  exact ⟨rfl, rfl⟩
end
end Go.Proofs.YtebpacmhdkgfeaaDoor
