/- Events on rows: a literal as a row of one's own; append of a slice that reads. Over any program. -/
import Derived.Test.YtebpacmhdkgfeaaDoorLoc4
namespace Go.Proofs.YtebpacmhdkgfeaaDoor
open Go.RowKit
/-- A row that is not there yet. -/
theorem Loc.rowOff {α : Type} {w0 w : World} {M : Nat → Prop} {l : List Item} (h : Loc w0 M w l) (E : Enc α) (base : Nat) (e : TypeId) : Loc w0 M w (row E base e (.slice none 0 0) [] :: l) :=
  h.callNew (Below.refl _ _) (row_at (Enc.O.none _ _ _)) fun k hk => by cases hk
section
variable {P : Program} {ops : Array Oper} {rest : List Oper} {o : Oper} {a : Act} {Q : Exit → Act → World → Prop} {W w0 : World} {M : Nat → Prop} {l : List Item}
/-- A slice made of its parts, as a row of one's own. -/
theorem ev_litRow {α : Type} {E : Enc α} {t : TypeId} {n : Nat} {parts : Array (Nat × Operand)} {e : TypeId} {z : Value} {base : Nat} (xs : List α) [ht : SliceT P t e] [hz : ZeroT P e z] [hs : SizeT P e E.sz] (hgd : o.guard = none) (hL : Loc w0 M W l) (ho : o.op = .buildSlice t n parts)
    (hn : decide (n * E.sz ≤ 16777216) = true) (h0 : decide (0 < n * E.sz) = true) (hfill : Instr.fill (fun i => some (i * E.sz, E.sz)) ((Array.range (n * E.sz)).map fun j => z.cells[j % z.cells.size]!) (parts.map fun (i, x) => (i, a.eval x)).toList = some (E.all xs).toArray)
    (hl : xs.length = n) (hbase : base ≤ w0.heap.size)
    (h : ∀ g w1, Loc w0 M w1 (row E base e (.slice (some ⟨g, 0, none⟩) n n) xs :: l) → wpList P ops Q rest (a.put o.dst (.slice (some ⟨g, 0, none⟩) n n)) w1) : wpList P ops Q (o :: rest) a W := by
  have hm : xs.length ≤ maxLen := by
    have h1 := of_decide_eq_true hn
    have h2 := E.pos
    have h3 : n ≤ n * E.sz := Nat.le_mul_of_pos_right n h2
    rw [hl]; unfold maxLen; omega
  have hb : base ≤ W.heap.size := Nat.le_trans hbase hL.size
  refine event hgd (v := .slice (some ⟨W.heap.size, 0, none⟩) n n) (w1 := W.alloc (.cells (E.all xs).toArray e)) ?_ (h _ _ (hL.callNew (bl_alloc (Below.refl _ _) _) (row_at (by have := Enc.O.lit (E := E) (w := W) (base := base) (e := e) (E.all xs).toArray xs rfl hb hm; rw [hl] at this; exact this)) fun k hk => by
    have hk' : (Value.slice (some ⟨W.heap.size, 0, none⟩) n n).ownBlock = some k := hk
    simp [Value.ownBlock] at hk'
    omega))
  obtain ⟨i, hi, hzz⟩ := Option.map_eq_some_iff.1 hz.zero
  have hsz : i.size = E.sz := by have := hs.size; simpa [hi] using this
  have h1 : ¬ n * E.sz > 2 ^ 24 := by have := of_decide_eq_true hn; omega
  have h2 : ¬ n * E.sz = 0 := by have := of_decide_eq_true h0; omega
  simp at hfill
  simp [execOp, ho, Instr.buildSlice, run_underlying ht.slice, sizeOf, typeInfo, hi, hsz, zeroValue, hzz, h1, h2, hfill, newRow]
/-- The empty literal. -/
theorem ev_lit0 {α : Type} (E : Enc α) {t e : TypeId} {z : Value} (base : Nat) [ht : SliceT P t e] [hz : ZeroT P e z] [hs : SizeT P e E.sz] (hgd : o.guard = none) (hL : Loc w0 M W l) (ho : o.op = .buildSlice t 0 #[]) (hbase : base ≤ w0.heap.size)
    (h : ∀ g w1, Loc w0 M w1 (row E base e (.slice (some ⟨g, 0, none⟩) 0 0) [] :: l) → wpList P ops Q rest (a.put o.dst (.slice (some ⟨g, 0, none⟩) 0 0)) w1) : wpList P ops Q (o :: rest) a W := by
  have hb : base ≤ W.heap.size := Nat.le_trans hbase hL.size
  refine event hgd (v := .slice (some ⟨W.heap.size, 0, none⟩) 0 0) (w1 := W.alloc (.cells #[] e)) ?_ (h _ _ (hL.callNew (bl_alloc (Below.refl _ _) _) (row_at (Enc.O.lit (E := E) (w := W) (base := base) (e := e) #[] [] rfl hb (by simp [maxLen]))) fun k hk => by
    have hk' : (Value.slice (some ⟨W.heap.size, 0, none⟩) 0 0).ownBlock = some k := hk
    simp [Value.ownBlock] at hk'
    omega))
  obtain ⟨i, hi, hzz⟩ := Option.map_eq_some_iff.1 hz.zero
  have hsz : i.size = E.sz := by have := hs.size; simpa [hi] using this
  simp [execOp, ho, Instr.buildSlice, run_underlying ht.slice, sizeOf, typeInfo, hi, hsz, zeroValue, hzz, Instr.fill, newRow]
  congr 2
  exact Array.eq_empty_of_size_eq_zero (by simp)
/-- append of what a slice reads as onto a row of one's own. -/
theorem ev_appL {α : Type} {E : Enc α} {s x : Operand} {t e : TypeId} {z : Value} {by_ : Nat} {base : Nat} {v xv : Value} {xs : List α} {f : Value → List Item} [ht : SliceT P t e] [hz : ZeroT P e z] [hsz : SizeT P e E.sz] [hb : BytesT P e by_]
    (ys : List α) (hgd : o.guard = none) (hL : Loc w0 M W l) (ho : o.op = .call { callee := .builtin .append, args := #[s, x], argTypes := #[t, t] }) (hs : a.eval s = v) (hx : a.eval x = xv)
    (hR : E.R W xv ys) (hsw : ∀ v', Swap (row E base e v xs) (row E base e v' (xs ++ ys)) l (f v')) (hzc : z.cells.size = E.sz) (hby : decide (by_ ≤ 1000) = true) (h63 : xs.length + ys.length ≤ 100000000000) (hbase : base ≤ W.heap.size)
    (h : ∀ v' w1, Loc w0 M w1 (f v') → wpList P ops Q rest (a.put o.dst v') w1) : wpList P ops Q (o :: rest) a W := by
  have hown : E.O W base e v xs := hL.own (hsw v).mem
  refine Enc.app (E := E) hgd s x t t ho z by_ ht.slice info_of hzc hs hown hx (hR.src ht.slice) h63 (of_decide_eq_true hby) hbase ?_
  intro v' w1 h1 h2 h3
  exact h v' w1 (hL.grow (hsw _) h2 h1 (h3.imp id fun h => ⟨_, h, Nat.le_refl _⟩))
end
end Go.Proofs.YtebpacmhdkgfeaaDoor
