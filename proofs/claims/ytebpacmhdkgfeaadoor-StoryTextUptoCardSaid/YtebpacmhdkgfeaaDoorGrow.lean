/- append of zeros onto the nil slice (slices.Grow): room for a row of one's own. What a variable holds, as a slice that reads. Over any program. -/
import Derived.Test.YtebpacmhdkgfeaaDoorLoc6
import Derived.Lib.AppendZerosOnto
namespace Go.Proofs.YtebpacmhdkgfeaaDoor
open Go.RowKit

section
variable {P : Program} {ops : Array Oper} {rest : List Oper} {o : Oper} {a : Act} {Q : Exit → Act → World → Prop} {W w0 : World} {M : Nat → Prop} {l : List Item}
theorem ev_growNil {α : Type} (E : Enc α) {s x : Operand} {t tn e : TypeId} {z : Value} {by_ n : Nat} {k kn : IntKind} (base : Nat) [ht : SliceT P t e] [hz : ZeroT P e z] [hsz : SizeT P e E.sz] [hb : BytesT P e by_]
    (hgd : o.guard = none) (hL : Loc w0 M W l) (ho : o.op = .call { callee := .builtin .append, args := #[s, x], argTypes := #[t, tn] }) (hs : a.eval s = .slice none 0 0) (hx : a.eval x = .int k (n : Int)) (htn : P.underlying tn = some (.int kn))
    (hzc : z.cells.size = E.sz) (hby : decide (by_ ≤ 1000) = true) (h0 : 0 < n) (hn : n ≤ 100000000000) (hbase : base ≤ w0.heap.size)
    (h : ∀ g G w1, n ≤ G → G ≤ 9223372036854775807 → Loc w0 M w1 (row E base e (.slice (some ⟨g, 0, none⟩) 0 G) [] :: l) → wpList P ops Q rest (a.put o.dst (.slice (some ⟨g, 0, none⟩) n G)) w1) : wpList P ops Q (o :: rest) a W := by
  obtain ⟨i, hi, hzz⟩ := Option.map_eq_some_iff.1 hz.zero
  have his : i.size = E.sz := by have := hsz.size; simpa [hi] using this
  have hib : i.bytes = by_ := by have := hb.bytes; simpa [hi] using this
  have hb1 := of_decide_eq_true hby
  have hp := E.pos
  have hbig : n * i.bytes ≤ 140737488355328 := by
    rw [hib]
    calc n * by_ ≤ 100000000000 * 1000 := Nat.mul_le_mul hn hb1
      _ ≤ 140737488355328 := by decide
  have hr := Lib.run_append_grow_zeros W t tn o.type e i z k kn ht.slice htn hi hzz none 0 0 [] (run_firstCells_none W.drew i.size 0 0 0) n h0 (by rw [his]; exact hp) (by omega) (by omega) (by omega) (growslice_fits (by omega) (by rw [Nat.zero_add]; exact hbig))
  rw [Nat.zero_add] at hr
  have hG := grownCap_ge W n 0 e
  have hG63 := grownCap_le_maxLen W n 0 e (by unfold maxLen; omega)
  generalize grownCap W n 0 e = G at *
  unfold maxLen at hG63
  have hbb : base ≤ W.heap.size := Nat.le_trans hbase hL.size
  refine event hgd (v := .slice (some ⟨W.heap.size, 0, none⟩) n G) ?_ (h W.heap.size G _ hG (by omega) (hL.callNew (w1 := W.drew.alloc (.cells (#[] ++ Builtin.zeroCells z.cells n ++ Builtin.zeroCells z.cells (G - n)) e)) (bl_alloc (show Below W.heap.size W W.drew from ⟨rfl, rfl, rfl, Nat.le_refl _, fun _ _ => rfl⟩) _) (row_at ⟨by simp [Enc.all], .inr ⟨W.heap.size, G, #[] ++ Builtin.zeroCells z.cells n ++ Builtin.zeroCells z.cells (G - n), rfl, hbb, ?_, by simp, by unfold maxLen; omega, ?_, by simp [Enc.all]⟩⟩) fun k hk => ?_))
  · simp only [execOp, ho, resolve, invoke, builtin, Sem.run_bind, Sem.run_pure, Result.andThen_ok, List.map_toArray, List.map_cons, List.map_nil, hs, hx, hr]
  · exact heap_alloc_new W.drew _
  · simp only [Array.empty_append, Array.size_append, Builtin.zeroCells, Array.size_map, Array.size_range, hzc, ← Nat.add_mul]
    congr 1
    omega
  · have hk' : (Value.slice (some ⟨W.heap.size, 0, none⟩) 0 G).ownBlock = some k := hk
    simp [Value.ownBlock] at hk'
    omega
end
/-- A call that hands back a row of its own. -/
theorem Loc.takeRow {α : Type} {E : Enc α} {w0 w w1 : World} {M : Nat → Prop} {l : List Item} {e : TypeId} {v : Value} {xs : List α} (h : Loc w0 M w l) (h3 : Loc w NoM w1 [row E w.heap.size e v xs]) : Loc w0 M w1 (row E w0.heap.size e v xs :: l) :=
  h.callNew h3.below (row_at ((h3.own (.head _)).weaken h.size)) fun k hk => (h3.new _ (.head _) k hk).elim id fun h => h.elim
/-- What a variable holds whole, as a slice of so many. -/
theorem R_box {α : Type} {E : Enc α} {w : World} {g : Nat} {cs : List Value} {t : TypeId} (xs : List α) (h : Box w g cs.toArray t) (hc : cs = E.all xs) (hm : xs.length ≤ 9223372036854775807) : E.R w (.slice (some ⟨g, 0, none⟩) xs.length xs.length) xs := by
  subst hc
  refine ⟨by rw [Enc.all_length], some ⟨g, 0, none⟩, xs.length, rfl, Nat.le_refl _, hm, .inr ⟨_, rfl, fun j u hj => ?_⟩⟩
  have ha : (⟨g, 0, none⟩ : Addr).add j = ⟨g, j, none⟩ := by unfold Addr.add; split <;> simp_all
  rw [ha, h.cell j]
  simpa using hj
/-- A slice's three parts. -/
structure Sl where
  a : Option Addr
  (n c : Nat)
def Sl.val (s : Sl) : Value := .slice s.a s.n s.c
def encSl : Enc Sl := ⟨1, by decide, fun s => [.slice s.a s.n s.c], fun _ => rfl, fun _ u hu => by rw [List.mem_singleton.1 hu]; rfl⟩
end Go.Proofs.YtebpacmhdkgfeaaDoor
