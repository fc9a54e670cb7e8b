/- Events on rows: a store of an element; '[]byte(s)' as bytes that may be written. Over any program. -/
import Derived.Test.YtebpacmhdkgfeaaDoorLoc5
import Derived.Test.YtebpacmhdkgfeaaDoorEvG
namespace Go.Proofs.YtebpacmhdkgfeaaDoor
open Go.RowKit

theorem bytesWorld_frozen (w : World) (e : TypeId) (s : ByteArray) (j : Nat) (hj : j < s.size) : (Lib.bytesWorld w e s).frozen? ⟨w.heap.size, j, none⟩ = false := by
  have hs : s.data.size = s.size := rfl
  have h : ¬ (Lib.bytesCells w e s).size ≤ j := by
    simp [Lib.bytesCells]
    omega
  simp [World.frozen?, Lib.bytesWorld_at_new, h]
/-- '[]byte(s)', named, its bytes free to be written. -/
theorem ev_s2bF {P : Program} {ops : Array Oper} {rest : List Oper} {o : Oper} {a : Act} {Q : Exit → Act → World → Prop} {W : World} {src dst e : TypeId} {x : Operand} {s : ByteArray} [hd : SliceT P dst e] (hgd : o.guard = none) (ho : o.op = .convert src dst x) (hx : a.eval x = .string s)
    (hs : P.underlying src = some .string) (he : P.underlying e = some (.int .u8))
    (h : ∀ g c w1, Below W.heap.size W w1 → W.heap.size ≤ g → s.size ≤ c → (∀ j, j < s.size → w1.cell? ⟨g, j, none⟩ = some (.int .u8 (s.data.toList.getD j 0).toNat)) → (∀ j, j < s.size → w1.frozen? ⟨g, j, none⟩ = false) →
      wpList P ops Q rest (a.put o.dst (.slice (some ⟨g, 0, none⟩) s.size c)) w1) : wpList P ops Q (o :: rest) a W := by
  refine event hgd (v := .slice (some ⟨W.heap.size, 0, none⟩) s.size (grownCap W s.size 0 e)) (w1 := Lib.bytesWorld W e s) ?_ (h _ _ _ ⟨rfl, rfl, rfl, ?_, fun k hk => Lib.bytesWorld_at_old W e s k hk⟩ (Nat.le_refl _) (grownCap_ge W s.size 0 e) (fun j hj => Lib.bytesWorld_cell W e s j hj) (fun j hj => bytesWorld_frozen W e s j hj))
  · simp only [execOp, ho, hx, Sem.run_bind, Lib.run_convert_string_bytes W src dst e s hs hd.slice he, Result.andThen_ok, Sem.run_pure]
  · rw [Lib.bytesWorld_size]; omega
/-- Bytes by their cells. -/
theorem read_cells {w : World} {g c : Nat} (l : List UInt8) (hc : l.length ≤ c) (hm : l.length ≤ 9223372036854775807) (h : ∀ j, j < l.length → w.cell? ⟨g, j, none⟩ = some (.int .u8 (l.getD j 0).toNat)) : encB.R w (.slice (some ⟨g, 0, none⟩) l.length c) l := by
  refine ⟨by rw [Enc.all_length], _, c, rfl, hc, hm, .inr ⟨_, rfl, fun j u hu => ?_⟩⟩
  rw [encB_all] at hu
  have hj : j < l.length := by have := (List.getElem?_eq_some_iff.1 hu).1; simpa using this
  have e1 : (⟨g, 0, none⟩ : Addr).add j = ⟨g, j, none⟩ := by unfold Addr.add; split <;> simp_all
  rw [e1, h j hj]
  rw [List.getElem?_map, List.getElem?_eq_getElem hj] at hu
  simp only [Option.map_some, Option.some.injEq] at hu
  rw [← hu]
  simp [List.getD_eq_getElem?_getD, List.getElem?_eq_getElem hj]

/-! ### A store of an element of a row of one's own -/
theorem Enc.all_set {α : Type} (E : Enc α) (xs : List α) (i : Nat) (hi : i < xs.length) (y : α) : E.all (xs.set i y) = (E.all xs).take (i * E.sz) ++ E.cells y ++ (E.all xs).drop (i * E.sz + E.sz) := by
  induction xs generalizing i with
  | nil => simp at hi
  | cons x xs ih =>
    have h : E.all (x :: xs) = E.cells x ++ E.all xs := by simp [Enc.all]
    cases i with
    | zero =>
      have h2 : E.all ((x :: xs).set 0 y) = E.cells y ++ E.all xs := by simp [Enc.all]
      rw [h2, h]
      simp [List.drop_append, E.len]
    | succ i =>
      have h2 : E.all ((x :: xs).set (i + 1) y) = E.cells x ++ E.all (xs.set i y) := by simp [Enc.all]
      have e1 : (i + 1) * E.sz = E.sz + i * E.sz := by rw [Nat.add_mul]; omega
      rw [h2, h, ih i (by simpa using hi), e1, List.take_append, List.drop_append]
      rw [List.take_of_length_le (l := E.cells x) (by rw [E.len]; omega), E.len, List.drop_of_length_le (l := E.cells x) (by rw [E.len]; omega)]
      simp only [List.append_assoc, List.nil_append]
      rw [Nat.add_sub_cancel_left, show E.sz + i * E.sz + E.sz - E.sz = i * E.sz + E.sz from by omega]
section
variable {P : Program} {ops : Array Oper} {rest : List Oper} {o : Oper} {a : Act} {Q : Exit → Act → World → Prop} {W w0 : World} {M : Nat → Prop} {l l' : List Item}
theorem O_set {α : Type} {E : Enc α} {w : World} {base g n c : Nat} {e : TypeId} {xs : List α} (h : E.O w base e (.slice (some ⟨g, 0, none⟩) n c) xs) (i : Nat) (hi : i < xs.length) (y : α) :
    ∃ w1, (storeCells ⟨g, i * E.sz, none⟩ (E.cells y) 0).run P w = .ok () w1 ∧ E.O w1 base e (.slice (some ⟨g, 0, none⟩) n c) (xs.set i y) ∧ Mod (· = g) w w1 := by
  obtain ⟨hl, h2⟩ := h
  rcases h2 with ⟨hn, _⟩ | ⟨g', cap, cur, hv, hb, hg, hnc, hcm, hcs, htake⟩
  · cases hn
  · injection hv with hv1 hv2 hv3
    injection hv1 with hv1
    injection hv1 with hv1
    subst hv1 hv2 hv3
    have hsz : i * E.sz + E.sz ≤ xs.length * E.sz := by
      have : (i + 1) * E.sz ≤ xs.length * E.sz := Nat.mul_le_mul_right _ hi
      rw [Nat.add_mul] at this; omega
    have hcap : xs.length * E.sz ≤ c * E.sz := Nat.mul_le_mul_right _ hnc
    have hst := run_storeCells_at P g (i * E.sz) e (E.cells y) 0 cur w hg (by rw [E.len, hcs]; omega) (E.one y)
    simp only [Nat.add_zero, E.len] at hst
    refine ⟨_, hst, ⟨E.all_length _, .inr ⟨g, c, _, by rw [List.length_set], hb, setRow_heap w g cur _ e _ hg, by rw [List.length_set]; exact hnc, hcm, ?_, ?_⟩⟩, ⟨rfl, rfl, rfl, by simp, fun k _ hk => setRow_other w g k _ hk⟩⟩
    · simp only [List.size_toArray, List.length_append, List.length_take, List.length_drop, Array.length_toList, E.len, hcs]
      omega
    · rw [List.length_set, E.all_set xs i hi y, ← htake, List.take_take, Nat.min_eq_left (by omega)]
      have hlen : cur.toList.length = c * E.sz := by rw [Array.length_toList, hcs]
      rw [List.append_assoc, List.append_assoc, List.take_append, List.take_append, List.length_take, hlen, Nat.min_eq_left (a := i * E.sz) (b := c * E.sz) (by omega), E.len,
        List.take_of_length_le (l := cur.toList.take (i * E.sz)) (by rw [List.length_take]; omega), List.take_of_length_le (l := E.cells y) (by rw [E.len]; omega), List.drop_take]
      rw [show xs.length * E.sz - i * E.sz - E.sz = xs.length * E.sz - (i * E.sz + E.sz) from by omega]
theorem ev_setRow {α : Type} {E : Enc α} {ty e : TypeId} {p x : Operand} {g base n c off : Nat} {xs : List α} {v : Value} [hn : SizeT P ty E.sz] (i : Nat) (y : α) (hgd : o.guard = none) (hL : Loc w0 M W l) (ho : o.op = .store ty p x)
    (hp : a.eval p = .pointer (some ⟨g, off, none⟩)) (hoff : off = i * E.sz) (hx : a.eval x = v) (hc : CellsOf v (E.cells y)) (hi : i < xs.length)
    (hs : Swap (row E base e (.slice (some ⟨g, 0, none⟩) n c) xs) (row E base e (.slice (some ⟨g, 0, none⟩) n c) (xs.set i y)) l l')
    (h : ∀ w1, Loc w0 M w1 l' → wpList P ops Q rest (a.put o.dst undef) w1) : wpList P ops Q (o :: rest) a W := by
  subst hoff
  obtain ⟨w1, hst, hO, hm⟩ := O_set (P := P) (hL.own hs.mem) i hi y
  refine wpList_plain hgd fun K hK => ?_
  obtain ⟨inf, hii, hsz⟩ := Option.map_eq_some_iff.1 hn.size
  have hst2 : (storeVar ty ⟨g, i * E.sz, none⟩ v).run P W = .ok () w1 := by
    simp [storeVar, sizeOf, typeInfo, hii, hsz, hc.eq, E.len, hst]
  unfold Oper.wp execOp
  simp only [ho, hp, hx, Instr.storeAt, Instr.sureAddr, Sem.run_bind, Sem.run_pure, Result.andThen_ok, hst2]
  refine hK _ _ (h _ (hL.swap hs (hm.mono fun k _ hk => ?_) (row_at hO) fun _ hk => .inl hk))
  show (Value.slice (some ⟨g, 0, none⟩) n c).ownBlock = some k
  rw [hk]; rfl
end
theorem Loc.gone {w0 w w1 : World} {M : Nat → Prop} {l : List Item} {g : Nat} {cs : List Value} {t : TypeId} (h : Loc w0 M w (var g cs t :: l)) (hp : Put w w1 g) : Loc w0 M w1 l := by
  have hg := h.new (var g cs t) (.head _) g rfl
  have ha := (List.pairwise_cons.1 h.apart).1
  refine ⟨h.mod.trans (Mod.of_put hp) fun b hb hk => ?_, fun i hi => (h.at_ i (.tail _ hi)).keep hp.size fun k hk => hp.block k ((h.at_ i (.tail _ hi)).lt k hk) fun e => ha i hi g rfl (e ▸ hk), fun i hi => h.new i (.tail _ hi), (List.pairwise_cons.1 h.apart).2⟩
  cases hk
  rcases hg with h1 | h1
  · omega
  · exact h1
theorem Loc.turn {w0 w w1 : World} {M : Nat → Prop} {l : List Item} {g : Nat} {cs cs' : List Value} {t : TypeId} (h : Loc w0 M w (var g cs t :: l)) (hp : Put w w1 g) (hx : Box w1 g cs'.toArray t) : Loc w0 M w1 (var g cs' t :: l) := h.put (.here _) hp hx
end Go.Proofs.YtebpacmhdkgfeaaDoor
