/- The law's own functions over a net: same, does. -/
import Derived.Test.YtbkffeabikjnhaaNet8
import Derived.Deep.MidRow
namespace Go.Proofs.Ytbkffeabikjnhaa
open Go.RowKit

structure Dod where
  (op k : Int)
  m : Msg
abbrev Dod.arr (d : Dod) : Array Value := #[.int .i64 d.op, .int .i64 d.k, .int .i64 d.m.kind, .int .i64 d.m.src, .int .i64 d.m.dst, .int .i64 d.m.vol, .int .i64 d.m.base.boot, .int .i64 d.m.base.n, .int .i64 d.m.mark.boot, .int .i64 d.m.mark.n, .int .i64 d.m.index, .int .i64 d.m.total,
  .int .i64 d.m.seen.a0, .int .i64 d.m.seen.a1, .int .i64 d.m.seen.a2, .int .i64 d.m.seen.a3, .int .i64 d.m.seen.a4, .int .i64 d.m.seen.a5, .int .i64 d.m.seen.a6, .int .i64 d.m.seen.a7, .string d.m.data]
abbrev Dod.val (d : Dod) : Value := .agg d.arr
theorem sizeDo : (Try.prog.info? 34).map (·.size) = some 21 := by kernel_rfl
theorem aggDo : isAggT Try.prog 34 = true := by kernel_rfl
theorem Dod.mid {w : World} {g : Nat} {t : TypeId} (d : Dod) (h : Box w g d.arr t) : w.rangeAt g 2 d.m.cells := by
  intro j v hj
  rw [h.cell (2 + j)]
  have e : d.arr[2 + j]? = (d.arr.toList.drop 2)[j]? := by rw [List.getElem?_drop, Array.getElem?_toList]
  rw [e]
  exact hj
/-- What a call on a net may do to what was made ahead of it, and what may be done behind it. -/
structure Turn (w0 : World) (T : World → World → Prop) : Prop where
  keep : ∀ w1 w2 g cs t, T w1 w2 → w0.heap.size ≤ g → Box w1 g cs t → Box w2 g cs t
  after : ∀ w1 w2 w3 g, Below w0.heap.size w0 w1 → T w1 w2 → w0.heap.size ≤ g → g < w1.heap.size → Put w2 w3 g → T w0 w3
theorem turn_below (w0 : World) : Turn w0 fun w1 w2 => Below w1.heap.size w1 w2 :=
  ⟨fun _ _ _ _ _ h _ hx => hx.below h, fun _ _ _ _ h1 h2 hg _ hp => Put.below (bl_then h1 h2) hp hg⟩
theorem turn_net {w0 : World} {base gn : Nat} {v : Value} {L0 : List Msg} {s0 l0 : Int} (h0 : NetAt w0 base gn v L0 s0 l0) (L : List Msg) (sent lost : Int) : Turn w0 fun w1 w2 => NetTo w1 w2 base gn v L sent lost := by
  have hl := h0.box.lt
  refine ⟨fun w1 w2 g cs t h hg hx => ?_, fun w1 w2 w3 g h1 h2 hg hg1 hp => ?_⟩
  · obtain ⟨v', -, F, -⟩ := h
    exact F.box hx (by omega) (fun e => by have := h0.row_lt g e.symm; omega)
  · obtain ⟨v', hN, F, hv⟩ := h2
    have n1 : v'.ownBlock ≠ some g := fun e => by
      rcases hv g e with h | h
      · have := h0.row_lt g h; omega
      · omega
    refine ⟨v', hN.of_put hp (by omega) n1, ((Fr.of_below h1 gn v.ownBlock).trans F (fun _ e => .inl e)).putNew hp hg, fun b e => ?_⟩
    rcases hv b e with h | h
    · exact .inl h
    · exact .inr (by have := h1.size; omega)

theorem law_same (k : Int) (w : World) :
    Calls Try.prog 18 #[.int .i64 k] w fun e w' => e = .returned (⟨3, 0, k, 0, ⟨0, 0⟩, ⟨0, 0⟩, 0, 0, ⟨0, 0, 0, 0, 0, 0, 0, 0⟩, ⟨#[]⟩⟩ : Msg).val ∧ Below w.heap.size w w' := by
  go_enter Try.func18, Try.ntmps18
  go_wp2_with (first
    | ((with_reducible refine gate (N := 2) rfl ?_); refine ev_alloc rfl 32 rfl (cs := Msg.zero.arr) zeroMsg ?_; intro g2 w2 hx2 hb2 hg2 hl2)
    | ((with_reducible refine gateS (t := 32) (p := .tmp 2) (x := .tmp 4) rfl ?_); refine stop ?_))
  unfold Stop
  refine ev_setAll rfl 32 (.tmp 2) (.tmp 4) rfl rfl (vs := (⟨3, 0, k, 0, ⟨0, 0⟩, ⟨0, 0⟩, 0, 0, ⟨0, 0, 0, 0, 0, 0, 0, 0⟩, ⟨#[]⟩⟩ : Msg).arr) hx2 rfl (oneMsg _) sizeMsg rfl ?_
  intro w3 hx3 hp3
  have HB := Put.below hb2 hp3 hg2
  clear hp3
  go_wp2
  refine bodyPost_ret (results_cell_row rfl _ w3 g2 32 (⟨3, 0, k, 0, ⟨0, 0⟩, ⟨0, 0⟩, 0, 0, ⟨0, 0, 0, 0, 0, 0, 0, 0⟩, ⟨#[]⟩⟩ : Msg).arr (0, 0) _ rfl hx3 Try.underlying32 rfl sizeMsg) rfl ⟨rfl, HB⟩

theorem does4 (x : Value) (d : Dod) (r : Msg) (c : Int) (w : World) {T : World → World → Prop} (hT : Turn w T) (hop : bits .and .i64 d.op 7 = 4)
    (hcall : ∀ w1, Below w.heap.size w w1 → Calls Try.prog 14 #[x, .int .i64 d.k] w1 fun e w' => e = .returned (.tuple #[r.val, .int .i64 c]) ∧ T w1 w') :
    Calls Try.prog 10 #[x, d.val] w fun e w' => e = .returned (.tuple #[r.val, .int .i64 c]) ∧ T w w' := by
  go_enter Try.func10, Try.ntmps10
  go_wp2_with (first
    | ((with_reducible refine gate (N := 3) rfl ?_); refine ev_box rfl 34 (.tmp 1) rfl (cs := d.arr) rfl ?_; intro g3 w3 hx3 hb3 hg3 hl3)
    | ((with_reducible refine gate (N := 4) rfl ?_); refine ev_alloc rfl 32 rfl (cs := Msg.zero.arr) zeroMsg ?_; intro g4 w4 hx4 hb4 hg4 hl4; have hx34 := hx3.below hb4; have c0 : w4.cell? ⟨g3, 0, none⟩ = some (.int .i64 d.op) := hx34.cell 0; have c1 : w4.cell? ⟨g3, 1, none⟩ = some (.int .i64 d.k) := hx34.cell 1; have HB4 := bl_then hb3 hb4)
    | (go_at_call 14; (with_reducible refine (hcall w4 HB4).mono ?_); rintro e w5 ⟨rfl, hT5⟩; refine stop ?_))
  unfold Stop
  have hg4' : w.heap.size ≤ g4 := by have := hb3.size; omega
  have hx45 := hT.keep _ _ _ _ _ hT5 hg4' hx4
  clear c0 c1 hx34 hx3 hx4
  go_wp2_with (first
    | ((with_reducible refine gateS (t := 32) (p := .tmp 4) (x := .tmp 15) rfl ?_); refine stop ?_))
  unfold Stop
  refine ev_setAll rfl 32 (.tmp 4) (.tmp 15) rfl rfl (vs := r.arr) hx45 rfl (oneMsg _) sizeMsg rfl ?_
  intro w6 hx6 hp6
  have HF := hT.after _ _ _ _ HB4 hT5 hg4' hl4 hp6
  clear hp6
  go_wp2
  refine bodyPost_ret (results_cell_tmp rfl _ w6 g4 32 r.arr _ rfl rfl hx6 aggMsg sizeMsg) rfl ⟨rfl, HF⟩
end Go.Proofs.Ytbkffeabikjnhaa
