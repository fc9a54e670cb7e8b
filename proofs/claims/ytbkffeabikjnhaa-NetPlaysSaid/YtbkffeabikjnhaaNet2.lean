/- Package net: what turns a net. -/
import Derived.Test.YtbkffeabikjnhaaNet
import Derived.Test.YtbkffeabikjnhaaShelf
namespace Go.Proofs.Ytbkffeabikjnhaa
open Go.RowKit

/-- Only block g and the row r have turned, and what is new. -/
structure Fr (w w1 : World) (g : Nat) (r : Option Nat) : Prop where
  os : w1.os = w.os
  tape : w1.tape = w.tape
  output : w1.output = w.output
  size : w.heap.size ≤ w1.heap.size
  block : ∀ k, k < w.heap.size → k ≠ g → some k ≠ r → w1.heap[k]? = w.heap[k]?
namespace Fr
variable {w w1 w2 : World} {g : Nat} {r r' : Option Nat}
theorem of_below (h : Below w.heap.size w w1) (g : Nat) (r : Option Nat) : Fr w w1 g r := ⟨h.os, h.tape, h.output, h.size, fun k hk _ _ => h.block k hk⟩
theorem of_put (h : Put w w1 g) (r : Option Nat) : Fr w w1 g r := ⟨h.os, h.tape, h.output, h.size, fun k hk h1 _ => h.block k hk h1⟩
theorem of_grown (h : w.grownBy w1 r) (g : Nat) : Fr w w1 g r := ⟨h.os, h.tape, h.output, h.size, fun k hk _ h2 => h.block k hk h2⟩
/-- One behind another; the row may be another by then, if it is new. -/
theorem trans (h : Fr w w1 g r) (k : Fr w1 w2 g r') (hr : ∀ b, r' = some b → r = some b ∨ w.heap.size ≤ b) : Fr w w2 g r :=
  ⟨k.os.trans h.os, k.tape.trans h.tape, k.output.trans h.output, Nat.le_trans h.size k.size, fun i hi h1 h2 =>
    (k.block i (Nat.lt_of_lt_of_le hi h.size) h1 (by
      intro e
      rcases hr i e.symm with h3 | h3
      · exact h2 h3.symm
      · omega)).trans (h.block i hi h1 h2)⟩
theorem box (h : Fr w w1 g r) {b : Nat} {cs : Array Value} {t : TypeId} (hx : Box w b cs t) (h1 : b ≠ g) (h2 : some b ≠ r) : Box w1 b cs t := (h.block b hx.lt h1 h2).trans hx
theorem putNew (h : Fr w w1 g r) {g' : Nat} (hp : Put w1 w2 g') (hg : w.heap.size ≤ g') : Fr w w2 g r :=
  ⟨hp.os.trans h.os, hp.tape.trans h.tape, hp.output.trans h.output, Nat.le_trans h.size hp.size, fun k hk h1 h2 => (hp.block k (Nat.lt_of_lt_of_le hk h.size) (by omega)).trans (h.block k hk h1 h2)⟩
theorem andBelow (h : Fr w w1 g r) (hb : Below w1.heap.size w1 w2) : Fr w w2 g r := h.trans (.of_below hb g r) fun _ e => .inl e
theorem andPut (h : Fr w w1 g r) (hp : Put w1 w2 g) : Fr w w2 g r := h.trans (.of_put hp r) fun _ e => .inl e
theorem below {w0 : World} (h : Fr w w1 g r) (hb : Below w0.heap.size w0 w) (hg : w0.heap.size ≤ g) (hr : ∀ k, r = some k → w0.heap.size ≤ k) : Below w0.heap.size w0 w1 :=
  hb.trans ⟨h.os, h.tape, h.output, h.size, fun k hk => h.block k (Nat.lt_of_lt_of_le hk hb.size) (by omega) (fun e => by have := hr k e.symm; omega)⟩
end Fr
theorem Put.gr {w w1 : World} {g : Nat} (h : Put w w1 g) : w.grownBy w1 (some g) := ⟨h.os, h.tape, h.output, h.size, fun k hk h1 => h.block k hk (fun e => h1 (by rw [e]))⟩
/-- The net at gn has come to hold L'. -/
def NetTo (w w' : World) (base gn : Nat) (v : Value) (L' : List Msg) (sent lost : Int) : Prop :=
  ∃ v', NetAt w' base gn v' L' sent lost ∧ Fr w w' gn v.ownBlock ∧ ∀ b, v'.ownBlock = some b → v.ownBlock = some b ∨ w.heap.size ≤ b
namespace NetAt
variable {w w1 : World} {base gn : Nat} {v : Value} {L : List Msg} {sent lost : Int}
theorem base_le (h : NetAt w base gn v L sent lost) : base ≤ w.heap.size := by have := h.ge; have := h.box.lt; omega
theorem row_ge (h : NetAt w base gn v L sent lost) : ∀ k, v.ownBlock = some k → base ≤ k := fun k hk => h.own.base k hk
theorem row_lt (h : NetAt w base gn v L sent lost) : ∀ k, v.ownBlock = some k → k < w.heap.size := fun k hk => h.own.lt k hk
theorem stay (h : NetAt w base gn v L sent lost) (hb : Below w.heap.size w w1) : NetTo w w1 base gn v L sent lost := ⟨v, h.below hb, .of_below hb _ _, fun _ h => .inl h⟩
/-- Another block has turned. -/
theorem of_put (h : NetAt w base gn v L sent lost) {g' : Nat} (hp : Put w w1 g') (h1 : g' ≠ gn) (h2 : v.ownBlock ≠ some g') : NetAt w1 base gn v L sent lost :=
  ⟨h.box.put hp h1.symm, World.ownsRow.kept h.own hp.gr (.inr h2), h.ge, h.ne, h.ok, h.len⟩
/-- The counts are stored. -/
theorem stored (h : NetAt w base gn v L sent lost) (hp : Put w w1 gn) {s l : Int} (hx : Box w1 gn #[v, .int .i64 s, .int .i64 l, .bool true] 48) : NetAt w1 base gn v L s l :=
  ⟨hx, World.ownsRow.kept h.own hp.gr (.inr h.ne), h.ge, h.ne, h.ok, h.len⟩
end NetAt

theorem sizeSlS : (Try.prog.info? 46).map (·.size) = some 1 := by kernel_rfl
theorem sizeInt : (Try.prog.info? 3).map (·.size) = some 1 := by kernel_rfl
theorem sizeStr : (Try.prog.info? 9).map (·.size) = some 1 := by kernel_rfl

theorem wire_get (m : Msg) (w : World) (hok : m.ok = true) :
    Calls Try.prog 30 #[.string (wire m)] w fun e w' => e = .returned (.tuple #[m.val, .int .i64 0]) ∧ Below w.heap.size w w' := msg_get m w hok
theorem wire_put (m : Msg) (w : World) (hok : m.ok = true) :
    Calls Try.prog 36 #[m.val] w fun e w' => e = .returned (.tuple #[.string (wire m), .int .i64 0]) ∧ Below w.heap.size w w' := msg_put m w hok

theorem net_peek (w : World) (base gn : Nat) (v : Value) (L : List Msg) (sent lost : Int) (i : Nat) (h : NetAt w base gn v L sent lost) (hi : i < L.length) :
    Calls Try.prog 14 #[ptr gn, .int .i64 i] w fun e w' => e = .returned (.tuple #[L[i].val, .int .i64 0]) ∧ Below w.heap.size w w' := by
  have hok := h.ok L[i] (List.getElem_mem hi)
  have hS := h
  obtain ⟨ao, c, rfl, hcell⟩ := h.shape
  obtain ⟨g, rfl, hcg⟩ := hcell i hi
  have hat := fun w1 (hb : Below w.heap.size w w1) => net_at w1 base gn _ L sent lost i (hS.below hb) (by omega) (by omega)
  have hbx := h.box
  have hgl := h.row_lt g rfl
  have hG := fun w1 => hide (wire_get L[i] w1 hok)
  clear h hcell hS
  have HG := hide hcg
  clear hcg
  generalize hm : L[i] = m at *
  clear hm
  go_enter Try.func14, Try.ntmps14
  go_wp2_with (first
    | ((with_reducible refine gate (N := 4) rfl ?_); refine ev_alloc rfl 32 rfl (cs := Msg.zero.arr) zeroMsg ?_; intro g4 w4 hx4 hb4 hg4 hl4; have hc4 := (hbx.below hb4).cell 0; have hcg4 := (hb4.cell (p := ⟨g, i, none⟩) hgl).trans (unhide HG); clear HG)
    | (go_at_call 29; (with_reducible refine (hat w4 hb4).mono ?_); rintro e w5 ⟨rfl, rfl⟩)
    | ((with_reducible refine gate (N := 19) rfl ?_); refine ev_index rfl 46 (.tmp 17) (.tmp 18) rfl rfl rfl Try.underlying46 sizeStr hi ?_; rw [Nat.mul_one])
    | (go_at_call 30; (with_reducible refine (unhide (hG w4)).mono ?_); rintro e w6 ⟨rfl, hb6⟩; refine stop ?_))
  unfold Stop
  go_wp2_with (first
    | ((with_reducible refine gateS (t := 32) (p := .tmp 4) (x := .tmp 22) rfl ?_); refine stop ?_))
  unfold Stop
  refine ev_setAll rfl 32 (.tmp 4) (.tmp 22) rfl rfl (vs := m.arr) (hx4.below hb6) rfl (oneMsg _) sizeMsg rfl ?_
  intro w7 hx7 hp7
  have HW := Put.below (bl_then hb4 hb6) hp7 hg4
  clear hc4 hcg4 hp7
  go_wp2
  refine bodyPost_ret (results_cell_tmp rfl _ w7 g4 32 m.arr _ rfl rfl hx7 aggMsg sizeMsg) rfl ⟨rfl, HW⟩
end Go.Proofs.Ytbkffeabikjnhaa
