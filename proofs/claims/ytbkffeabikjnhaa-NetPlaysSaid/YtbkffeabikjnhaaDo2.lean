/- The law's own functions over a net: does, its other ways. -/
import Derived.Test.YtbkffeabikjnhaaDo
namespace Go.Proofs.Ytbkffeabikjnhaa
open Go.RowKit

theorem does5 (x : Value) (d : Dod) (r : Msg) (c : Int) (w : World) {T : World → World → Prop} (hT : Turn w T) (hop : bits .and .i64 d.op 7 = 5)
    (hcall : ∀ w1, Below w.heap.size w w1 → Calls Try.prog 19 #[x, .int .i64 d.k] w1 fun e w' => e = .returned (.tuple #[r.val, .int .i64 c]) ∧ T w1 w') :
    Calls Try.prog 10 #[x, d.val] w fun e w' => e = .returned (.tuple #[r.val, .int .i64 c]) ∧ T w w' := by
  go_enter Try.func10, Try.ntmps10
  go_wp2_with (first
    | ((with_reducible refine gate (N := 3) rfl ?_); refine ev_box rfl 34 (.tmp 1) rfl (cs := d.arr) rfl ?_; intro g3 w3 hx3 hb3 hg3 hl3)
    | ((with_reducible refine gate (N := 4) rfl ?_); refine ev_alloc rfl 32 rfl (cs := Msg.zero.arr) zeroMsg ?_; intro g4 w4 hx4 hb4 hg4 hl4; have hx34 := hx3.below hb4; have c0 : w4.cell? ⟨g3, 0, none⟩ = some (.int .i64 d.op) := hx34.cell 0; have c1 : w4.cell? ⟨g3, 1, none⟩ = some (.int .i64 d.k) := hx34.cell 1; have HB4 := bl_then hb3 hb4)
    | (go_at_call 19; (with_reducible refine (hcall w4 HB4).mono ?_); rintro e w5 ⟨rfl, hT5⟩; refine stop ?_))
  unfold Stop
  have hg4' : w.heap.size ≤ g4 := by have := hb3.size; omega
  have hx45 := hT.keep _ _ _ _ _ hT5 hg4' hx4
  clear c0 c1 hx34 hx3 hx4
  go_wp2_with (first
    | ((with_reducible refine gateS (t := 32) (p := .tmp 4) (x := .tmp 23) rfl ?_); refine stop ?_))
  unfold Stop
  refine ev_setAll rfl 32 (.tmp 4) (.tmp 23) rfl rfl (vs := r.arr) hx45 rfl (oneMsg _) sizeMsg rfl ?_
  intro w6 hx6 hp6
  have HF := hT.after _ _ _ _ HB4 hT5 hg4' hl4 hp6
  clear hp6
  go_wp2
  refine bodyPost_ret (results_cell_tmp rfl _ w6 g4 32 r.arr _ rfl rfl hx6 aggMsg sizeMsg) rfl ⟨rfl, HF⟩
theorem does6 (x : Value) (d : Dod) (c : Int) (w : World) {T : World → World → Prop} (hT : Turn w T) (hop : bits .and .i64 d.op 7 = 6)
    (hcall : ∀ w1, Below w.heap.size w w1 → Calls Try.prog 21 #[x, .int .i64 d.k] w1 fun e w' => e = .returned (.int .i64 c) ∧ T w1 w') :
    Calls Try.prog 10 #[x, d.val] w fun e w' => e = .returned (.tuple #[Msg.zero.val, .int .i64 c]) ∧ T w w' := by
  go_enter Try.func10, Try.ntmps10
  go_wp2_with (first
    | ((with_reducible refine gate (N := 3) rfl ?_); refine ev_box rfl 34 (.tmp 1) rfl (cs := d.arr) rfl ?_; intro g3 w3 hx3 hb3 hg3 hl3)
    | ((with_reducible refine gate (N := 4) rfl ?_); refine ev_alloc rfl 32 rfl (cs := Msg.zero.arr) zeroMsg ?_; intro g4 w4 hx4 hb4 hg4 hl4; have hx34 := hx3.below hb4; have c0 : w4.cell? ⟨g3, 0, none⟩ = some (.int .i64 d.op) := hx34.cell 0; have c1 : w4.cell? ⟨g3, 1, none⟩ = some (.int .i64 d.k) := hx34.cell 1; have HB4 := bl_then hb3 hb4)
    | (go_at_call 21; (with_reducible refine (hcall w4 HB4).mono ?_); rintro e w5 ⟨rfl, hT5⟩; refine stop ?_))
  unfold Stop
  have hg4' : w.heap.size ≤ g4 := by have := hb3.size; omega
  have hx45 := hT.keep _ _ _ _ _ hT5 hg4' hx4
  clear c0 c1 hx34 hx3 hx4
  go_wp2_with (first
    | ((with_reducible refine gateS (t := 32) (p := .tmp 4) (x := .tmp 27) rfl ?_); refine stop ?_))
  unfold Stop
  refine ev_setAll rfl 32 (.tmp 4) (.tmp 27) rfl rfl (vs := Msg.zero.arr) hx45 rfl (oneMsg _) sizeMsg rfl ?_
  intro w6 hx6 hp6
  have HF := hT.after _ _ _ _ HB4 hT5 hg4' hl4 hp6
  clear hp6
  go_wp2
  refine bodyPost_ret (results_cell_tmp rfl _ w6 g4 32 Msg.zero.arr _ rfl rfl hx6 aggMsg sizeMsg) rfl ⟨rfl, HF⟩
theorem does7 (x : Value) (d : Dod) (c : Int) (w : World) {T : World → World → Prop} (hT : Turn w T) (hop : bits .and .i64 d.op 7 = 7)
    (hcall : ∀ w1, Below w.heap.size w w1 → Calls Try.prog 20 #[x, .int .i64 d.k] w1 fun e w' => e = .returned (.int .i64 c) ∧ T w1 w') :
    Calls Try.prog 10 #[x, d.val] w fun e w' => e = .returned (.tuple #[Msg.zero.val, .int .i64 c]) ∧ T w w' := by
  go_enter Try.func10, Try.ntmps10
  go_wp2_with (first
    | ((with_reducible refine gate (N := 3) rfl ?_); refine ev_box rfl 34 (.tmp 1) rfl (cs := d.arr) rfl ?_; intro g3 w3 hx3 hb3 hg3 hl3)
    | ((with_reducible refine gate (N := 4) rfl ?_); refine ev_alloc rfl 32 rfl (cs := Msg.zero.arr) zeroMsg ?_; intro g4 w4 hx4 hb4 hg4 hl4; have hx34 := hx3.below hb4; have c0 : w4.cell? ⟨g3, 0, none⟩ = some (.int .i64 d.op) := hx34.cell 0; have c1 : w4.cell? ⟨g3, 1, none⟩ = some (.int .i64 d.k) := hx34.cell 1; have HB4 := bl_then hb3 hb4)
    | (go_at_call 20; (with_reducible refine (hcall w4 HB4).mono ?_); rintro e w5 ⟨rfl, hT5⟩; refine stop ?_))
  unfold Stop
  have hg4' : w.heap.size ≤ g4 := by have := hb3.size; omega
  have hx45 := hT.keep _ _ _ _ _ hT5 hg4' hx4
  clear c0 c1 hx34 hx3 hx4
  go_wp2_with (first
    | ((with_reducible refine gateS (t := 32) (p := .tmp 4) (x := .tmp 34) rfl ?_); refine stop ?_))
  unfold Stop
  refine ev_setAll rfl 32 (.tmp 4) (.tmp 34) rfl rfl (vs := Msg.zero.arr) hx45 rfl (oneMsg _) sizeMsg rfl ?_
  intro w6 hx6 hp6
  have HF := hT.after _ _ _ _ HB4 hT5 hg4' hl4 hp6
  clear hp6
  go_wp2
  refine bodyPost_ret (results_cell_tmp rfl _ w6 g4 32 Msg.zero.arr _ rfl rfl hx6 aggMsg sizeMsg) rfl ⟨rfl, HF⟩
theorem does0 (x : Value) (d : Dod) (c : Int) (w : World) {T : World → World → Prop} (hT : Turn w T) (o : Int) (hop : bits .and .i64 d.op 7 = o) (h4 : (o == 4) = false) (h5 : (o == 5) = false) (h6 : (o == 6) = false) (h7 : (o == 7) = false)
    (hcall : ∀ w1, Below w.heap.size w w1 → Calls Try.prog 17 #[x, d.m.val] w1 fun e w' => e = .returned (.int .i64 c) ∧ T w1 w') :
    Calls Try.prog 10 #[x, d.val] w fun e w' => e = .returned (.tuple #[Msg.zero.val, .int .i64 c]) ∧ T w w' := by
  go_enter Try.func10, Try.ntmps10
  go_wp2_with (first
    | ((with_reducible refine gate (N := 3) rfl ?_); refine ev_box rfl 34 (.tmp 1) rfl (cs := d.arr) rfl ?_; intro g3 w3 hx3 hb3 hg3 hl3)
    | ((with_reducible refine gate (N := 4) rfl ?_); refine ev_alloc rfl 32 rfl (cs := Msg.zero.arr) zeroMsg ?_; intro g4 w4 hx4 hb4 hg4 hl4; have hx34 := hx3.below hb4; have c0 : w4.cell? ⟨g3, 0, none⟩ = some (.int .i64 d.op) := hx34.cell 0; have c1 : w4.cell? ⟨g3, 1, none⟩ = some (.int .i64 d.k) := hx34.cell 1; have HB4 := bl_then hb3 hb4)
    | ((with_reducible refine gate (N := 42) rfl ?_); refine wpList_load_mid rfl 32 (.tmp 41) rfl g3 2 rfl d.m.cells _ (d.mid hx34) Try.underlying32 rfl sizeMsg ?_)
    | (go_at_call 17; have hq : Calls Try.prog 17 #[x, .agg d.m.cells.toArray] w4 fun e w' => e = .returned (.int .i64 c) ∧ T w4 w' := hcall w4 HB4; (with_reducible refine hq.mono ?_); rintro e w5 ⟨rfl, hT5⟩; clear hq; refine stop ?_))
  unfold Stop
  have hg4' : w.heap.size ≤ g4 := by have := hb3.size; omega
  have hx45 := hT.keep _ _ _ _ _ hT5 hg4' hx4
  clear c0 c1 hx34 hx3 hx4
  go_wp2_with (first
    | ((with_reducible refine gateS (t := 32) (p := .tmp 4) (x := .tmp 39) rfl ?_); refine stop ?_))
  unfold Stop
  refine ev_setAll rfl 32 (.tmp 4) (.tmp 39) rfl rfl (vs := Msg.zero.arr) hx45 rfl (oneMsg _) sizeMsg rfl ?_
  intro w6 hx6 hp6
  have HF := hT.after _ _ _ _ HB4 hT5 hg4' hl4 hp6
  clear hp6
  go_wp2
  refine bodyPost_ret (results_cell_tmp rfl _ w6 g4 32 Msg.zero.arr _ rfl rfl hx6 aggMsg sizeMsg) rfl ⟨rfl, HF⟩
end Go.Proofs.Ytbkffeabikjnhaa
