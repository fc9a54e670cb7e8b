/- Package net: Take, Lose, Double. -/
import Derived.Test.YtbkffeabikjnhaaNet3
namespace Go.Proofs.Ytbkffeabikjnhaa
open Go.RowKit

theorem net_take (w : World) (base gn : Nat) (v : Value) (L : List Msg) (sent lost : Int) (i : Nat) (h : NetAt w base gn v L sent lost) (hi : i < L.length) :
    Calls Try.prog 19 #[ptr gn, .int .i64 i] w fun e w' => e = .returned (.tuple #[L[i].val, .int .i64 0]) ∧ NetTo w w' base gn v (L.take i ++ L.drop (i + 1)) sent lost := by
  have hlen := h.len
  have hpk := fun w1 (hb : Below w.heap.size w w1) => net_peek w1 base gn v L sent lost i (h.below hb) hi
  have hgl := h.box.lt
  have HN := hide h
  clear h
  generalize hm : L[i] = m at *
  clear hm
  go_enter Try.func19, Try.ntmps19
  go_wp2_with (first
    | ((with_reducible refine gate (N := 4) rfl ?_); refine ev_alloc rfl 32 rfl (cs := Msg.zero.arr) zeroMsg ?_; intro g4 w4 hx4 hb4 hg4 hl4)
    | (go_at_call 14; (with_reducible refine (hpk w4 hb4).mono ?_); rintro e w5 ⟨rfl, hb5⟩)
    | ((with_reducible refine gate (N := 6) rfl ?_); refine ev_alloc rfl 32 rfl (cs := Msg.zero.arr) zeroMsg ?_; intro g6 w6 hx6 hb6 hg6 hl6; refine stop ?_))
  unfold Stop
  refine ev_setAll rfl 32 (.tmp 6) (.tmp 12) rfl rfl (vs := m.arr) hx6 rfl (oneMsg _) sizeMsg rfl ?_
  intro w7 hx7 hp7
  have n46 : g4 ≠ g6 := by have := hb5.size; omega
  have ng4 : gn ≠ g4 := by omega
  have ng6 : gn ≠ g6 := by have := hb4.size; have := hb5.size; omega
  have hx47 := ((hx4.below hb5).below hb6).put hp7 n46
  have HW7 := Put.below (bl_then (bl_then hb4 hb5) hb6) hp7 (by have := hb4.size; have := hb5.size; omega)
  have hge6 : w.heap.size ≤ g6 := by have := hb4.size; have := hb5.size; omega
  have l7 : g4 < w7.heap.size ∧ g6 < w7.heap.size := ⟨hx47.lt, hx7.lt⟩
  clear hx6 hx4 hb4 hb5 hb6 hp7 hg6 hl6 hl4 hpk
  have hN7 := (unhide HN).below HW7
  have hat := hide (net_at w7 base gn v L sent lost i hN7 (by omega) (by omega))
  have hcl := hide (strs_clone w7 base v (L.map wire) hN7.own (by rw [List.length_map]; omega))
  have hbx7 := hN7.box
  have hc7 := hbx7.cell 0
  have e1 : (L.map wire).take i ++ (L.map wire).drop (i + 1) = (L.take i ++ L.drop (i + 1)).map wire := by simp
  have HE := Lib.hid e1
  clear e1 hN7
  go_wp2_with (first
    | (go_at_call 29; (with_reducible refine (unhide hat).mono ?_); rintro e w8 ⟨rfl, rfl⟩)
    | (go_at_call 23; (with_reducible refine (unhide hcl).mono ?_); rintro e w8 ⟨v8, rfl, ho8, hb8⟩; obtain ⟨ao8, n8, c8, rfl⟩ := own_slice ho8; refine stop ?_))
  unfold Stop
  have hbx8 := hbx7.below hb8
  have hde := hide (strs_delete w8 w7.heap.size _ (L.map wire) i ho8 (by rw [List.length_map]; exact hi))
  have hc8 := hbx8.cell 0
  have hz8 := hb8.size
  have hx78 := hx7.below hb8
  have hx48 := hx47.below hb8
  have HW8 := bl_then HW7 hb8
  have ob8 := fun k => ho8.base k
  clear hc7 hat hcl hbx7 ho8 hb8 hx7 hx47
  go_wp2_with (first
    | (go_at_call 37; (with_reducible refine (unhide hde).mono ?_); rintro e w9 ⟨v9, rfl, ho9, hg9, hv9⟩; obtain ⟨ao9, n9, c9, rfl⟩ := own_slice ho9)
    | ((with_reducible refine gateS (t := 46) (p := .tmp 29) (x := .tmp 27) rfl ?_); refine stop ?_))
  unfold Stop
  rw [HE.out] at ho9
  have hbx9 := hbx8.grown hg9 (fun e => by have h1 := ob8 _ e.symm; have h2 := HW7.size; omega)
  have l6 := hx78.lt
  have hx79 := hx78.grown hg9 (fun e => by have h1 := ob8 _ e.symm; omega)
  have hx49 := hx48.grown hg9 (fun e => by have h1 := ob8 _ e.symm; omega)
  refine ev_set rfl 46 (.tmp 29) (.tmp 27) rfl rfl hbx9 (v := .slice ao9 n9 c9) (cs' := #[.slice ao9 n9 c9, .int .i64 sent, .int .i64 lost, .bool true]) rfl (by simp [Value.cells, Value.oneCell']) sizeSlS (by simp [Value.cells]) (by simp [Value.cells]) ?_
  intro w10 hx10 hp10
  have F10 : Fr w w10 gn v.ownBlock := ((Fr.of_below HW8 gn v.ownBlock).trans (.of_grown hg9 gn) (fun b e => .inr (by have h1 := ob8 _ e; have h2 := HW7.size; omega))).andPut hp10
  have hx7A := hx79.put hp10 ng6.symm
  have hx4A := hx49.put hp10 ng4.symm
  have o9 : (Value.slice ao9 n9 c9).ownBlock ≠ some gn := fun e => by have h1 := ho9.base _ e; have h2 := HW7.size; omega
  have HA := hide (show NetAt w10 base gn (.slice ao9 n9 c9) (L.take i ++ L.drop (i + 1)) sent lost from
    ⟨hx10, World.ownsRow.kept (ho9.weaken (by have h1 := (unhide HN).base_le; have h2 := HW7.size; omega)) hp10.gr (.inr o9), (unhide HN).ge, o9,
      fun m hm => (unhide HN).ok m ((List.mem_append.1 hm).elim List.mem_of_mem_take List.mem_of_mem_drop), by rw [List.length_append, List.length_take, List.length_drop]; omega⟩)
  have HO := hide (show ∀ b, (Value.slice ao9 n9 c9).ownBlock = some b → w7.heap.size ≤ b from fun b e => ho9.base _ e)
  clear hx79 hx49 hx78 hx48 hbx9 hp10 hg9 ho9 hbx8 hc8 hv9 o9 ob8
  go_wp2_with (first
    | ((with_reducible refine gate (N := 30) rfl ?_); refine ev_load rfl 32 (.tmp 6) rfl rfl hx7A aggMsg sizeMsg ?_)
    | ((with_reducible refine gateS (t := 32) (p := .tmp 4) (x := .tmp 30) rfl ?_); refine stop ?_))
  unfold Stop
  refine ev_setAll rfl 32 (.tmp 4) (.tmp 30) rfl rfl (vs := m.arr) hx4A rfl (oneMsg _) sizeMsg rfl ?_
  intro w11 hx11 hp11
  have hN11 := (unhide HA).of_put hp11 ng4.symm (fun e => by have h1 := unhide HO _ e; omega)
  have F11 := F10.putNew hp11 hg4
  clear hp11
  go_wp2
  refine bodyPost_ret (results_cell_tmp rfl _ w11 g4 32 m.arr _ rfl rfl hx11 aggMsg sizeMsg) rfl ⟨rfl, _, hN11, F11, fun b e => .inr (by have h1 := unhide HO b e; have h2 := HW7.size; omega)⟩
end Go.Proofs.Ytbkffeabikjnhaa
