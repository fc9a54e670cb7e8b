/- Package net: Send where there is room. -/
import Derived.Test.YtbkffeabikjnhaaNet7
namespace Go.Proofs.Ytbkffeabikjnhaa
open Go.RowKit

theorem net_send (w : World) (base gn : Nat) (v : Value) (L : List Msg) (sent lost : Int) (m : Msg) (h : NetAt w base gn v L sent lost) (hm : m.ok = true) (hl : L.length < 160) (h0 : 0 ≤ sent) (h1 : sent ≤ 1000000) :
    Calls Try.prog 17 #[ptr gn, m.val] w fun e w' => e = .returned (.int .i64 0) ∧ NetTo w w' base gn v (L ++ [m]) (sent + 1) lost := by
  have hp := fun w1 => hide (wire_put m w1 hm)
  have HN := hide h
  have hbx := h.box
  obtain ⟨ao, c, rfl, -⟩ := h.shape
  have hd2 : decide ((160 : Int) ≤ (L.length : Int)) = false := by simp; omega
  have lgn := h.box.lt
  have HM := hide hm
  clear h hm
  go_enter Try.func17, Try.ntmps17
  go_wp2_with (first
    | ((with_reducible refine gate (N := 3) rfl ?_); refine ev_box rfl 32 (.tmp 1) rfl (cs := m.arr) rfl ?_; intro g1 w1 hx1 hb1 hg1 hl1)
    | (go_at_call 22; (with_reducible refine (net_dead w1 gn _ _ _ true (hbx.below hb1)).mono ?_); rintro e w4 ⟨rfl, rfl⟩)
    | ((with_reducible refine gate (N := 10) rfl ?_); refine ev_load rfl 32 (.tmp 3) rfl rfl hx1 aggMsg sizeMsg ?_)
    | (go_at_call 36; (with_reducible refine (unhide (hp w1)).mono ?_); rintro e w2 ⟨rfl, hb2⟩; have hbx2 := (hbx.below hb1).below hb2; have hc2 := hbx2.cell; have HB2 := bl_then hb1 hb2)
    | ((with_reducible refine gateS (t := 3) (p := .tmp 23) (x := .tmp 21) rfl ?_); refine stop ?_))
  unfold Stop
  refine ev_set rfl 3 (.tmp 23) (.tmp 21) rfl rfl hbx2 (v := .int .i64 (sent + 1)) (cs' := #[.slice ao L.length c, .int .i64 (sent + 1), .int .i64 lost, .bool true]) rfl (by simp [Value.cells, Value.oneCell']) sizeInt (by simp [Value.cells]) (by simp [Value.cells]) ?_
  intro w3 hx3 hp3
  have hN3 := hide (((unhide HN).below HB2).stored hp3 hx3)
  have F3 := (Fr.of_below HB2 gn (Value.slice ao L.length c).ownBlock).andPut hp3
  have hown := hide (unhide hN3).own
  have hne := (unhide hN3).ne
  have hbase := (unhide hN3).base_le
  have hc3 := hx3.cell
  clear hp hbx2 hc2 hx1 hb1 hb2 HB2 hp3
  go_wp2_with (first
    | (at_builtin; refine Enc.app1 (E := encS) rfl (.tmp 41) (.tmp 43) 46 rfl (.string ⟨#[]⟩) 16 Try.underlying46 infoStr rfl rfl (unhide hown) (wire m) rfl rfl (by rw [List.length_map]; omega) (by omega) hbase ?_; intro v4 w4 ho4 hg4 hv4; obtain ⟨ao4, n4, c4, rfl⟩ := own_slice ho4)
    | ((with_reducible refine gateS (t := 46) (p := .tmp 46) (x := .tmp 44) rfl ?_); refine stop ?_))
  unfold Stop
  have hx4 := hx3.grown hg4 (Ne.symm hne)
  refine ev_set rfl 46 (.tmp 46) (.tmp 44) rfl rfl hx4 (v := .slice ao4 n4 c4) (cs' := #[.slice ao4 n4 c4, .int .i64 (sent + 1), .int .i64 lost, .bool true]) rfl (by simp [Value.cells, Value.oneCell']) sizeSlS (by simp [Value.cells]) (by simp [Value.cells]) ?_
  intro w5 hx5 hp5
  have hs3 := F3.size
  have l3 := hx3.lt
  have HV := hide (show ∀ b, (Value.slice ao4 n4 c4).ownBlock = some b → (Value.slice ao L.length c).ownBlock = some b ∨ w3.heap.size ≤ b from fun b e => by
    rcases hv4 with h | ⟨b', h, hb'⟩
    · exact .inl (h.symm.trans e)
    · rw [h] at e; injection e with e; exact .inr (by omega))
  have n5 : (Value.slice ao4 n4 c4).ownBlock ≠ some gn := fun e => by
    rcases unhide HV _ e with h | h
    · exact hne h
    · omega
  have F5 := (F3.trans (.of_grown hg4 gn) (fun _ e => .inl e)).andPut hp5
  have hk := World.ownsRow.kept ho4 hp5.gr (.inr n5)
  have hN5 := hide (show NetAt w5 base gn (.slice ao4 n4 c4) (L ++ [m]) (sent + 1) lost from ⟨hx5, by
      have e1 : (L ++ [m]).map wire = L.map wire ++ [wire m] := by simp
      rw [e1]; exact hk, (unhide HN).ge, n5, by
      intro x hx
      rcases List.mem_append.1 hx with hx | hx
      · exact (unhide HN).ok x hx
      · rw [List.mem_singleton.1 hx]; exact unhide HM, by rw [List.length_append, List.length_singleton]; omega⟩)
  have HV2 := hide (show ∀ b, (Value.slice ao4 n4 c4).ownBlock = some b → (Value.slice ao L.length c).ownBlock = some b ∨ w.heap.size ≤ b from fun b e => by
    rcases unhide HV _ e with h | h
    · exact .inl h
    · exact .inr (by omega))
  clear hx3 hx4 hx5 hp5 ho4 hg4 hv4 hk hc3 n5 HV
  go_wp2
  go_ret
  exact ⟨rfl, _, unhide hN5, F5, unhide HV2⟩
end Go.Proofs.Ytbkffeabikjnhaa
