/- Package net: Double. -/
import Derived.Test.YtbkffeabikjnhaaNet5
import Derived.Deep.AppendLies
import Derived.Deep.DrawnRows
namespace Go.Proofs.Ytbkffeabikjnhaa
open Go.RowKit

theorem net_double (w : World) (base gn : Nat) (v : Value) (L : List Msg) (sent lost : Int) (i : Nat) (h : NetAt w base gn v L sent lost) (hi : i < L.length) (hl : L.length < 160) :
    Calls Try.prog 20 #[ptr gn, .int .i64 i] w fun e w' => e = .returned (.int .i64 0) ∧ NetTo w w' base gn v (L ++ [L[i]]) sent lost := by
  obtain ⟨inf, hinf, hz, hs, hb⟩ := info_parts infoStr
  have hat := hide (net_at w base gn v L sent lost i h (by omega) (by omega))
  have HN := hide h
  have hown := h.own
  have hbase := h.base_le
  have hne := h.ne
  obtain ⟨ao, c, rfl, hcell⟩ := h.shape
  obtain ⟨g, rfl, hcg⟩ := hcell i hi
  have hc := h.box.cell
  have hbx := h.box
  have lgn := h.box.lt
  have lg := h.row_lt g rfl
  have hi0 : (0 : Int) ≤ (i : Int) := Int.natCast_nonneg _
  have hi1 : (i : Int) < (L.length : Int) := by omega
  have hd2 : decide ((160 : Int) ≤ (L.length : Int)) = false := by simp; omega
  have hgg : gn ≠ g := fun e => hne (by rw [e]; rfl)
  have hmok := h.ok _ (List.getElem_mem hi)
  clear h hcell
  generalize hm : L[i] = m at *
  clear hm
  generalize hxs : L.map wire = xs at *
  have hxl : xs.length = L.length := by rw [← hxs, List.length_map]
  have HX := Lib.hid hxs
  have HXL := Lib.hid hxl
  unfold Enc.O at hown
  rw [hxl] at hown
  clear hxs hxl
  go_enter Try.func20, Try.ntmps20
  go_wp2_with (first
    | (go_at_call 29; (with_reducible refine (unhide hat).mono ?_); rintro e w4 ⟨rfl, rfl⟩))
  go_region_law
    ((refine step_append_lies _ (by rfl) _ _ _ (by rfl) base 9 inf _ 1 16 Try.underlying46 hinf hz hs hb (by simp [Value.cells]) (by omega) (.slice (some ⟨g, 0, none⟩) L.length c) L.length (encS.all xs) (by rfl) ((hown.alloc _).drew)
        ⟨w.heap.size, 0, none⟩ 1 1 [.string (wire m)] (by rfl) (by rfl) (World.news_of_block (cs := #[.string (wire m)]) (t := 9) (fr := (0, 0)) (heap_alloc_new w _)) (by simp [Value.oneCell'])
        (by omega) (by simp only [maxLen]; omega) (by omega) (by simp; omega) (w.heap.size + 1) (by simp) ?_; intro gg cap w1 hown1 hgrow hat1 hlt; have hbx1 := (Box.grown (by first | exact Box.alloc (Box.drew hbx) _ | exact Box.drew (Box.alloc (Box.drew hbx) _) | exact Box.drew (Box.alloc hbx _) | exact Box.alloc hbx _) hgrow (Ne.symm hne)); have hf1 := hbx1.frozen; have hc1 := hbx1.cell))
  all_goals
    go_wp2
    go_ret
    have hB : Fr w w1 gn (some g) := ((Fr.of_below (by first | exact bl_drewN (bl_alloc (Below.refl _ _) _) 1 | exact bl_alloc (Below.refl _ _) _) gn (some g)).trans (.of_grown hgrow gn) fun _ e => .inl e)
    have h0 := unhide HN
    have n1 : (Value.slice (some ⟨gg, 0, none⟩) (L.length + 1) cap).ownBlock ≠ some gn := fun e => by
      injection e with e
      rcases hat1 with h1 | h1
      · exact hne (h1.trans (by rw [← e]))
      · simp at e; omega
    have hst := Box.setPut w1 gn 0 (.slice (some ⟨gg, 0, none⟩) (L.length + 1) cap)
    have hk := World.ownsRow.kept hown1 hst.gr (.inr n1)
    refine ⟨rfl, _, ⟨Box.set_ hbx1 0 _ rfl, ?_, h0.ge, n1, ?_, by rw [List.length_append, List.length_singleton]; omega⟩, hB.andPut hst, fun b e => ?_⟩
    · have e1 : (L ++ [m]).map wire = xs ++ [wire m] := by rw [List.map_append, HX.out]; rfl
      rw [e1]
      unfold Enc.O
      rw [List.length_append, HXL.out, encS.all_append]
      exact hk
    · intro x hx
      rcases List.mem_append.1 hx with hx | hx
      · exact h0.ok x hx
      · rw [List.mem_singleton.1 hx]; exact hmok
    · injection e with e
      rcases hat1 with h1 | h1
      · exact .inl (h1.trans (by rw [← e]))
      · exact .inr (by simp at e; omega)
end Go.Proofs.Ytbkffeabikjnhaa
