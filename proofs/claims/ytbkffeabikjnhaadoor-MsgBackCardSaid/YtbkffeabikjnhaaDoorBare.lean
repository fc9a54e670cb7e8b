/- Messages: Bare. -/
import Derived.Test.YtbkffeabikjnhaaDoorMsgA
import Derived.BigRegion
namespace Go.Proofs.YtbkffeabikjnhaaDoor
open Go.RowKit

def Msg.zero : Msg := ⟨0, 0, 0, 0, ⟨0, 0⟩, ⟨0, 0⟩, 0, 0, ⟨0, 0, 0, 0, 0, 0, 0, 0⟩, ⟨#[]⟩⟩
def Msg.bare (m : Msg) : Msg :=
  { m with base := if m.kind = 1 ∨ m.kind = 2 then m.base else ⟨0, 0⟩
           mark := if m.kind = 1 ∨ m.kind = 2 ∨ m.kind = 4 then m.mark else ⟨0, 0⟩
           index := if m.kind = 1 ∨ m.kind = 2 then m.index else 0
           total := if m.kind = 2 then m.total else 0
           data := if m.kind = 2 then m.data else ⟨#[]⟩ }
theorem zeroMsg : (Tryd.prog.info? 41).map (·.zero) = some (some Msg.zero.val) := by kernel_rfl
abbrev Msg.arr (m : Msg) : Array Value := #[.int .i64 m.kind, .int .i64 m.src, .int .i64 m.dst, .int .i64 m.vol, .int .i64 m.base.boot, .int .i64 m.base.n, .int .i64 m.mark.boot, .int .i64 m.mark.n, .int .i64 m.index, .int .i64 m.total,
  .int .i64 m.seen.a0, .int .i64 m.seen.a1, .int .i64 m.seen.a2, .int .i64 m.seen.a3, .int .i64 m.seen.a4, .int .i64 m.seen.a5, .int .i64 m.seen.a6, .int .i64 m.seen.a7, .string m.data]
theorem oneMsg (m : Msg) : ∀ u ∈ m.arr.toList, u.oneCell' = true := by simp [Value.oneCell']
theorem msgCells {w : World} {g : Nat} {m : Msg} {t : TypeId} (h : Box w g m.arr t) : w.cell? ⟨g, 0, none⟩ = some (.int .i64 m.kind) ∧ w.cell? ⟨g, 1, none⟩ = some (.int .i64 m.src) ∧ w.cell? ⟨g, 2, none⟩ = some (.int .i64 m.dst) ∧ w.cell? ⟨g, 3, none⟩ = some (.int .i64 m.vol) ∧ w.cell? ⟨g, 4, none⟩ = some (.int .i64 m.base.boot) ∧ w.cell? ⟨g, 5, none⟩ = some (.int .i64 m.base.n) ∧ w.cell? ⟨g, 6, none⟩ = some (.int .i64 m.mark.boot) ∧ w.cell? ⟨g, 7, none⟩ = some (.int .i64 m.mark.n) ∧ w.cell? ⟨g, 8, none⟩ = some (.int .i64 m.index) ∧ w.cell? ⟨g, 9, none⟩ = some (.int .i64 m.total) ∧ w.cell? ⟨g, 10, none⟩ = some (.int .i64 m.seen.a0) ∧ w.cell? ⟨g, 11, none⟩ = some (.int .i64 m.seen.a1) ∧ w.cell? ⟨g, 12, none⟩ = some (.int .i64 m.seen.a2) ∧ w.cell? ⟨g, 13, none⟩ = some (.int .i64 m.seen.a3) ∧ w.cell? ⟨g, 14, none⟩ = some (.int .i64 m.seen.a4) ∧ w.cell? ⟨g, 15, none⟩ = some (.int .i64 m.seen.a5) ∧ w.cell? ⟨g, 16, none⟩ = some (.int .i64 m.seen.a6) ∧ w.cell? ⟨g, 17, none⟩ = some (.int .i64 m.seen.a7) ∧ w.cell? ⟨g, 18, none⟩ = some (.string m.data) :=
  ⟨h.cell 0, h.cell 1, h.cell 2, h.cell 3, h.cell 4, h.cell 5, h.cell 6, h.cell 7, h.cell 8, h.cell 9, h.cell 10, h.cell 11, h.cell 12, h.cell 13, h.cell 14, h.cell 15, h.cell 16, h.cell 17, h.cell 18⟩
def Msg.base0 (m : Msg) : Msg := ⟨m.kind, m.src, m.dst, m.vol, ⟨0, 0⟩, ⟨0, 0⟩, 0, 0, m.seen, ⟨#[]⟩⟩
theorem msg_bare1 (m : Msg) (w : World) (h1 : m.kind = 1) :
    Calls Tryd.prog 19 #[m.val] w fun e w' => e = .returned m.bare.val ∧ Below w.heap.size w w' := by
  have HE : Hid (m.bare = (⟨m.kind, m.src, m.dst, m.vol, ⟨m.base.boot, m.base.n⟩, ⟨m.mark.boot, m.mark.n⟩, m.index, 0, m.seen, ⟨#[]⟩⟩ : Msg)) := Lib.hid (by simp [Msg.bare, h1])
  have b1 : (m.kind == 1) = true := by simp [h1]
  clear h1
  rw [HE.out]
  clear HE
  go_enter Tryd.func19, Tryd.ntmps19
  go_wp2_with (first
    | ((with_reducible refine gate (N := 1) rfl ?_); refine ev_box rfl 41 (.tmp 0) rfl (cs := m.arr) rfl ?_; intro g1 w1 hx1 hb1 hg1 hl1)
    | ((with_reducible refine gate (N := 2) rfl ?_); refine ev_alloc rfl 41 rfl (cs := Msg.zero.arr) zeroMsg ?_; intro g2 w2 hx2 hb2 hg2 hl2; have hx1' := hx1.below hb2; have hc1 := hx1'.cell)
    | ((with_reducible refine gate (N := 3) rfl ?_); refine ev_alloc rfl 41 rfl (cs := Msg.zero.arr) zeroMsg ?_; intro g3 w3 hx3 hb3 hg3 hl3; refine stop ?_))
  unfold Stop
  refine ev_setAll rfl 41 (.tmp 3) (.tmp 14) rfl rfl (vs := m.base0.arr) hx3 rfl (oneMsg _) sizeMsg rfl ?_
  intro w4 hx4 hp4
  have hn1 : g1 ≠ g3 := by omega
  have hn2 : g2 ≠ g3 := by omega
  have hx14 := (hx1'.below hb3).put hp4 hn1
  have hx24 := (hx2.below hb3).put hp4 hn2
  have HB := Put.below (bl_then (bl_then hb1 hb2) hb3) hp4 (by have := hb1.size; have := hb2.size; omega)
  have hge : w.heap.size ≤ g2 := by have := hb1.size; omega
  have hge3 : w.heap.size ≤ g3 := by have := hb1.size; have := hb2.size; omega
  clear hc1 hx1 hx2 hx3 hx1' hb1 hb2 hb3 hp4 hg1 hl1 hg2 hl2 hg3 hl3 hn1
  have hc1 := hx14.cell
  have hc4 := hx4.cell
  have hf4 := hx4.frozen
  go_wp2
  go_region
  go_wp2_with (first | ((with_reducible refine gate (N := 50) rfl ?_); refine stop ?_))
  unfold Stop
  clear hc1 hc4 hf4
  have hs0 := Box.set_ hx4 4 (.int .i64 m.base.boot) (cs' := (⟨m.kind, m.src, m.dst, m.vol, ⟨m.base.boot, 0⟩, ⟨0, 0⟩, 0, 0, m.seen, ⟨#[]⟩⟩ : Msg).arr) rfl
  have hs1 := Box.set_ hs0 5 (.int .i64 m.base.n) (cs' := (⟨m.kind, m.src, m.dst, m.vol, ⟨m.base.boot, m.base.n⟩, ⟨0, 0⟩, 0, 0, m.seen, ⟨#[]⟩⟩ : Msg).arr) rfl
  have hs2 := Box.set_ hs1 6 (.int .i64 m.mark.boot) (cs' := (⟨m.kind, m.src, m.dst, m.vol, ⟨m.base.boot, m.base.n⟩, ⟨m.mark.boot, 0⟩, 0, 0, m.seen, ⟨#[]⟩⟩ : Msg).arr) rfl
  have hs3 := Box.set_ hs2 7 (.int .i64 m.mark.n) (cs' := (⟨m.kind, m.src, m.dst, m.vol, ⟨m.base.boot, m.base.n⟩, ⟨m.mark.boot, m.mark.n⟩, 0, 0, m.seen, ⟨#[]⟩⟩ : Msg).arr) rfl
  have hs4 := Box.set_ hs3 8 (.int .i64 m.index) (cs' := (⟨m.kind, m.src, m.dst, m.vol, ⟨m.base.boot, m.base.n⟩, ⟨m.mark.boot, m.mark.n⟩, m.index, 0, m.seen, ⟨#[]⟩⟩ : Msg).arr) rfl
  have hs24 := (((((hx24.put (Box.setPut _ g3 4 (.int .i64 m.base.boot)) hn2).put (Box.setPut _ g3 5 (.int .i64 m.base.n)) hn2).put (Box.setPut _ g3 6 (.int .i64 m.mark.boot)) hn2).put (Box.setPut _ g3 7 (.int .i64 m.mark.n)) hn2).put (Box.setPut _ g3 8 (.int .i64 m.index)) hn2)
  have HB5 : Below w.heap.size w (((((w4.setCell ⟨g3, 4, none⟩ (.int .i64 m.base.boot)).setCell ⟨g3, 5, none⟩ (.int .i64 m.base.n)).setCell ⟨g3, 6, none⟩ (.int .i64 m.mark.boot)).setCell ⟨g3, 7, none⟩ (.int .i64 m.mark.n)).setCell ⟨g3, 8, none⟩ (.int .i64 m.index)).drew := Below.drew (bl_set (bl_set (bl_set (bl_set (bl_set HB hge3 _) hge3 _) hge3 _) hge3 _) hge3 _)
  obtain ⟨w5, hw5⟩ : ∃ w5, w5 = (((((w4.setCell ⟨g3, 4, none⟩ (.int .i64 m.base.boot)).setCell ⟨g3, 5, none⟩ (.int .i64 m.base.n)).setCell ⟨g3, 6, none⟩ (.int .i64 m.mark.boot)).setCell ⟨g3, 7, none⟩ (.int .i64 m.mark.n)).setCell ⟨g3, 8, none⟩ (.int .i64 m.index)).drew := ⟨_, rfl⟩
  have hx5 : Box w5 g3 (⟨m.kind, m.src, m.dst, m.vol, ⟨m.base.boot, m.base.n⟩, ⟨m.mark.boot, m.mark.n⟩, m.index, 0, m.seen, ⟨#[]⟩⟩ : Msg).arr 41 := by rw [hw5]; exact hs4.drew
  have hx25 : Box w5 g2 Msg.zero.arr 41 := by rw [hw5]; exact hs24.drew
  rw [← hw5] at HB5 ⊢
  clear hw5 hx4 hx24 HB hx14 hs24 hs0 hs1 hs2 hs3 hs4
  refine ev_load rfl 41 (.tmp 3) rfl rfl hx5 aggMsg sizeMsg ?_
  refine ev_setAll rfl 41 (.tmp 2) (.tmp 50) rfl rfl (vs := (⟨m.kind, m.src, m.dst, m.vol, ⟨m.base.boot, m.base.n⟩, ⟨m.mark.boot, m.mark.n⟩, m.index, 0, m.seen, ⟨#[]⟩⟩ : Msg).arr) hx25 rfl (oneMsg _) sizeMsg rfl ?_
  intro w6 hx6 hp6
  have HB6 := Put.below HB5 hp6 hge
  clear hx5 hx25 hp6 HB5
  go_wp2
  refine bodyPost_ret (results_cell_row rfl _ w6 g2 41 (⟨m.kind, m.src, m.dst, m.vol, ⟨m.base.boot, m.base.n⟩, ⟨m.mark.boot, m.mark.n⟩, m.index, 0, m.seen, ⟨#[]⟩⟩ : Msg).arr (0, 0) _ rfl hx6 Tryd.underlying41 rfl sizeMsg) rfl ⟨rfl, HB6⟩
set_option maxHeartbeats 4000000 in
theorem msg_bare2 (m : Msg) (w : World) (h2 : m.kind = 2) :
    Calls Tryd.prog 19 #[m.val] w fun e w' => e = .returned m.bare.val ∧ Below w.heap.size w w' := by
  have HE : Hid (m.bare = (⟨m.kind, m.src, m.dst, m.vol, ⟨m.base.boot, m.base.n⟩, ⟨m.mark.boot, m.mark.n⟩, m.index, m.total, m.seen, m.data⟩ : Msg)) := Lib.hid (by simp [Msg.bare, h2])
  have b1 : (m.kind == 1) = false := by simp [h2]
  have b2 : (m.kind == 2) = true := by simp [h2]
  clear h2
  rw [HE.out]
  clear HE
  go_enter Tryd.func19, Tryd.ntmps19
  go_wp2_with (first
    | ((with_reducible refine gate (N := 1) rfl ?_); refine ev_box rfl 41 (.tmp 0) rfl (cs := m.arr) rfl ?_; intro g1 w1 hx1 hb1 hg1 hl1)
    | ((with_reducible refine gate (N := 2) rfl ?_); refine ev_alloc rfl 41 rfl (cs := Msg.zero.arr) zeroMsg ?_; intro g2 w2 hx2 hb2 hg2 hl2; have hx1' := hx1.below hb2; have hc1 := hx1'.cell)
    | ((with_reducible refine gate (N := 3) rfl ?_); refine ev_alloc rfl 41 rfl (cs := Msg.zero.arr) zeroMsg ?_; intro g3 w3 hx3 hb3 hg3 hl3; refine stop ?_))
  unfold Stop
  refine ev_setAll rfl 41 (.tmp 3) (.tmp 14) rfl rfl (vs := m.base0.arr) hx3 rfl (oneMsg _) sizeMsg rfl ?_
  intro w4 hx4 hp4
  have hn1 : g1 ≠ g3 := by omega
  have hn2 : g2 ≠ g3 := by omega
  have hx14 := (hx1'.below hb3).put hp4 hn1
  have hx24 := (hx2.below hb3).put hp4 hn2
  have HB := Put.below (bl_then (bl_then hb1 hb2) hb3) hp4 (by have := hb1.size; have := hb2.size; omega)
  have hge : w.heap.size ≤ g2 := by have := hb1.size; omega
  have hge3 : w.heap.size ≤ g3 := by have := hb1.size; have := hb2.size; omega
  clear hc1 hx1 hx2 hx3 hx1' hb1 hb2 hb3 hp4 hg1 hl1 hg2 hl2 hg3 hl3 hn1
  have hc1 := hx14.cell
  have hc4 := hx4.cell
  have hf4 := hx4.frozen
  go_wp2
  go_region
  go_wp2_with (first | ((with_reducible refine gate (N := 50) rfl ?_); refine stop ?_))
  unfold Stop
  clear hc1 hc4 hf4
  have hs0 := Box.set_ hx4 4 (.int .i64 m.base.boot) (cs' := (⟨m.kind, m.src, m.dst, m.vol, ⟨m.base.boot, 0⟩, ⟨0, 0⟩, 0, 0, m.seen, ⟨#[]⟩⟩ : Msg).arr) rfl
  have hs1 := Box.set_ hs0 5 (.int .i64 m.base.n) (cs' := (⟨m.kind, m.src, m.dst, m.vol, ⟨m.base.boot, m.base.n⟩, ⟨0, 0⟩, 0, 0, m.seen, ⟨#[]⟩⟩ : Msg).arr) rfl
  have hs2 := Box.set_ hs1 6 (.int .i64 m.mark.boot) (cs' := (⟨m.kind, m.src, m.dst, m.vol, ⟨m.base.boot, m.base.n⟩, ⟨m.mark.boot, 0⟩, 0, 0, m.seen, ⟨#[]⟩⟩ : Msg).arr) rfl
  have hs3 := Box.set_ hs2 7 (.int .i64 m.mark.n) (cs' := (⟨m.kind, m.src, m.dst, m.vol, ⟨m.base.boot, m.base.n⟩, ⟨m.mark.boot, m.mark.n⟩, 0, 0, m.seen, ⟨#[]⟩⟩ : Msg).arr) rfl
  have hs4 := Box.set_ hs3 8 (.int .i64 m.index) (cs' := (⟨m.kind, m.src, m.dst, m.vol, ⟨m.base.boot, m.base.n⟩, ⟨m.mark.boot, m.mark.n⟩, m.index, 0, m.seen, ⟨#[]⟩⟩ : Msg).arr) rfl
  have hs5 := Box.set_ hs4 9 (.int .i64 m.total) (cs' := (⟨m.kind, m.src, m.dst, m.vol, ⟨m.base.boot, m.base.n⟩, ⟨m.mark.boot, m.mark.n⟩, m.index, m.total, m.seen, ⟨#[]⟩⟩ : Msg).arr) rfl
  have hs6 := Box.set_ hs5 18 (.string m.data) (cs' := (⟨m.kind, m.src, m.dst, m.vol, ⟨m.base.boot, m.base.n⟩, ⟨m.mark.boot, m.mark.n⟩, m.index, m.total, m.seen, m.data⟩ : Msg).arr) rfl
  have hs24 := (((((((hx24.put (Box.setPut _ g3 4 (.int .i64 m.base.boot)) hn2).put (Box.setPut _ g3 5 (.int .i64 m.base.n)) hn2).put (Box.setPut _ g3 6 (.int .i64 m.mark.boot)) hn2).put (Box.setPut _ g3 7 (.int .i64 m.mark.n)) hn2).put (Box.setPut _ g3 8 (.int .i64 m.index)) hn2).put (Box.setPut _ g3 9 (.int .i64 m.total)) hn2).put (Box.setPut _ g3 18 (.string m.data)) hn2)
  have HB5 : Below w.heap.size w (((((((w4.setCell ⟨g3, 4, none⟩ (.int .i64 m.base.boot)).setCell ⟨g3, 5, none⟩ (.int .i64 m.base.n)).setCell ⟨g3, 6, none⟩ (.int .i64 m.mark.boot)).setCell ⟨g3, 7, none⟩ (.int .i64 m.mark.n)).setCell ⟨g3, 8, none⟩ (.int .i64 m.index)).setCell ⟨g3, 9, none⟩ (.int .i64 m.total)).setCell ⟨g3, 18, none⟩ (.string m.data)).drew := Below.drew (bl_set (bl_set (bl_set (bl_set (bl_set (bl_set (bl_set HB hge3 _) hge3 _) hge3 _) hge3 _) hge3 _) hge3 _) hge3 _)
  obtain ⟨w5, hw5⟩ : ∃ w5, w5 = (((((((w4.setCell ⟨g3, 4, none⟩ (.int .i64 m.base.boot)).setCell ⟨g3, 5, none⟩ (.int .i64 m.base.n)).setCell ⟨g3, 6, none⟩ (.int .i64 m.mark.boot)).setCell ⟨g3, 7, none⟩ (.int .i64 m.mark.n)).setCell ⟨g3, 8, none⟩ (.int .i64 m.index)).setCell ⟨g3, 9, none⟩ (.int .i64 m.total)).setCell ⟨g3, 18, none⟩ (.string m.data)).drew := ⟨_, rfl⟩
  have hx5 : Box w5 g3 (⟨m.kind, m.src, m.dst, m.vol, ⟨m.base.boot, m.base.n⟩, ⟨m.mark.boot, m.mark.n⟩, m.index, m.total, m.seen, m.data⟩ : Msg).arr 41 := by rw [hw5]; exact hs6.drew
  have hx25 : Box w5 g2 Msg.zero.arr 41 := by rw [hw5]; exact hs24.drew
  rw [← hw5] at HB5 ⊢
  clear hw5 hx4 hx24 HB hx14 hs24 hs0 hs1 hs2 hs3 hs4 hs5 hs6
  refine ev_load rfl 41 (.tmp 3) rfl rfl hx5 aggMsg sizeMsg ?_
  refine ev_setAll rfl 41 (.tmp 2) (.tmp 50) rfl rfl (vs := (⟨m.kind, m.src, m.dst, m.vol, ⟨m.base.boot, m.base.n⟩, ⟨m.mark.boot, m.mark.n⟩, m.index, m.total, m.seen, m.data⟩ : Msg).arr) hx25 rfl (oneMsg _) sizeMsg rfl ?_
  intro w6 hx6 hp6
  have HB6 := Put.below HB5 hp6 hge
  clear hx5 hx25 hp6 HB5
  go_wp2
  refine bodyPost_ret (results_cell_row rfl _ w6 g2 41 (⟨m.kind, m.src, m.dst, m.vol, ⟨m.base.boot, m.base.n⟩, ⟨m.mark.boot, m.mark.n⟩, m.index, m.total, m.seen, m.data⟩ : Msg).arr (0, 0) _ rfl hx6 Tryd.underlying41 rfl sizeMsg) rfl ⟨rfl, HB6⟩
theorem msg_bare4 (m : Msg) (w : World) (h4 : m.kind = 4) :
    Calls Tryd.prog 19 #[m.val] w fun e w' => e = .returned m.bare.val ∧ Below w.heap.size w w' := by
  have HE : Hid (m.bare = (⟨m.kind, m.src, m.dst, m.vol, ⟨0, 0⟩, ⟨m.mark.boot, m.mark.n⟩, 0, 0, m.seen, ⟨#[]⟩⟩ : Msg)) := Lib.hid (by simp [Msg.bare, h4])
  have b1 : (m.kind == 1) = false := by simp [h4]
  have b2 : (m.kind == 2) = false := by simp [h4]
  have b4 : (m.kind == 4) = true := by simp [h4]
  clear h4
  rw [HE.out]
  clear HE
  go_enter Tryd.func19, Tryd.ntmps19
  go_wp2_with (first
    | ((with_reducible refine gate (N := 1) rfl ?_); refine ev_box rfl 41 (.tmp 0) rfl (cs := m.arr) rfl ?_; intro g1 w1 hx1 hb1 hg1 hl1)
    | ((with_reducible refine gate (N := 2) rfl ?_); refine ev_alloc rfl 41 rfl (cs := Msg.zero.arr) zeroMsg ?_; intro g2 w2 hx2 hb2 hg2 hl2; have hx1' := hx1.below hb2; have hc1 := hx1'.cell)
    | ((with_reducible refine gate (N := 3) rfl ?_); refine ev_alloc rfl 41 rfl (cs := Msg.zero.arr) zeroMsg ?_; intro g3 w3 hx3 hb3 hg3 hl3; refine stop ?_))
  unfold Stop
  refine ev_setAll rfl 41 (.tmp 3) (.tmp 14) rfl rfl (vs := m.base0.arr) hx3 rfl (oneMsg _) sizeMsg rfl ?_
  intro w4 hx4 hp4
  have hn1 : g1 ≠ g3 := by omega
  have hn2 : g2 ≠ g3 := by omega
  have hx14 := (hx1'.below hb3).put hp4 hn1
  have hx24 := (hx2.below hb3).put hp4 hn2
  have HB := Put.below (bl_then (bl_then hb1 hb2) hb3) hp4 (by have := hb1.size; have := hb2.size; omega)
  have hge : w.heap.size ≤ g2 := by have := hb1.size; omega
  have hge3 : w.heap.size ≤ g3 := by have := hb1.size; have := hb2.size; omega
  clear hc1 hx1 hx2 hx3 hx1' hb1 hb2 hb3 hp4 hg1 hl1 hg2 hl2 hg3 hl3 hn1
  have hc1 := hx14.cell
  have hc4 := hx4.cell
  have hf4 := hx4.frozen
  go_wp2_with (first | ((with_reducible refine gate (N := 50) rfl ?_); refine stop ?_))
  unfold Stop
  clear hc1 hc4 hf4
  have hs0 := Box.set_ hx4 6 (.int .i64 m.mark.boot) (cs' := (⟨m.kind, m.src, m.dst, m.vol, ⟨0, 0⟩, ⟨m.mark.boot, 0⟩, 0, 0, m.seen, ⟨#[]⟩⟩ : Msg).arr) rfl
  have hs1 := Box.set_ hs0 7 (.int .i64 m.mark.n) (cs' := (⟨m.kind, m.src, m.dst, m.vol, ⟨0, 0⟩, ⟨m.mark.boot, m.mark.n⟩, 0, 0, m.seen, ⟨#[]⟩⟩ : Msg).arr) rfl
  have hs24 := ((hx24.put (Box.setPut _ g3 6 (.int .i64 m.mark.boot)) hn2).put (Box.setPut _ g3 7 (.int .i64 m.mark.n)) hn2)
  have HB5 : Below w.heap.size w ((w4.setCell ⟨g3, 6, none⟩ (.int .i64 m.mark.boot)).setCell ⟨g3, 7, none⟩ (.int .i64 m.mark.n)) := (bl_set (bl_set HB hge3 _) hge3 _)
  obtain ⟨w5, hw5⟩ : ∃ w5, w5 = ((w4.setCell ⟨g3, 6, none⟩ (.int .i64 m.mark.boot)).setCell ⟨g3, 7, none⟩ (.int .i64 m.mark.n)) := ⟨_, rfl⟩
  have hx5 : Box w5 g3 (⟨m.kind, m.src, m.dst, m.vol, ⟨0, 0⟩, ⟨m.mark.boot, m.mark.n⟩, 0, 0, m.seen, ⟨#[]⟩⟩ : Msg).arr 41 := by rw [hw5]; exact hs1
  have hx25 : Box w5 g2 Msg.zero.arr 41 := by rw [hw5]; exact hs24
  rw [← hw5] at HB5 ⊢
  clear hw5 hx4 hx24 HB hx14 hs24 hs0 hs1
  refine ev_load rfl 41 (.tmp 3) rfl rfl hx5 aggMsg sizeMsg ?_
  refine ev_setAll rfl 41 (.tmp 2) (.tmp 50) rfl rfl (vs := (⟨m.kind, m.src, m.dst, m.vol, ⟨0, 0⟩, ⟨m.mark.boot, m.mark.n⟩, 0, 0, m.seen, ⟨#[]⟩⟩ : Msg).arr) hx25 rfl (oneMsg _) sizeMsg rfl ?_
  intro w6 hx6 hp6
  have HB6 := Put.below HB5 hp6 hge
  clear hx5 hx25 hp6 HB5
  go_wp2
  refine bodyPost_ret (results_cell_row rfl _ w6 g2 41 (⟨m.kind, m.src, m.dst, m.vol, ⟨0, 0⟩, ⟨m.mark.boot, m.mark.n⟩, 0, 0, m.seen, ⟨#[]⟩⟩ : Msg).arr (0, 0) _ rfl hx6 Tryd.underlying41 rfl sizeMsg) rfl ⟨rfl, HB6⟩
theorem msg_bare3 (m : Msg) (w : World) (h1 : ¬ m.kind = 1) (h2 : ¬ m.kind = 2) (h4 : ¬ m.kind = 4) :
    Calls Tryd.prog 19 #[m.val] w fun e w' => e = .returned m.bare.val ∧ Below w.heap.size w w' := by
  have HE : Hid (m.bare = (⟨m.kind, m.src, m.dst, m.vol, ⟨0, 0⟩, ⟨0, 0⟩, 0, 0, m.seen, ⟨#[]⟩⟩ : Msg)) := Lib.hid (by simp [Msg.bare, h1, h2, h4])
  have b1 : (m.kind == 1) = false := by simp [h1]
  have b2 : (m.kind == 2) = false := by simp [h2]
  have b4 : (m.kind == 4) = false := by simp [h4]
  clear h1 h2 h4
  rw [HE.out]
  clear HE
  go_enter Tryd.func19, Tryd.ntmps19
  go_wp2_with (first
    | ((with_reducible refine gate (N := 1) rfl ?_); refine ev_box rfl 41 (.tmp 0) rfl (cs := m.arr) rfl ?_; intro g1 w1 hx1 hb1 hg1 hl1)
    | ((with_reducible refine gate (N := 2) rfl ?_); refine ev_alloc rfl 41 rfl (cs := Msg.zero.arr) zeroMsg ?_; intro g2 w2 hx2 hb2 hg2 hl2; have hx1' := hx1.below hb2; have hc1 := hx1'.cell)
    | ((with_reducible refine gate (N := 3) rfl ?_); refine ev_alloc rfl 41 rfl (cs := Msg.zero.arr) zeroMsg ?_; intro g3 w3 hx3 hb3 hg3 hl3; refine stop ?_))
  unfold Stop
  refine ev_setAll rfl 41 (.tmp 3) (.tmp 14) rfl rfl (vs := m.base0.arr) hx3 rfl (oneMsg _) sizeMsg rfl ?_
  intro w4 hx4 hp4
  have hn1 : g1 ≠ g3 := by omega
  have hn2 : g2 ≠ g3 := by omega
  have hx14 := (hx1'.below hb3).put hp4 hn1
  have hx24 := (hx2.below hb3).put hp4 hn2
  have HB := Put.below (bl_then (bl_then hb1 hb2) hb3) hp4 (by have := hb1.size; have := hb2.size; omega)
  have hge : w.heap.size ≤ g2 := by have := hb1.size; omega
  have hge3 : w.heap.size ≤ g3 := by have := hb1.size; have := hb2.size; omega
  clear hc1 hx1 hx2 hx3 hx1' hb1 hb2 hb3 hp4 hg1 hl1 hg2 hl2 hg3 hl3 hn1
  have hc1 := hx14.cell
  have hc4 := hx4.cell
  have hf4 := hx4.frozen
  go_wp2_with (first | ((with_reducible refine gate (N := 50) rfl ?_); refine stop ?_))
  unfold Stop
  clear hc1 hc4 hf4
  have hs24 := hx24
  have HB5 : Below w.heap.size w w4 := HB
  obtain ⟨w5, hw5⟩ : ∃ w5, w5 = w4 := ⟨_, rfl⟩
  have hx5 : Box w5 g3 (⟨m.kind, m.src, m.dst, m.vol, ⟨0, 0⟩, ⟨0, 0⟩, 0, 0, m.seen, ⟨#[]⟩⟩ : Msg).arr 41 := by rw [hw5]; exact hx4
  have hx25 : Box w5 g2 Msg.zero.arr 41 := by rw [hw5]; exact hs24
  rw [← hw5] at HB5 ⊢
  clear hw5 hx4 hx24 HB hx14 hs24
  refine ev_load rfl 41 (.tmp 3) rfl rfl hx5 aggMsg sizeMsg ?_
  refine ev_setAll rfl 41 (.tmp 2) (.tmp 50) rfl rfl (vs := (⟨m.kind, m.src, m.dst, m.vol, ⟨0, 0⟩, ⟨0, 0⟩, 0, 0, m.seen, ⟨#[]⟩⟩ : Msg).arr) hx25 rfl (oneMsg _) sizeMsg rfl ?_
  intro w6 hx6 hp6
  have HB6 := Put.below HB5 hp6 hge
  clear hx5 hx25 hp6 HB5
  go_wp2
  refine bodyPost_ret (results_cell_row rfl _ w6 g2 41 (⟨m.kind, m.src, m.dst, m.vol, ⟨0, 0⟩, ⟨0, 0⟩, 0, 0, m.seen, ⟨#[]⟩⟩ : Msg).arr (0, 0) _ rfl hx6 Tryd.underlying41 rfl sizeMsg) rfl ⟨rfl, HB6⟩

theorem msg_bare (m : Msg) (w : World) :
    Calls Tryd.prog 19 #[m.val] w fun e w' => e = .returned m.bare.val ∧ Below w.heap.size w w' := by
  by_cases h1 : m.kind = 1
  · exact msg_bare1 m w h1
  · by_cases h2 : m.kind = 2
    · exact msg_bare2 m w h2
    · by_cases h4 : m.kind = 4
      · exact msg_bare4 m w h4
      · exact msg_bare3 m w h1 h2 h4
end Go.Proofs.YtbkffeabikjnhaaDoor
