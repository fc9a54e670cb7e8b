/- Messages: Check, behind its head. -/
import Derived.Test.YtbkffeabikjnhaaDoorChk
namespace Go.Proofs.YtbkffeabikjnhaaDoor
open Go.RowKit

def Msg.kindOk (m : Msg) : Bool :=
  if m.kind = 1 then decide (0 ≤ m.index ∧ m.index < 4096 ∧ (m.mark = ⟨0, 0⟩ → m.index = 0))
  else if m.kind = 2 then decide (m.mark ≠ ⟨0, 0⟩ ∧ 1 ≤ m.total ∧ m.total ≤ 4096 ∧ 0 ≤ m.index ∧ m.index < m.total ∧ 1 ≤ m.data.size ∧ m.data.size ≤ 512)
  else if m.kind = 4 then decide (m.mark ≠ ⟨0, 0⟩)
  else true
def Msg.kcode (m : Msg) : Int := if m.kindOk = true then 0 else 201
theorem ba_empty (s : ByteArray) : s.toList = [] ↔ s.size = 0 := by
  rw [ByteArray.toList_eq]
  obtain ⟨⟨l⟩⟩ := s
  simp [ByteArray.size]
def Msg.mid (m : Msg) : Bool := m.seen.good && (m.base.ok && (m.mark.ok && decide (m = m.bare)))
def Msg.ok (m : Msg) : Bool := m.head && (m.mid && m.kindOk)
set_option maxHeartbeats 1000000 in
set_option maxRecDepth 100000 in
theorem check_mid1 (m : Msg) (w : World) (h : m.head = true) (h1 : (m.seen.good) = false) :
    Calls Tryd.prog 17 #[m.val] w fun e w' => e = .returned (.int .i64 201) ∧ Below w.heap.size w w' := by
  have hh : 1 ≤ m.kind ∧ m.kind ≤ 4 ∧ 0 ≤ m.src ∧ m.src < 8 ∧ 0 ≤ m.dst ∧ m.dst < 8 ∧ m.src ≠ m.dst ∧ 0 ≤ m.vol ∧ m.vol < 3 := by simpa [Msg.head] using h
  obtain ⟨a1, a2, a3, a4, a5, a6, a7, a8, a9⟩ := hh
  have hb : (m.src != m.dst) = true := by simp [a7]
  clear h
  go_enter Tryd.func17, Tryd.ntmps17
  go_wp2_with (first
    | ((with_reducible refine gate (N := 1) rfl ?_); refine ev_box rfl 41 (.tmp 0) rfl (cs := m.arr) rfl ?_; intro g1 w1 hx1 hb1 hg1 hl1; obtain ⟨c0, c1, c2, c3, c4, c5, c6, c7, c8, c9, c10, c11, c12, c13, c14, c15, c16, c17, c18⟩ := msgCells hx1))
  clear hb a1 a2 a3 a4 a5 a6 a7 a8 a9
  refine wp_region_ext (by kernel_rfl) (by kernel_rfl) ?_
  repeat (first | (go_big_quiet_want; refine quiet_load 41 (.tmp 1) rfl rfl hx1 aggMsg sizeMsg ?_; go_big_quiet_on; simp only [Act.put, List.setIfInBounds_toArray, List.set_cons_succ, List.set_cons_zero]) | go_big_quiet_step (first
    | (go_at_call 49; with_reducible exact calls_ext (vec_good m.seen _))
    | (go_at_call 50; with_reducible exact calls_ext (mark_ok m.base _))
    | (go_at_call 50; with_reducible exact calls_ext (mark_ok m.mark _))
    | (go_at_call 19; with_reducible exact calls_ext (msg_bare m _))
    | (go_at_call 51; with_reducible exact calls_ext (msg_same m m.bare _))))
  refine wpQuiet_nil ?_
  rintro _ ⟨⟨w2, hb2⟩, rfl⟩
  go_wp2
  go_ret
  exact ⟨rfl, bl_then hb1 hb2⟩
set_option maxHeartbeats 1000000 in
set_option maxRecDepth 100000 in
theorem check_mid2 (m : Msg) (w : World) (h : m.head = true) (h1 : (m.seen.good) = true) (h2 : (m.base.ok) = false) :
    Calls Tryd.prog 17 #[m.val] w fun e w' => e = .returned (.int .i64 201) ∧ Below w.heap.size w w' := by
  have hh : 1 ≤ m.kind ∧ m.kind ≤ 4 ∧ 0 ≤ m.src ∧ m.src < 8 ∧ 0 ≤ m.dst ∧ m.dst < 8 ∧ m.src ≠ m.dst ∧ 0 ≤ m.vol ∧ m.vol < 3 := by simpa [Msg.head] using h
  obtain ⟨a1, a2, a3, a4, a5, a6, a7, a8, a9⟩ := hh
  have hb : (m.src != m.dst) = true := by simp [a7]
  clear h
  go_enter Tryd.func17, Tryd.ntmps17
  go_wp2_with (first
    | ((with_reducible refine gate (N := 1) rfl ?_); refine ev_box rfl 41 (.tmp 0) rfl (cs := m.arr) rfl ?_; intro g1 w1 hx1 hb1 hg1 hl1; obtain ⟨c0, c1, c2, c3, c4, c5, c6, c7, c8, c9, c10, c11, c12, c13, c14, c15, c16, c17, c18⟩ := msgCells hx1))
  clear hb a1 a2 a3 a4 a5 a6 a7 a8 a9
  refine wp_region_ext (by kernel_rfl) (by kernel_rfl) ?_
  repeat (first | (go_big_quiet_want; refine quiet_load 41 (.tmp 1) rfl rfl hx1 aggMsg sizeMsg ?_; go_big_quiet_on; simp only [Act.put, List.setIfInBounds_toArray, List.set_cons_succ, List.set_cons_zero]) | go_big_quiet_step (first
    | (go_at_call 49; with_reducible exact calls_ext (vec_good m.seen _))
    | (go_at_call 50; with_reducible exact calls_ext (mark_ok m.base _))
    | (go_at_call 50; with_reducible exact calls_ext (mark_ok m.mark _))
    | (go_at_call 19; with_reducible exact calls_ext (msg_bare m _))
    | (go_at_call 51; with_reducible exact calls_ext (msg_same m m.bare _))))
  refine wpQuiet_nil ?_
  rintro _ ⟨⟨w2, hb2⟩, rfl⟩
  go_wp2
  go_ret
  exact ⟨rfl, bl_then hb1 hb2⟩
set_option maxHeartbeats 1000000 in
set_option maxRecDepth 100000 in
theorem check_mid3 (m : Msg) (w : World) (h : m.head = true) (h1 : (m.seen.good) = true) (h2 : (m.base.ok) = true) (h3 : (m.mark.ok) = false) :
    Calls Tryd.prog 17 #[m.val] w fun e w' => e = .returned (.int .i64 201) ∧ Below w.heap.size w w' := by
  have hh : 1 ≤ m.kind ∧ m.kind ≤ 4 ∧ 0 ≤ m.src ∧ m.src < 8 ∧ 0 ≤ m.dst ∧ m.dst < 8 ∧ m.src ≠ m.dst ∧ 0 ≤ m.vol ∧ m.vol < 3 := by simpa [Msg.head] using h
  obtain ⟨a1, a2, a3, a4, a5, a6, a7, a8, a9⟩ := hh
  have hb : (m.src != m.dst) = true := by simp [a7]
  clear h
  go_enter Tryd.func17, Tryd.ntmps17
  go_wp2_with (first
    | ((with_reducible refine gate (N := 1) rfl ?_); refine ev_box rfl 41 (.tmp 0) rfl (cs := m.arr) rfl ?_; intro g1 w1 hx1 hb1 hg1 hl1; obtain ⟨c0, c1, c2, c3, c4, c5, c6, c7, c8, c9, c10, c11, c12, c13, c14, c15, c16, c17, c18⟩ := msgCells hx1))
  clear hb a1 a2 a3 a4 a5 a6 a7 a8 a9
  refine wp_region_ext (by kernel_rfl) (by kernel_rfl) ?_
  repeat (first | (go_big_quiet_want; refine quiet_load 41 (.tmp 1) rfl rfl hx1 aggMsg sizeMsg ?_; go_big_quiet_on; simp only [Act.put, List.setIfInBounds_toArray, List.set_cons_succ, List.set_cons_zero]) | go_big_quiet_step (first
    | (go_at_call 49; with_reducible exact calls_ext (vec_good m.seen _))
    | (go_at_call 50; with_reducible exact calls_ext (mark_ok m.base _))
    | (go_at_call 50; with_reducible exact calls_ext (mark_ok m.mark _))
    | (go_at_call 19; with_reducible exact calls_ext (msg_bare m _))
    | (go_at_call 51; with_reducible exact calls_ext (msg_same m m.bare _))))
  refine wpQuiet_nil ?_
  rintro _ ⟨⟨w2, hb2⟩, rfl⟩
  go_wp2
  go_ret
  exact ⟨rfl, bl_then hb1 hb2⟩
set_option maxHeartbeats 1000000 in
set_option maxRecDepth 100000 in
theorem check_mid4 (m : Msg) (w : World) (h : m.head = true) (h1 : (m.seen.good) = true) (h2 : (m.base.ok) = true) (h3 : (m.mark.ok) = true) (h4 : (decide (m = m.bare)) = false) :
    Calls Tryd.prog 17 #[m.val] w fun e w' => e = .returned (.int .i64 201) ∧ Below w.heap.size w w' := by
  have hh : 1 ≤ m.kind ∧ m.kind ≤ 4 ∧ 0 ≤ m.src ∧ m.src < 8 ∧ 0 ≤ m.dst ∧ m.dst < 8 ∧ m.src ≠ m.dst ∧ 0 ≤ m.vol ∧ m.vol < 3 := by simpa [Msg.head] using h
  obtain ⟨a1, a2, a3, a4, a5, a6, a7, a8, a9⟩ := hh
  have hb : (m.src != m.dst) = true := by simp [a7]
  clear h
  go_enter Tryd.func17, Tryd.ntmps17
  go_wp2_with (first
    | ((with_reducible refine gate (N := 1) rfl ?_); refine ev_box rfl 41 (.tmp 0) rfl (cs := m.arr) rfl ?_; intro g1 w1 hx1 hb1 hg1 hl1; obtain ⟨c0, c1, c2, c3, c4, c5, c6, c7, c8, c9, c10, c11, c12, c13, c14, c15, c16, c17, c18⟩ := msgCells hx1))
  clear hb a1 a2 a3 a4 a5 a6 a7 a8 a9
  refine wp_region_ext (by kernel_rfl) (by kernel_rfl) ?_
  repeat (first | (go_big_quiet_want; refine quiet_load 41 (.tmp 1) rfl rfl hx1 aggMsg sizeMsg ?_; go_big_quiet_on; simp only [Act.put, List.setIfInBounds_toArray, List.set_cons_succ, List.set_cons_zero]) | go_big_quiet_step (first
    | (go_at_call 49; with_reducible exact calls_ext (vec_good m.seen _))
    | (go_at_call 50; with_reducible exact calls_ext (mark_ok m.base _))
    | (go_at_call 50; with_reducible exact calls_ext (mark_ok m.mark _))
    | (go_at_call 19; with_reducible exact calls_ext (msg_bare m _))
    | (go_at_call 51; with_reducible exact calls_ext (msg_same m m.bare _))))
  refine wpQuiet_nil ?_
  rintro _ ⟨⟨w2, hb2⟩, rfl⟩
  go_wp2
  go_ret
  exact ⟨rfl, bl_then hb1 hb2⟩
set_option maxHeartbeats 1000000 in
set_option maxRecDepth 100000 in
theorem check_kind1 (m : Msg) (w : World) (h : m.head = true) (h1 : (m.seen.good) = true) (h2 : (m.base.ok) = true) (h3 : (m.mark.ok) = true) (h4 : (decide (m = m.bare)) = true) (hk : m.kind = 1) (z : Bool) (hz : decide (m.mark = ⟨0, 0⟩) = z) :
    Calls Tryd.prog 17 #[m.val] w fun e w' => e = .returned (.int .i64 m.kcode) ∧ Below w.heap.size w w' := by
  have b1 : (m.kind == 1) = true := by simp [hk]
  have HK := Lib.hid hk
  have HZ := Lib.hid hz
  have HD := Lib.hid (ba_empty m.data)
  have hme := mark_eq m.mark ⟨0, 0⟩
  rw [hz] at hme
  simp only [Mk.val] at hme
  clear hk hz
  have hh : 1 ≤ m.kind ∧ m.kind ≤ 4 ∧ 0 ≤ m.src ∧ m.src < 8 ∧ 0 ≤ m.dst ∧ m.dst < 8 ∧ m.src ≠ m.dst ∧ 0 ≤ m.vol ∧ m.vol < 3 := by simpa [Msg.head] using h
  obtain ⟨a1, a2, a3, a4, a5, a6, a7, a8, a9⟩ := hh
  have hb : (m.src != m.dst) = true := by simp [a7]
  clear h
  go_enter Tryd.func17, Tryd.ntmps17
  go_wp2_with (first
    | ((with_reducible refine gate (N := 1) rfl ?_); refine ev_box rfl 41 (.tmp 0) rfl (cs := m.arr) rfl ?_; intro g1 w1 hx1 hb1 hg1 hl1; obtain ⟨c0, c1, c2, c3, c4, c5, c6, c7, c8, c9, c10, c11, c12, c13, c14, c15, c16, c17, c18⟩ := msgCells hx1))
  clear hb a1 a2 a3 a4 a5 a6 a7 a8 a9
  refine wp_region_ext (by kernel_rfl) (by kernel_rfl) ?_
  repeat (first | (go_big_quiet_want; refine quiet_load 41 (.tmp 1) rfl rfl hx1 aggMsg sizeMsg ?_; go_big_quiet_on; simp only [Act.put, List.setIfInBounds_toArray, List.set_cons_succ, List.set_cons_zero]) | go_big_quiet_step (first
    | (go_at_call 49; with_reducible exact calls_ext (vec_good m.seen _))
    | (go_at_call 50; with_reducible exact calls_ext (mark_ok m.base _))
    | (go_at_call 50; with_reducible exact calls_ext (mark_ok m.mark _))
    | (go_at_call 19; with_reducible exact calls_ext (msg_bare m _))
    | (go_at_call 51; with_reducible exact calls_ext (msg_same m m.bare _))))
  refine wpQuiet_nil ?_
  rintro _ ⟨⟨w2, hb2⟩, rfl⟩
  have d0 := (hx1.below hb2)
  clear c0 c1 c2 c3 c4 c5 c6 c7 c8 c9 c10 c11 c12 c13 c14 c15 c16 c17 c18
  obtain ⟨c0, c1, c2, c3, c4, c5, c6, c7, c8, c9, c10, c11, c12, c13, c14, c15, c16, c17, c18⟩ := msgCells d0
  clear hx1 h1 h2 h3 h4
  cases z
  all_goals go_wp2
  all_goals go_ret
  all_goals refine ⟨congrArg (fun n => Ending.returned (Value.int .i64 n)) ?_, bl_then hb1 hb2⟩
  all_goals clear c0 c1 c2 c3 c4 c5 c6 c7 c8 c9 c10 c11 c12 c13 c14 c15 c16 c17 c18 d0 hb1 hb2 hg1 hl1
  all_goals
    have e0 := HK.out
    have e1 := HZ.out
    have e2 := HD.out
    simp only [decide_eq_true_eq, decide_eq_false_iff_not] at e1
    unfold Msg.kcode Msg.kindOk
    simp [e0, e1]
  all_goals (try simp only [bne_iff_ne, ne_eq, bne_eq_false_iff_eq] at *)
  all_goals (try simp only [e2] at *)
  all_goals (try omega)
set_option maxHeartbeats 1000000 in
set_option maxRecDepth 100000 in
theorem check_kind2 (m : Msg) (w : World) (h : m.head = true) (h1 : (m.seen.good) = true) (h2 : (m.base.ok) = true) (h3 : (m.mark.ok) = true) (h4 : (decide (m = m.bare)) = true) (hk : m.kind = 2) (z : Bool) (hz : decide (m.mark = ⟨0, 0⟩) = z) :
    Calls Tryd.prog 17 #[m.val] w fun e w' => e = .returned (.int .i64 m.kcode) ∧ Below w.heap.size w w' := by
  have b1 : (m.kind == 1) = false := by simp [hk]
  have b2 : (m.kind == 2) = true := by simp [hk]
  have HK := Lib.hid hk
  have HZ := Lib.hid hz
  have HD := Lib.hid (ba_empty m.data)
  have hme := mark_eq m.mark ⟨0, 0⟩
  rw [hz] at hme
  simp only [Mk.val] at hme
  clear hk hz
  have hh : 1 ≤ m.kind ∧ m.kind ≤ 4 ∧ 0 ≤ m.src ∧ m.src < 8 ∧ 0 ≤ m.dst ∧ m.dst < 8 ∧ m.src ≠ m.dst ∧ 0 ≤ m.vol ∧ m.vol < 3 := by simpa [Msg.head] using h
  obtain ⟨a1, a2, a3, a4, a5, a6, a7, a8, a9⟩ := hh
  have hb : (m.src != m.dst) = true := by simp [a7]
  clear h
  go_enter Tryd.func17, Tryd.ntmps17
  go_wp2_with (first
    | ((with_reducible refine gate (N := 1) rfl ?_); refine ev_box rfl 41 (.tmp 0) rfl (cs := m.arr) rfl ?_; intro g1 w1 hx1 hb1 hg1 hl1; obtain ⟨c0, c1, c2, c3, c4, c5, c6, c7, c8, c9, c10, c11, c12, c13, c14, c15, c16, c17, c18⟩ := msgCells hx1))
  clear hb a1 a2 a3 a4 a5 a6 a7 a8 a9
  refine wp_region_ext (by kernel_rfl) (by kernel_rfl) ?_
  repeat (first | (go_big_quiet_want; refine quiet_load 41 (.tmp 1) rfl rfl hx1 aggMsg sizeMsg ?_; go_big_quiet_on; simp only [Act.put, List.setIfInBounds_toArray, List.set_cons_succ, List.set_cons_zero]) | go_big_quiet_step (first
    | (go_at_call 49; with_reducible exact calls_ext (vec_good m.seen _))
    | (go_at_call 50; with_reducible exact calls_ext (mark_ok m.base _))
    | (go_at_call 50; with_reducible exact calls_ext (mark_ok m.mark _))
    | (go_at_call 19; with_reducible exact calls_ext (msg_bare m _))
    | (go_at_call 51; with_reducible exact calls_ext (msg_same m m.bare _))))
  refine wpQuiet_nil ?_
  rintro _ ⟨⟨w2, hb2⟩, rfl⟩
  have d0 := (hx1.below hb2)
  clear c0 c1 c2 c3 c4 c5 c6 c7 c8 c9 c10 c11 c12 c13 c14 c15 c16 c17 c18
  obtain ⟨c0, c1, c2, c3, c4, c5, c6, c7, c8, c9, c10, c11, c12, c13, c14, c15, c16, c17, c18⟩ := msgCells d0
  clear hx1 h1 h2 h3 h4
  cases z
  all_goals go_wp2
  all_goals go_ret
  all_goals refine ⟨congrArg (fun n => Ending.returned (Value.int .i64 n)) ?_, bl_then hb1 hb2⟩
  all_goals clear c0 c1 c2 c3 c4 c5 c6 c7 c8 c9 c10 c11 c12 c13 c14 c15 c16 c17 c18 d0 hb1 hb2 hg1 hl1
  all_goals
    have e0 := HK.out
    have e1 := HZ.out
    have e2 := HD.out
    simp only [decide_eq_true_eq, decide_eq_false_iff_not] at e1
    unfold Msg.kcode Msg.kindOk
    simp [e0, e1]
  all_goals (try simp only [ne_eq, List.isEmpty_iff, List.isEmpty_eq_false_iff] at *)
  all_goals (try simp only [e2] at *)
  all_goals (try omega)
set_option maxHeartbeats 1000000 in
set_option maxRecDepth 100000 in
theorem check_kind4 (m : Msg) (w : World) (h : m.head = true) (h1 : (m.seen.good) = true) (h2 : (m.base.ok) = true) (h3 : (m.mark.ok) = true) (h4 : (decide (m = m.bare)) = true) (hk : m.kind = 4) (z : Bool) (hz : decide (m.mark = ⟨0, 0⟩) = z) :
    Calls Tryd.prog 17 #[m.val] w fun e w' => e = .returned (.int .i64 m.kcode) ∧ Below w.heap.size w w' := by
  have b1 : (m.kind == 1) = false := by simp [hk]
  have b2 : (m.kind == 2) = false := by simp [hk]
  have b4 : (m.kind == 4) = true := by simp [hk]
  have HK := Lib.hid hk
  have HZ := Lib.hid hz
  have HD := Lib.hid (ba_empty m.data)
  have hme := mark_eq m.mark ⟨0, 0⟩
  rw [hz] at hme
  simp only [Mk.val] at hme
  clear hk hz
  have hh : 1 ≤ m.kind ∧ m.kind ≤ 4 ∧ 0 ≤ m.src ∧ m.src < 8 ∧ 0 ≤ m.dst ∧ m.dst < 8 ∧ m.src ≠ m.dst ∧ 0 ≤ m.vol ∧ m.vol < 3 := by simpa [Msg.head] using h
  obtain ⟨a1, a2, a3, a4, a5, a6, a7, a8, a9⟩ := hh
  have hb : (m.src != m.dst) = true := by simp [a7]
  clear h
  go_enter Tryd.func17, Tryd.ntmps17
  go_wp2_with (first
    | ((with_reducible refine gate (N := 1) rfl ?_); refine ev_box rfl 41 (.tmp 0) rfl (cs := m.arr) rfl ?_; intro g1 w1 hx1 hb1 hg1 hl1; obtain ⟨c0, c1, c2, c3, c4, c5, c6, c7, c8, c9, c10, c11, c12, c13, c14, c15, c16, c17, c18⟩ := msgCells hx1))
  clear hb a1 a2 a3 a4 a5 a6 a7 a8 a9
  refine wp_region_ext (by kernel_rfl) (by kernel_rfl) ?_
  repeat (first | (go_big_quiet_want; refine quiet_load 41 (.tmp 1) rfl rfl hx1 aggMsg sizeMsg ?_; go_big_quiet_on; simp only [Act.put, List.setIfInBounds_toArray, List.set_cons_succ, List.set_cons_zero]) | go_big_quiet_step (first
    | (go_at_call 49; with_reducible exact calls_ext (vec_good m.seen _))
    | (go_at_call 50; with_reducible exact calls_ext (mark_ok m.base _))
    | (go_at_call 50; with_reducible exact calls_ext (mark_ok m.mark _))
    | (go_at_call 19; with_reducible exact calls_ext (msg_bare m _))
    | (go_at_call 51; with_reducible exact calls_ext (msg_same m m.bare _))))
  refine wpQuiet_nil ?_
  rintro _ ⟨⟨w2, hb2⟩, rfl⟩
  have d0 := (hx1.below hb2)
  clear c0 c1 c2 c3 c4 c5 c6 c7 c8 c9 c10 c11 c12 c13 c14 c15 c16 c17 c18
  obtain ⟨c0, c1, c2, c3, c4, c5, c6, c7, c8, c9, c10, c11, c12, c13, c14, c15, c16, c17, c18⟩ := msgCells d0
  clear hx1 h1 h2 h3 h4
  cases z
  all_goals go_wp2
  all_goals go_ret
  all_goals refine ⟨congrArg (fun n => Ending.returned (Value.int .i64 n)) ?_, bl_then hb1 hb2⟩
  all_goals clear c0 c1 c2 c3 c4 c5 c6 c7 c8 c9 c10 c11 c12 c13 c14 c15 c16 c17 c18 d0 hb1 hb2 hg1 hl1
  all_goals
    have e0 := HK.out
    have e1 := HZ.out
    have e2 := HD.out
    simp only [decide_eq_true_eq, decide_eq_false_iff_not] at e1
    unfold Msg.kcode Msg.kindOk
    simp [e0, e1]
  all_goals (try simp only [bne_iff_ne, ne_eq, bne_eq_false_iff_eq, List.isEmpty_iff, List.isEmpty_eq_false_iff] at *)
  all_goals (try simp only [e2] at *)
  all_goals (try omega)
set_option maxHeartbeats 1000000 in
set_option maxRecDepth 100000 in
theorem check_kind3 (m : Msg) (w : World) (h : m.head = true) (h1 : (m.seen.good) = true) (h2 : (m.base.ok) = true) (h3 : (m.mark.ok) = true) (h4 : (decide (m = m.bare)) = true) (hk : m.kind = 3) (z : Bool) (hz : decide (m.mark = ⟨0, 0⟩) = z) :
    Calls Tryd.prog 17 #[m.val] w fun e w' => e = .returned (.int .i64 m.kcode) ∧ Below w.heap.size w w' := by
  have b1 : (m.kind == 1) = false := by simp [hk]
  have b2 : (m.kind == 2) = false := by simp [hk]
  have b4 : (m.kind == 4) = false := by simp [hk]
  have HK := Lib.hid hk
  have HZ := Lib.hid hz
  have HD := Lib.hid (ba_empty m.data)
  have hme := mark_eq m.mark ⟨0, 0⟩
  rw [hz] at hme
  simp only [Mk.val] at hme
  clear hk hz
  have hh : 1 ≤ m.kind ∧ m.kind ≤ 4 ∧ 0 ≤ m.src ∧ m.src < 8 ∧ 0 ≤ m.dst ∧ m.dst < 8 ∧ m.src ≠ m.dst ∧ 0 ≤ m.vol ∧ m.vol < 3 := by simpa [Msg.head] using h
  obtain ⟨a1, a2, a3, a4, a5, a6, a7, a8, a9⟩ := hh
  have hb : (m.src != m.dst) = true := by simp [a7]
  clear h
  go_enter Tryd.func17, Tryd.ntmps17
  go_wp2_with (first
    | ((with_reducible refine gate (N := 1) rfl ?_); refine ev_box rfl 41 (.tmp 0) rfl (cs := m.arr) rfl ?_; intro g1 w1 hx1 hb1 hg1 hl1; obtain ⟨c0, c1, c2, c3, c4, c5, c6, c7, c8, c9, c10, c11, c12, c13, c14, c15, c16, c17, c18⟩ := msgCells hx1))
  clear hb a1 a2 a3 a4 a5 a6 a7 a8 a9
  refine wp_region_ext (by kernel_rfl) (by kernel_rfl) ?_
  repeat (first | (go_big_quiet_want; refine quiet_load 41 (.tmp 1) rfl rfl hx1 aggMsg sizeMsg ?_; go_big_quiet_on; simp only [Act.put, List.setIfInBounds_toArray, List.set_cons_succ, List.set_cons_zero]) | go_big_quiet_step (first
    | (go_at_call 49; with_reducible exact calls_ext (vec_good m.seen _))
    | (go_at_call 50; with_reducible exact calls_ext (mark_ok m.base _))
    | (go_at_call 50; with_reducible exact calls_ext (mark_ok m.mark _))
    | (go_at_call 19; with_reducible exact calls_ext (msg_bare m _))
    | (go_at_call 51; with_reducible exact calls_ext (msg_same m m.bare _))))
  refine wpQuiet_nil ?_
  rintro _ ⟨⟨w2, hb2⟩, rfl⟩
  have d0 := (hx1.below hb2)
  clear c0 c1 c2 c3 c4 c5 c6 c7 c8 c9 c10 c11 c12 c13 c14 c15 c16 c17 c18
  obtain ⟨c0, c1, c2, c3, c4, c5, c6, c7, c8, c9, c10, c11, c12, c13, c14, c15, c16, c17, c18⟩ := msgCells d0
  clear hx1 h1 h2 h3 h4
  cases z
  all_goals go_wp2
  all_goals go_ret
  all_goals refine ⟨congrArg (fun n => Ending.returned (Value.int .i64 n)) ?_, bl_then hb1 hb2⟩
  all_goals clear c0 c1 c2 c3 c4 c5 c6 c7 c8 c9 c10 c11 c12 c13 c14 c15 c16 c17 c18 d0 hb1 hb2 hg1 hl1
  all_goals
    have e0 := HK.out
    have e1 := HZ.out
    have e2 := HD.out
    simp only [decide_eq_true_eq, decide_eq_false_iff_not] at e1
    unfold Msg.kcode Msg.kindOk
    simp [e0]
  all_goals (try simp only [bne_iff_ne, ne_eq, bne_eq_false_iff_eq, List.isEmpty_iff, List.isEmpty_eq_false_iff] at *)
  all_goals (try simp only [e2] at *)
  all_goals (try omega)
end Go.Proofs.YtbkffeabikjnhaaDoor
