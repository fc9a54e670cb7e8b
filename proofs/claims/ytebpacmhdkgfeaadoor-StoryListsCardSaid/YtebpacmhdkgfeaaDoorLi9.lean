/- Texts laid together: Sto10, Sto14, EqS, Awk29, Awk29b. -/
import Derived.Test.YtebpacmhdkgfeaaDoorLi8
/- Chapter 29: a link's line, the program's side. -/
namespace Go.Proofs.YtebpacmhdkgfeaaDoor
open Go.RowKit
set_option maxHeartbeats 1000000

theorem story_link111 (l : Lnk) (w : World) (hw : l.wf 100000000) (ht : Tb w) (h1 : decide (l.at_ = Mk.zero) = true) (h2 : decide (l.alive = V8.zero) = true) (h3 : decide (l.dead = V8.zero) = true) :
    Calls Tryd.prog 26 #[.agg l.cells.toArray] w fun e w' => e = .returned (.string l.line) ∧ Below w.heap.size w w' := by
  have hL := (Loc.nil w NoM).rowNil encS w.heap.size 9
  obtain ⟨hib, hin⟩ := hw.id
  obtain ⟨hpb, hpn⟩ := hw.parent
  have hnm := hw.name
  have n1 := stamp_nz l.at_
  have n2 := vec_nz l.alive
  have n3 := vec_nz l.dead
  rw [h1] at n1
  rw [h2] at n2
  rw [h3] at n3
  simp only [Bool.not_true, Bool.not_false] at n1 n2 n3
  have hs1 := l.id.text_size hib hin
  have hs2 := l.parent.text_size hpb hpn
  obtain ⟨PW, hPW⟩ : ∃ PW, PW = (⟨#[112, 108, 97, 99, 101, 58]⟩ : ByteArray) ++ l.parent.text ++ ⟨#[47]⟩ ++ l.name := ⟨_, rfl⟩
  have hPs : PW.size ≤ 1000000000 := by rw [hPW]; simp only [ByteArray.size_append, ByteArray.size_mk']; simp; omega
  have hws : l.ws = [] := by
    unfold Lnk.ws
    rw [← hPW]
    simp only [decide_eq_true_eq, decide_eq_false_iff_not] at h1 h2 h3
    simp [h1, h2, h3]
  have HW : Hid (∀ x ∈ ([] : List ByteArray), x.size ≤ 1000000000) := Lib.hid (by
    intro x hx
    simp only [List.mem_cons, List.not_mem_nil, or_false] at hx
    )
  have hJ : (joinB []).size ≤ 10000000000 := by
    have := joinB_le 1000000000 _ HW.out
    simp only [List.length_cons, List.length_nil] at this
    omega
  have HE := Lib.hid (show Lnk.line l = ⟨#[108, 105, 110, 107, 32]⟩ ++ l.id.text ++ ⟨#[32]⟩ ++ joinB [] from by unfold Lnk.line; rw [hws])
  clear hws h1 h2 h3 hw
  have HP := Lib.hid hPW
  clear hPW
  unfold Lnk.cells
  go_enter Tryd.func26, Tryd.ntmps26
  go_wp2_with (first
    | (go_at_call 23; (with_reducible refine (story_stamp l.id _ hib hin (ht.below hL.below)).mono ?_); rintro e w3 ⟨rfl, hb3⟩; have hL := hL.call hb3; clear hb3)
    
    | ((with_reducible refine gCat rfl rfl ?_); refine ev_cat rfl rfl rfl rfl (by simp only [ByteArray.size_append, ByteArray.size_mk']; simp; omega) ?_)
    | (go_at_call 48; have hq := join_b _ _ _ _ (hL.own (E := encS) (by first | exact mm0 | exact mm1 | exact mm2 | exact mm3 | exact mm4 | exact mm5 | exact mm6 | exact mm7 | exact mm8)) (by first | exact Nat.le_trans hJ (by decide) | exact Nat.le_trans (by simpa using hJ) (by decide)) (by simp); (with_reducible refine hq.mono ?_); rintro e w3 ⟨rfl, hb3⟩; have hL := hL.call hb3; clear hb3 hq)
    | ((with_reducible refine gAlloc rfl rfl ?_); (refine ev_allocL rfl hL rfl (by first | exact CellsC.of | exact cells_one (by assumption) (by assumption) | exact cells_agg _ rfl) ?_; clear hL; intro gq wq hL)) | ((with_reducible refine gBox rfl rfl ?_); (refine ev_boxL rfl hL rfl rfl (by first | exact CellsC.of | exact cells_one (by assumption) (by assumption) | exact cells_agg _ rfl) ?_; clear hL; intro gq wq hL)) | ((with_reducible refine gLoad rfl rfl ?_); (first | (refine ev_load1L rfl hL rfl rfl HasV.mem (by rfl) ?_) | (refine ev_loadAllL rfl hL rfl rfl HasV.mem (by rfl) ?_) | (refine ev_loadL rfl hL rfl rfl HasV.mem SegC.seg ?_))) | ((with_reducible refine gStore rfl rfl ?_); (first | (refine ev_storeC rfl hL rfl rfl rfl (by first | exact CellsC.of | exact cells_one (by assumption) (by assumption) | exact cells_agg _ rfl) (by rfl) ?_) | (refine ev_storeAllC rfl hL rfl rfl rfl (by first | exact CellsC.of | exact cells_one (by assumption) (by assumption) | exact cells_agg _ rfl) (by rfl) (by rfl) ?_)); clear hL; intro wq hL) | ((with_reducible refine gLoadG rfl rfl ?_ ?_); (exact wanted_some rfl rfl rfl (by with_reducible rfl)); (first | (refine ev_load1G (wanted_some rfl rfl rfl rfl) hL rfl rfl HasV.mem (by rfl) ?_) | (refine ev_loadAllG (wanted_some rfl rfl rfl rfl) hL rfl rfl HasV.mem (by rfl) ?_) | (refine ev_loadG_ (wanted_some rfl rfl rfl rfl) hL rfl rfl HasV.mem SegC.seg ?_)))
    )
  go_ret
  exact ⟨ret_s HE.out.symm, hL.below⟩
theorem story_link110 (l : Lnk) (w : World) (hw : l.wf 100000000) (ht : Tb w) (h1 : decide (l.at_ = Mk.zero) = true) (h2 : decide (l.alive = V8.zero) = true) (h3 : decide (l.dead = V8.zero) = false) :
    Calls Tryd.prog 26 #[.agg l.cells.toArray] w fun e w' => e = .returned (.string l.line) ∧ Below w.heap.size w w' := by
  have hL := (Loc.nil w NoM).rowNil encS w.heap.size 9
  obtain ⟨hib, hin⟩ := hw.id
  obtain ⟨hpb, hpn⟩ := hw.parent
  have hnm := hw.name
  have n1 := stamp_nz l.at_
  have n2 := vec_nz l.alive
  have n3 := vec_nz l.dead
  rw [h1] at n1
  rw [h2] at n2
  rw [h3] at n3
  simp only [Bool.not_true, Bool.not_false] at n1 n2 n3
  have hs1 := l.id.text_size hib hin
  have hs2 := l.parent.text_size hpb hpn
  obtain ⟨PW, hPW⟩ : ∃ PW, PW = (⟨#[112, 108, 97, 99, 101, 58]⟩ : ByteArray) ++ l.parent.text ++ ⟨#[47]⟩ ++ l.name := ⟨_, rfl⟩
  have hPs : PW.size ≤ 1000000000 := by rw [hPW]; simp only [ByteArray.size_append, ByteArray.size_mk']; simp; omega
  have hws : l.ws = [⟨#[100, 101, 97, 100]⟩] := by
    unfold Lnk.ws
    rw [← hPW]
    simp only [decide_eq_true_eq, decide_eq_false_iff_not] at h1 h2 h3
    simp [h1, h2, h3]
  have HW : Hid (∀ x ∈ ([⟨#[100, 101, 97, 100]⟩] : List ByteArray), x.size ≤ 1000000000) := Lib.hid (by
    intro x hx
    simp only [List.mem_cons, List.not_mem_nil, or_false] at hx
    rcases hx with rfl <;> first | exact hPs | (show _ ≤ (1000000000 : Nat); decide))
  have hJ : (joinB [⟨#[100, 101, 97, 100]⟩]).size ≤ 10000000000 := by
    have := joinB_le 1000000000 _ HW.out
    simp only [List.length_cons, List.length_nil] at this
    omega
  have HE := Lib.hid (show Lnk.line l = ⟨#[108, 105, 110, 107, 32]⟩ ++ l.id.text ++ ⟨#[32]⟩ ++ joinB [⟨#[100, 101, 97, 100]⟩] from by unfold Lnk.line; rw [hws])
  clear hws h1 h2 h3 hw
  have HP := Lib.hid hPW
  clear hPW
  unfold Lnk.cells
  go_enter Tryd.func26, Tryd.ntmps26
  go_wp2_with (first
    | (go_at_call 23; (with_reducible refine (story_stamp l.id _ hib hin (ht.below hL.below)).mono ?_); rintro e w3 ⟨rfl, hb3⟩; have hL := hL.call hb3; clear hb3)
    | ((with_reducible refine gate (N := 31) rfl ?_); refine ev_litL (cs := [.string ⟨#[100, 101, 97, 100]⟩]) rfl hL rfl rfl rfl (by kernel_rfl) ?_; clear hL; intro gq wq hL)
    | ((with_reducible refine gCat rfl rfl ?_); refine ev_cat rfl rfl rfl rfl (by simp only [ByteArray.size_append, ByteArray.size_mk']; simp; omega) ?_)
    | (go_at_call 48; have hq := join_b _ _ _ _ (hL.own (E := encS) (by first | exact mm0 | exact mm1 | exact mm2 | exact mm3 | exact mm4 | exact mm5 | exact mm6 | exact mm7 | exact mm8)) (by first | exact Nat.le_trans hJ (by decide) | exact Nat.le_trans (by simpa using hJ) (by decide)) (by simp); (with_reducible refine hq.mono ?_); rintro e w3 ⟨rfl, hb3⟩; have hL := hL.call hb3; clear hb3 hq)
    | ((with_reducible refine gAlloc rfl rfl ?_); (refine ev_allocL rfl hL rfl (by first | exact CellsC.of | exact cells_one (by assumption) (by assumption) | exact cells_agg _ rfl) ?_; clear hL; intro gq wq hL)) | ((with_reducible refine gBox rfl rfl ?_); (refine ev_boxL rfl hL rfl rfl (by first | exact CellsC.of | exact cells_one (by assumption) (by assumption) | exact cells_agg _ rfl) ?_; clear hL; intro gq wq hL)) | ((with_reducible refine gLoad rfl rfl ?_); (first | (refine ev_load1L rfl hL rfl rfl HasV.mem (by rfl) ?_) | (refine ev_loadAllL rfl hL rfl rfl HasV.mem (by rfl) ?_) | (refine ev_loadL rfl hL rfl rfl HasV.mem SegC.seg ?_))) | ((with_reducible refine gStore rfl rfl ?_); (first | (refine ev_storeC rfl hL rfl rfl rfl (by first | exact CellsC.of | exact cells_one (by assumption) (by assumption) | exact cells_agg _ rfl) (by rfl) ?_) | (refine ev_storeAllC rfl hL rfl rfl rfl (by first | exact CellsC.of | exact cells_one (by assumption) (by assumption) | exact cells_agg _ rfl) (by rfl) (by rfl) ?_)); clear hL; intro wq hL) | ((with_reducible refine gLoadG rfl rfl ?_ ?_); (exact wanted_some rfl rfl rfl (by with_reducible rfl)); (first | (refine ev_load1G (wanted_some rfl rfl rfl rfl) hL rfl rfl HasV.mem (by rfl) ?_) | (refine ev_loadAllG (wanted_some rfl rfl rfl rfl) hL rfl rfl HasV.mem (by rfl) ?_) | (refine ev_loadG_ (wanted_some rfl rfl rfl rfl) hL rfl rfl HasV.mem SegC.seg ?_)))
    | (at_builtin; refine ev_app1M (E := encS) (⟨#[100, 101, 97, 100]⟩) 1 [⟨#[100, 101, 97, 100]⟩] rfl hL rfl rfl rfl (by first | exact mm0 | exact mm1 | exact mm2 | exact mm3 | exact mm4 | exact mm5 | exact mm6 | exact mm7 | exact mm8) rfl rfl rfl (by first | exact fun _ => ss0 | exact fun _ => ss1 | exact fun _ => ss2 | exact fun _ => ss3 | exact fun _ => ss4 | exact fun _ => ss5 | exact fun _ => ss6) rfl rfl (by decide) hL.size ?_; clear hL; intro ao' c' wq hL))
  go_ret
  exact ⟨ret_s HE.out.symm, hL.below⟩
theorem story_link101 (l : Lnk) (w : World) (hw : l.wf 100000000) (ht : Tb w) (h1 : decide (l.at_ = Mk.zero) = true) (h2 : decide (l.alive = V8.zero) = false) (h3 : decide (l.dead = V8.zero) = true) :
    Calls Tryd.prog 26 #[.agg l.cells.toArray] w fun e w' => e = .returned (.string l.line) ∧ Below w.heap.size w w' := by
  have hL := (Loc.nil w NoM).rowNil encS w.heap.size 9
  obtain ⟨hib, hin⟩ := hw.id
  obtain ⟨hpb, hpn⟩ := hw.parent
  have hnm := hw.name
  have n1 := stamp_nz l.at_
  have n2 := vec_nz l.alive
  have n3 := vec_nz l.dead
  rw [h1] at n1
  rw [h2] at n2
  rw [h3] at n3
  simp only [Bool.not_true, Bool.not_false] at n1 n2 n3
  have hs1 := l.id.text_size hib hin
  have hs2 := l.parent.text_size hpb hpn
  obtain ⟨PW, hPW⟩ : ∃ PW, PW = (⟨#[112, 108, 97, 99, 101, 58]⟩ : ByteArray) ++ l.parent.text ++ ⟨#[47]⟩ ++ l.name := ⟨_, rfl⟩
  have hPs : PW.size ≤ 1000000000 := by rw [hPW]; simp only [ByteArray.size_append, ByteArray.size_mk']; simp; omega
  have hws : l.ws = [⟨#[97, 108, 105, 118, 101]⟩] := by
    unfold Lnk.ws
    rw [← hPW]
    simp only [decide_eq_true_eq, decide_eq_false_iff_not] at h1 h2 h3
    simp [h1, h2, h3]
  have HW : Hid (∀ x ∈ ([⟨#[97, 108, 105, 118, 101]⟩] : List ByteArray), x.size ≤ 1000000000) := Lib.hid (by
    intro x hx
    simp only [List.mem_cons, List.not_mem_nil, or_false] at hx
    rcases hx with rfl <;> first | exact hPs | (show _ ≤ (1000000000 : Nat); decide))
  have hJ : (joinB [⟨#[97, 108, 105, 118, 101]⟩]).size ≤ 10000000000 := by
    have := joinB_le 1000000000 _ HW.out
    simp only [List.length_cons, List.length_nil] at this
    omega
  have HE := Lib.hid (show Lnk.line l = ⟨#[108, 105, 110, 107, 32]⟩ ++ l.id.text ++ ⟨#[32]⟩ ++ joinB [⟨#[97, 108, 105, 118, 101]⟩] from by unfold Lnk.line; rw [hws])
  clear hws h1 h2 h3 hw
  have HP := Lib.hid hPW
  clear hPW
  unfold Lnk.cells
  go_enter Tryd.func26, Tryd.ntmps26
  go_wp2_with (first
    | (go_at_call 23; (with_reducible refine (story_stamp l.id _ hib hin (ht.below hL.below)).mono ?_); rintro e w3 ⟨rfl, hb3⟩; have hL := hL.call hb3; clear hb3)
    | ((with_reducible refine gate (N := 24) rfl ?_); refine ev_litL (cs := [.string ⟨#[97, 108, 105, 118, 101]⟩]) rfl hL rfl rfl rfl (by kernel_rfl) ?_; clear hL; intro gq wq hL)
    | ((with_reducible refine gCat rfl rfl ?_); refine ev_cat rfl rfl rfl rfl (by simp only [ByteArray.size_append, ByteArray.size_mk']; simp; omega) ?_)
    | (go_at_call 48; have hq := join_b _ _ _ _ (hL.own (E := encS) (by first | exact mm0 | exact mm1 | exact mm2 | exact mm3 | exact mm4 | exact mm5 | exact mm6 | exact mm7 | exact mm8)) (by first | exact Nat.le_trans hJ (by decide) | exact Nat.le_trans (by simpa using hJ) (by decide)) (by simp); (with_reducible refine hq.mono ?_); rintro e w3 ⟨rfl, hb3⟩; have hL := hL.call hb3; clear hb3 hq)
    | ((with_reducible refine gAlloc rfl rfl ?_); (refine ev_allocL rfl hL rfl (by first | exact CellsC.of | exact cells_one (by assumption) (by assumption) | exact cells_agg _ rfl) ?_; clear hL; intro gq wq hL)) | ((with_reducible refine gBox rfl rfl ?_); (refine ev_boxL rfl hL rfl rfl (by first | exact CellsC.of | exact cells_one (by assumption) (by assumption) | exact cells_agg _ rfl) ?_; clear hL; intro gq wq hL)) | ((with_reducible refine gLoad rfl rfl ?_); (first | (refine ev_load1L rfl hL rfl rfl HasV.mem (by rfl) ?_) | (refine ev_loadAllL rfl hL rfl rfl HasV.mem (by rfl) ?_) | (refine ev_loadL rfl hL rfl rfl HasV.mem SegC.seg ?_))) | ((with_reducible refine gStore rfl rfl ?_); (first | (refine ev_storeC rfl hL rfl rfl rfl (by first | exact CellsC.of | exact cells_one (by assumption) (by assumption) | exact cells_agg _ rfl) (by rfl) ?_) | (refine ev_storeAllC rfl hL rfl rfl rfl (by first | exact CellsC.of | exact cells_one (by assumption) (by assumption) | exact cells_agg _ rfl) (by rfl) (by rfl) ?_)); clear hL; intro wq hL) | ((with_reducible refine gLoadG rfl rfl ?_ ?_); (exact wanted_some rfl rfl rfl (by with_reducible rfl)); (first | (refine ev_load1G (wanted_some rfl rfl rfl rfl) hL rfl rfl HasV.mem (by rfl) ?_) | (refine ev_loadAllG (wanted_some rfl rfl rfl rfl) hL rfl rfl HasV.mem (by rfl) ?_) | (refine ev_loadG_ (wanted_some rfl rfl rfl rfl) hL rfl rfl HasV.mem SegC.seg ?_)))
    | (at_builtin; refine ev_app1M (E := encS) (⟨#[97, 108, 105, 118, 101]⟩) 1 [⟨#[97, 108, 105, 118, 101]⟩] rfl hL rfl rfl rfl (by first | exact mm0 | exact mm1 | exact mm2 | exact mm3 | exact mm4 | exact mm5 | exact mm6 | exact mm7 | exact mm8) rfl rfl rfl (by first | exact fun _ => ss0 | exact fun _ => ss1 | exact fun _ => ss2 | exact fun _ => ss3 | exact fun _ => ss4 | exact fun _ => ss5 | exact fun _ => ss6) rfl rfl (by decide) hL.size ?_; clear hL; intro ao' c' wq hL))
  go_ret
  exact ⟨ret_s HE.out.symm, hL.below⟩
theorem story_link100 (l : Lnk) (w : World) (hw : l.wf 100000000) (ht : Tb w) (h1 : decide (l.at_ = Mk.zero) = true) (h2 : decide (l.alive = V8.zero) = false) (h3 : decide (l.dead = V8.zero) = false) :
    Calls Tryd.prog 26 #[.agg l.cells.toArray] w fun e w' => e = .returned (.string l.line) ∧ Below w.heap.size w w' := by
  have hL := (Loc.nil w NoM).rowNil encS w.heap.size 9
  obtain ⟨hib, hin⟩ := hw.id
  obtain ⟨hpb, hpn⟩ := hw.parent
  have hnm := hw.name
  have n1 := stamp_nz l.at_
  have n2 := vec_nz l.alive
  have n3 := vec_nz l.dead
  rw [h1] at n1
  rw [h2] at n2
  rw [h3] at n3
  simp only [Bool.not_true, Bool.not_false] at n1 n2 n3
  have hs1 := l.id.text_size hib hin
  have hs2 := l.parent.text_size hpb hpn
  obtain ⟨PW, hPW⟩ : ∃ PW, PW = (⟨#[112, 108, 97, 99, 101, 58]⟩ : ByteArray) ++ l.parent.text ++ ⟨#[47]⟩ ++ l.name := ⟨_, rfl⟩
  have hPs : PW.size ≤ 1000000000 := by rw [hPW]; simp only [ByteArray.size_append, ByteArray.size_mk']; simp; omega
  have hws : l.ws = [⟨#[97, 108, 105, 118, 101]⟩, ⟨#[100, 101, 97, 100]⟩] := by
    unfold Lnk.ws
    rw [← hPW]
    simp only [decide_eq_true_eq, decide_eq_false_iff_not] at h1 h2 h3
    simp [h1, h2, h3]
  have HW : Hid (∀ x ∈ ([⟨#[97, 108, 105, 118, 101]⟩, ⟨#[100, 101, 97, 100]⟩] : List ByteArray), x.size ≤ 1000000000) := Lib.hid (by
    intro x hx
    simp only [List.mem_cons, List.not_mem_nil, or_false] at hx
    rcases hx with rfl | rfl <;> first | exact hPs | (show _ ≤ (1000000000 : Nat); decide))
  have hJ : (joinB [⟨#[97, 108, 105, 118, 101]⟩, ⟨#[100, 101, 97, 100]⟩]).size ≤ 10000000000 := by
    have := joinB_le 1000000000 _ HW.out
    simp only [List.length_cons, List.length_nil] at this
    omega
  have HE := Lib.hid (show Lnk.line l = ⟨#[108, 105, 110, 107, 32]⟩ ++ l.id.text ++ ⟨#[32]⟩ ++ joinB [⟨#[97, 108, 105, 118, 101]⟩, ⟨#[100, 101, 97, 100]⟩] from by unfold Lnk.line; rw [hws])
  clear hws h1 h2 h3 hw
  have HP := Lib.hid hPW
  clear hPW
  unfold Lnk.cells
  go_enter Tryd.func26, Tryd.ntmps26
  go_wp2_with (first
    | (go_at_call 23; (with_reducible refine (story_stamp l.id _ hib hin (ht.below hL.below)).mono ?_); rintro e w3 ⟨rfl, hb3⟩; have hL := hL.call hb3; clear hb3)
    | ((with_reducible refine gate (N := 24) rfl ?_); refine ev_litL (cs := [.string ⟨#[97, 108, 105, 118, 101]⟩]) rfl hL rfl rfl rfl (by kernel_rfl) ?_; clear hL; intro gq wq hL)
    | ((with_reducible refine gate (N := 31) rfl ?_); refine ev_litL (cs := [.string ⟨#[100, 101, 97, 100]⟩]) rfl hL rfl rfl rfl (by kernel_rfl) ?_; clear hL; intro gq wq hL)
    | ((with_reducible refine gCat rfl rfl ?_); refine ev_cat rfl rfl rfl rfl (by simp only [ByteArray.size_append, ByteArray.size_mk']; simp; omega) ?_)
    | (go_at_call 48; have hq := join_b _ _ _ _ (hL.own (E := encS) (by first | exact mm0 | exact mm1 | exact mm2 | exact mm3 | exact mm4 | exact mm5 | exact mm6 | exact mm7 | exact mm8)) (by first | exact Nat.le_trans hJ (by decide) | exact Nat.le_trans (by simpa using hJ) (by decide)) (by simp); (with_reducible refine hq.mono ?_); rintro e w3 ⟨rfl, hb3⟩; have hL := hL.call hb3; clear hb3 hq)
    | ((with_reducible refine gAlloc rfl rfl ?_); (refine ev_allocL rfl hL rfl (by first | exact CellsC.of | exact cells_one (by assumption) (by assumption) | exact cells_agg _ rfl) ?_; clear hL; intro gq wq hL)) | ((with_reducible refine gBox rfl rfl ?_); (refine ev_boxL rfl hL rfl rfl (by first | exact CellsC.of | exact cells_one (by assumption) (by assumption) | exact cells_agg _ rfl) ?_; clear hL; intro gq wq hL)) | ((with_reducible refine gLoad rfl rfl ?_); (first | (refine ev_load1L rfl hL rfl rfl HasV.mem (by rfl) ?_) | (refine ev_loadAllL rfl hL rfl rfl HasV.mem (by rfl) ?_) | (refine ev_loadL rfl hL rfl rfl HasV.mem SegC.seg ?_))) | ((with_reducible refine gStore rfl rfl ?_); (first | (refine ev_storeC rfl hL rfl rfl rfl (by first | exact CellsC.of | exact cells_one (by assumption) (by assumption) | exact cells_agg _ rfl) (by rfl) ?_) | (refine ev_storeAllC rfl hL rfl rfl rfl (by first | exact CellsC.of | exact cells_one (by assumption) (by assumption) | exact cells_agg _ rfl) (by rfl) (by rfl) ?_)); clear hL; intro wq hL) | ((with_reducible refine gLoadG rfl rfl ?_ ?_); (exact wanted_some rfl rfl rfl (by with_reducible rfl)); (first | (refine ev_load1G (wanted_some rfl rfl rfl rfl) hL rfl rfl HasV.mem (by rfl) ?_) | (refine ev_loadAllG (wanted_some rfl rfl rfl rfl) hL rfl rfl HasV.mem (by rfl) ?_) | (refine ev_loadG_ (wanted_some rfl rfl rfl rfl) hL rfl rfl HasV.mem SegC.seg ?_)))
    | (at_builtin; refine ev_app1M (E := encS) (⟨#[97, 108, 105, 118, 101]⟩) 1 [⟨#[97, 108, 105, 118, 101]⟩] rfl hL rfl rfl rfl (by first | exact mm0 | exact mm1 | exact mm2 | exact mm3 | exact mm4 | exact mm5 | exact mm6 | exact mm7 | exact mm8) rfl rfl rfl (by first | exact fun _ => ss0 | exact fun _ => ss1 | exact fun _ => ss2 | exact fun _ => ss3 | exact fun _ => ss4 | exact fun _ => ss5 | exact fun _ => ss6) rfl rfl (by decide) hL.size ?_; clear hL; intro ao' c' wq hL)
    | (at_builtin; refine ev_app1M (E := encS) (⟨#[100, 101, 97, 100]⟩) 2 [⟨#[97, 108, 105, 118, 101]⟩, ⟨#[100, 101, 97, 100]⟩] rfl hL rfl rfl rfl (by first | exact mm0 | exact mm1 | exact mm2 | exact mm3 | exact mm4 | exact mm5 | exact mm6 | exact mm7 | exact mm8) rfl rfl rfl (by first | exact fun _ => ss0 | exact fun _ => ss1 | exact fun _ => ss2 | exact fun _ => ss3 | exact fun _ => ss4 | exact fun _ => ss5 | exact fun _ => ss6) rfl rfl (by decide) hL.size ?_; clear hL; intro ao' c' wq hL))
  go_ret
  exact ⟨ret_s HE.out.symm, hL.below⟩
theorem story_link011 (l : Lnk) (w : World) (hw : l.wf 100000000) (ht : Tb w) (h1 : decide (l.at_ = Mk.zero) = false) (h2 : decide (l.alive = V8.zero) = true) (h3 : decide (l.dead = V8.zero) = true) :
    Calls Tryd.prog 26 #[.agg l.cells.toArray] w fun e w' => e = .returned (.string l.line) ∧ Below w.heap.size w w' := by
  have hL := (Loc.nil w NoM).rowNil encS w.heap.size 9
  obtain ⟨hib, hin⟩ := hw.id
  obtain ⟨hpb, hpn⟩ := hw.parent
  have hnm := hw.name
  have n1 := stamp_nz l.at_
  have n2 := vec_nz l.alive
  have n3 := vec_nz l.dead
  rw [h1] at n1
  rw [h2] at n2
  rw [h3] at n3
  simp only [Bool.not_true, Bool.not_false] at n1 n2 n3
  have hs1 := l.id.text_size hib hin
  have hs2 := l.parent.text_size hpb hpn
  obtain ⟨PW, hPW⟩ : ∃ PW, PW = (⟨#[112, 108, 97, 99, 101, 58]⟩ : ByteArray) ++ l.parent.text ++ ⟨#[47]⟩ ++ l.name := ⟨_, rfl⟩
  have hPs : PW.size ≤ 1000000000 := by rw [hPW]; simp only [ByteArray.size_append, ByteArray.size_mk']; simp; omega
  have hws : l.ws = [PW] := by
    unfold Lnk.ws
    rw [← hPW]
    simp only [decide_eq_true_eq, decide_eq_false_iff_not] at h1 h2 h3
    simp [h1, h2, h3]
  have HW : Hid (∀ x ∈ ([PW] : List ByteArray), x.size ≤ 1000000000) := Lib.hid (by
    intro x hx
    simp only [List.mem_cons, List.not_mem_nil, or_false] at hx
    rcases hx with rfl <;> first | exact hPs | (show _ ≤ (1000000000 : Nat); decide))
  have hJ : (joinB [PW]).size ≤ 10000000000 := by
    have := joinB_le 1000000000 _ HW.out
    simp only [List.length_cons, List.length_nil] at this
    omega
  have HE := Lib.hid (show Lnk.line l = ⟨#[108, 105, 110, 107, 32]⟩ ++ l.id.text ++ ⟨#[32]⟩ ++ joinB [PW] from by unfold Lnk.line; rw [hws])
  clear hws h1 h2 h3 hw
  have HP := Lib.hid hPW
  clear hPW
  unfold Lnk.cells
  go_enter Tryd.func26, Tryd.ntmps26
  go_wp2_with (first | ((with_reducible refine gAlloc rfl rfl ?_); (refine ev_allocL rfl hL rfl (by first | exact CellsC.of | exact cells_one (by assumption) (by assumption) | exact cells_agg _ rfl) ?_; clear hL; intro gq wq hL)) | ((with_reducible refine gBox rfl rfl ?_); (refine ev_boxL rfl hL rfl rfl (by first | exact CellsC.of | exact cells_one (by assumption) (by assumption) | exact cells_agg _ rfl) ?_; clear hL; intro gq wq hL)) | ((with_reducible refine gLoad rfl rfl ?_); (first | (refine ev_load1L rfl hL rfl rfl HasV.mem (by rfl) ?_) | (refine ev_loadAllL rfl hL rfl rfl HasV.mem (by rfl) ?_) | (refine ev_loadL rfl hL rfl rfl HasV.mem SegC.seg ?_))) | ((with_reducible refine gStore rfl rfl ?_); (first | (refine ev_storeC rfl hL rfl rfl rfl (by first | exact CellsC.of | exact cells_one (by assumption) (by assumption) | exact cells_agg _ rfl) (by rfl) ?_) | (refine ev_storeAllC rfl hL rfl rfl rfl (by first | exact CellsC.of | exact cells_one (by assumption) (by assumption) | exact cells_agg _ rfl) (by rfl) (by rfl) ?_)); clear hL; intro wq hL) | ((with_reducible refine gLoadG rfl rfl ?_ ?_); (exact wanted_some rfl rfl rfl (by with_reducible rfl)); (first | (refine ev_load1G (wanted_some rfl rfl rfl rfl) hL rfl rfl HasV.mem (by rfl) ?_) | (refine ev_loadAllG (wanted_some rfl rfl rfl rfl) hL rfl rfl HasV.mem (by rfl) ?_) | (refine ev_loadG_ (wanted_some rfl rfl rfl rfl) hL rfl rfl HasV.mem SegC.seg ?_))))
  refine region_qtail1 9 (by kernel_rfl) hL (by rfl) (by rfl) (by kernel_rfl) (by kernel_rfl) (by kernel_rfl) (by kernel_rfl) (fun _ _ _ _ h => h) ?_
  clear hL
  intro w5 hL
  have ht2 := ht.below hL.below
  simp only [List.take_succ_cons, List.take_zero, List.drop_succ_cons, List.drop_zero, Act.put, List.setIfInBounds_toArray, List.set_cons_succ, List.set_cons_zero]
  repeat (first | (go_big_quiet_want; (first | refine quiet_load1L hL rfl rfl HasV.mem (by rfl) ?_ | refine quiet_loadAllL hL rfl rfl HasV.mem (by rfl) ?_ | refine quiet_loadL hL rfl rfl HasV.mem SegC.seg ?_); go_big_quiet_on; simp only [Act.put, List.setIfInBounds_toArray, List.set_cons_succ, List.set_cons_zero]) | (go_big_quiet_want; refine quiet_cat rfl rfl rfl (by simp only [ByteArray.size_append, ByteArray.size_mk']; simp; omega) ?_; go_big_quiet_on; simp only [Act.put, List.setIfInBounds_toArray, List.set_cons_succ, List.set_cons_zero]) | go_big_quiet_step (first
    | (go_at_call 23; with_reducible exact stamp_ext ht2 l.parent hpb hpn)))
  refine wpQuiet_nil ?_
  rintro _ ⟨⟨w6, hb6⟩, rfl⟩
  have hL := hL.call hb6
  clear hb6
  rw [← HP.out]
  go_wp2_with (first
    | (go_at_call 23; (with_reducible refine (story_stamp l.id _ hib hin (ht.below hL.below)).mono ?_); rintro e w3 ⟨rfl, hb3⟩; have hL := hL.call hb3; clear hb3)
    | ((with_reducible refine gate (N := 17) rfl ?_); refine ev_litL (cs := [.string PW]) rfl hL rfl rfl rfl (by kernel_rfl) ?_; clear hL; intro gq wq hL)
    | ((with_reducible refine gCat rfl rfl ?_); refine ev_cat rfl rfl rfl rfl (by simp only [ByteArray.size_append, ByteArray.size_mk']; simp; omega) ?_)
    | (go_at_call 48; have hq := join_b _ _ _ _ (hL.own (E := encS) (by first | exact mm0 | exact mm1 | exact mm2 | exact mm3 | exact mm4 | exact mm5 | exact mm6 | exact mm7 | exact mm8)) (by first | exact Nat.le_trans hJ (by decide) | exact Nat.le_trans (by simpa using hJ) (by decide)) (by simp); (with_reducible refine hq.mono ?_); rintro e w3 ⟨rfl, hb3⟩; have hL := hL.call hb3; clear hb3 hq)
    | ((with_reducible refine gAlloc rfl rfl ?_); (refine ev_allocL rfl hL rfl (by first | exact CellsC.of | exact cells_one (by assumption) (by assumption) | exact cells_agg _ rfl) ?_; clear hL; intro gq wq hL)) | ((with_reducible refine gBox rfl rfl ?_); (refine ev_boxL rfl hL rfl rfl (by first | exact CellsC.of | exact cells_one (by assumption) (by assumption) | exact cells_agg _ rfl) ?_; clear hL; intro gq wq hL)) | ((with_reducible refine gLoad rfl rfl ?_); (first | (refine ev_load1L rfl hL rfl rfl HasV.mem (by rfl) ?_) | (refine ev_loadAllL rfl hL rfl rfl HasV.mem (by rfl) ?_) | (refine ev_loadL rfl hL rfl rfl HasV.mem SegC.seg ?_))) | ((with_reducible refine gStore rfl rfl ?_); (first | (refine ev_storeC rfl hL rfl rfl rfl (by first | exact CellsC.of | exact cells_one (by assumption) (by assumption) | exact cells_agg _ rfl) (by rfl) ?_) | (refine ev_storeAllC rfl hL rfl rfl rfl (by first | exact CellsC.of | exact cells_one (by assumption) (by assumption) | exact cells_agg _ rfl) (by rfl) (by rfl) ?_)); clear hL; intro wq hL) | ((with_reducible refine gLoadG rfl rfl ?_ ?_); (exact wanted_some rfl rfl rfl (by with_reducible rfl)); (first | (refine ev_load1G (wanted_some rfl rfl rfl rfl) hL rfl rfl HasV.mem (by rfl) ?_) | (refine ev_loadAllG (wanted_some rfl rfl rfl rfl) hL rfl rfl HasV.mem (by rfl) ?_) | (refine ev_loadG_ (wanted_some rfl rfl rfl rfl) hL rfl rfl HasV.mem SegC.seg ?_)))
    | (at_builtin; refine ev_app1M (E := encS) (PW) 1 [PW] rfl hL rfl rfl rfl (by first | exact mm0 | exact mm1 | exact mm2 | exact mm3 | exact mm4 | exact mm5 | exact mm6 | exact mm7 | exact mm8) rfl rfl rfl (by first | exact fun _ => ss0 | exact fun _ => ss1 | exact fun _ => ss2 | exact fun _ => ss3 | exact fun _ => ss4 | exact fun _ => ss5 | exact fun _ => ss6) rfl rfl (by decide) hL.size ?_; clear hL; intro ao' c' wq hL))
  go_ret
  exact ⟨ret_s HE.out.symm, hL.below⟩
theorem story_link010 (l : Lnk) (w : World) (hw : l.wf 100000000) (ht : Tb w) (h1 : decide (l.at_ = Mk.zero) = false) (h2 : decide (l.alive = V8.zero) = true) (h3 : decide (l.dead = V8.zero) = false) :
    Calls Tryd.prog 26 #[.agg l.cells.toArray] w fun e w' => e = .returned (.string l.line) ∧ Below w.heap.size w w' := by
  have hL := (Loc.nil w NoM).rowNil encS w.heap.size 9
  obtain ⟨hib, hin⟩ := hw.id
  obtain ⟨hpb, hpn⟩ := hw.parent
  have hnm := hw.name
  have n1 := stamp_nz l.at_
  have n2 := vec_nz l.alive
  have n3 := vec_nz l.dead
  rw [h1] at n1
  rw [h2] at n2
  rw [h3] at n3
  simp only [Bool.not_true, Bool.not_false] at n1 n2 n3
  have hs1 := l.id.text_size hib hin
  have hs2 := l.parent.text_size hpb hpn
  obtain ⟨PW, hPW⟩ : ∃ PW, PW = (⟨#[112, 108, 97, 99, 101, 58]⟩ : ByteArray) ++ l.parent.text ++ ⟨#[47]⟩ ++ l.name := ⟨_, rfl⟩
  have hPs : PW.size ≤ 1000000000 := by rw [hPW]; simp only [ByteArray.size_append, ByteArray.size_mk']; simp; omega
  have hws : l.ws = [PW, ⟨#[100, 101, 97, 100]⟩] := by
    unfold Lnk.ws
    rw [← hPW]
    simp only [decide_eq_true_eq, decide_eq_false_iff_not] at h1 h2 h3
    simp [h1, h2, h3]
  have HW : Hid (∀ x ∈ ([PW, ⟨#[100, 101, 97, 100]⟩] : List ByteArray), x.size ≤ 1000000000) := Lib.hid (by
    intro x hx
    simp only [List.mem_cons, List.not_mem_nil, or_false] at hx
    rcases hx with rfl | rfl <;> first | exact hPs | (show _ ≤ (1000000000 : Nat); decide))
  have hJ : (joinB [PW, ⟨#[100, 101, 97, 100]⟩]).size ≤ 10000000000 := by
    have := joinB_le 1000000000 _ HW.out
    simp only [List.length_cons, List.length_nil] at this
    omega
  have HE := Lib.hid (show Lnk.line l = ⟨#[108, 105, 110, 107, 32]⟩ ++ l.id.text ++ ⟨#[32]⟩ ++ joinB [PW, ⟨#[100, 101, 97, 100]⟩] from by unfold Lnk.line; rw [hws])
  clear hws h1 h2 h3 hw
  have HP := Lib.hid hPW
  clear hPW
  unfold Lnk.cells
  go_enter Tryd.func26, Tryd.ntmps26
  go_wp2_with (first | ((with_reducible refine gAlloc rfl rfl ?_); (refine ev_allocL rfl hL rfl (by first | exact CellsC.of | exact cells_one (by assumption) (by assumption) | exact cells_agg _ rfl) ?_; clear hL; intro gq wq hL)) | ((with_reducible refine gBox rfl rfl ?_); (refine ev_boxL rfl hL rfl rfl (by first | exact CellsC.of | exact cells_one (by assumption) (by assumption) | exact cells_agg _ rfl) ?_; clear hL; intro gq wq hL)) | ((with_reducible refine gLoad rfl rfl ?_); (first | (refine ev_load1L rfl hL rfl rfl HasV.mem (by rfl) ?_) | (refine ev_loadAllL rfl hL rfl rfl HasV.mem (by rfl) ?_) | (refine ev_loadL rfl hL rfl rfl HasV.mem SegC.seg ?_))) | ((with_reducible refine gStore rfl rfl ?_); (first | (refine ev_storeC rfl hL rfl rfl rfl (by first | exact CellsC.of | exact cells_one (by assumption) (by assumption) | exact cells_agg _ rfl) (by rfl) ?_) | (refine ev_storeAllC rfl hL rfl rfl rfl (by first | exact CellsC.of | exact cells_one (by assumption) (by assumption) | exact cells_agg _ rfl) (by rfl) (by rfl) ?_)); clear hL; intro wq hL) | ((with_reducible refine gLoadG rfl rfl ?_ ?_); (exact wanted_some rfl rfl rfl (by with_reducible rfl)); (first | (refine ev_load1G (wanted_some rfl rfl rfl rfl) hL rfl rfl HasV.mem (by rfl) ?_) | (refine ev_loadAllG (wanted_some rfl rfl rfl rfl) hL rfl rfl HasV.mem (by rfl) ?_) | (refine ev_loadG_ (wanted_some rfl rfl rfl rfl) hL rfl rfl HasV.mem SegC.seg ?_))))
  refine region_qtail1 9 (by kernel_rfl) hL (by rfl) (by rfl) (by kernel_rfl) (by kernel_rfl) (by kernel_rfl) (by kernel_rfl) (fun _ _ _ _ h => h) ?_
  clear hL
  intro w5 hL
  have ht2 := ht.below hL.below
  simp only [List.take_succ_cons, List.take_zero, List.drop_succ_cons, List.drop_zero, Act.put, List.setIfInBounds_toArray, List.set_cons_succ, List.set_cons_zero]
  repeat (first | (go_big_quiet_want; (first | refine quiet_load1L hL rfl rfl HasV.mem (by rfl) ?_ | refine quiet_loadAllL hL rfl rfl HasV.mem (by rfl) ?_ | refine quiet_loadL hL rfl rfl HasV.mem SegC.seg ?_); go_big_quiet_on; simp only [Act.put, List.setIfInBounds_toArray, List.set_cons_succ, List.set_cons_zero]) | (go_big_quiet_want; refine quiet_cat rfl rfl rfl (by simp only [ByteArray.size_append, ByteArray.size_mk']; simp; omega) ?_; go_big_quiet_on; simp only [Act.put, List.setIfInBounds_toArray, List.set_cons_succ, List.set_cons_zero]) | go_big_quiet_step (first
    | (go_at_call 23; with_reducible exact stamp_ext ht2 l.parent hpb hpn)))
  refine wpQuiet_nil ?_
  rintro _ ⟨⟨w6, hb6⟩, rfl⟩
  have hL := hL.call hb6
  clear hb6
  rw [← HP.out]
  go_wp2_with (first
    | (go_at_call 23; (with_reducible refine (story_stamp l.id _ hib hin (ht.below hL.below)).mono ?_); rintro e w3 ⟨rfl, hb3⟩; have hL := hL.call hb3; clear hb3)
    | ((with_reducible refine gate (N := 17) rfl ?_); refine ev_litL (cs := [.string PW]) rfl hL rfl rfl rfl (by kernel_rfl) ?_; clear hL; intro gq wq hL)
    | ((with_reducible refine gate (N := 31) rfl ?_); refine ev_litL (cs := [.string ⟨#[100, 101, 97, 100]⟩]) rfl hL rfl rfl rfl (by kernel_rfl) ?_; clear hL; intro gq wq hL)
    | ((with_reducible refine gCat rfl rfl ?_); refine ev_cat rfl rfl rfl rfl (by simp only [ByteArray.size_append, ByteArray.size_mk']; simp; omega) ?_)
    | (go_at_call 48; have hq := join_b _ _ _ _ (hL.own (E := encS) (by first | exact mm0 | exact mm1 | exact mm2 | exact mm3 | exact mm4 | exact mm5 | exact mm6 | exact mm7 | exact mm8)) (by first | exact Nat.le_trans hJ (by decide) | exact Nat.le_trans (by simpa using hJ) (by decide)) (by simp); (with_reducible refine hq.mono ?_); rintro e w3 ⟨rfl, hb3⟩; have hL := hL.call hb3; clear hb3 hq)
    | ((with_reducible refine gAlloc rfl rfl ?_); (refine ev_allocL rfl hL rfl (by first | exact CellsC.of | exact cells_one (by assumption) (by assumption) | exact cells_agg _ rfl) ?_; clear hL; intro gq wq hL)) | ((with_reducible refine gBox rfl rfl ?_); (refine ev_boxL rfl hL rfl rfl (by first | exact CellsC.of | exact cells_one (by assumption) (by assumption) | exact cells_agg _ rfl) ?_; clear hL; intro gq wq hL)) | ((with_reducible refine gLoad rfl rfl ?_); (first | (refine ev_load1L rfl hL rfl rfl HasV.mem (by rfl) ?_) | (refine ev_loadAllL rfl hL rfl rfl HasV.mem (by rfl) ?_) | (refine ev_loadL rfl hL rfl rfl HasV.mem SegC.seg ?_))) | ((with_reducible refine gStore rfl rfl ?_); (first | (refine ev_storeC rfl hL rfl rfl rfl (by first | exact CellsC.of | exact cells_one (by assumption) (by assumption) | exact cells_agg _ rfl) (by rfl) ?_) | (refine ev_storeAllC rfl hL rfl rfl rfl (by first | exact CellsC.of | exact cells_one (by assumption) (by assumption) | exact cells_agg _ rfl) (by rfl) (by rfl) ?_)); clear hL; intro wq hL) | ((with_reducible refine gLoadG rfl rfl ?_ ?_); (exact wanted_some rfl rfl rfl (by with_reducible rfl)); (first | (refine ev_load1G (wanted_some rfl rfl rfl rfl) hL rfl rfl HasV.mem (by rfl) ?_) | (refine ev_loadAllG (wanted_some rfl rfl rfl rfl) hL rfl rfl HasV.mem (by rfl) ?_) | (refine ev_loadG_ (wanted_some rfl rfl rfl rfl) hL rfl rfl HasV.mem SegC.seg ?_)))
    | (at_builtin; refine ev_app1M (E := encS) (PW) 1 [PW] rfl hL rfl rfl rfl (by first | exact mm0 | exact mm1 | exact mm2 | exact mm3 | exact mm4 | exact mm5 | exact mm6 | exact mm7 | exact mm8) rfl rfl rfl (by first | exact fun _ => ss0 | exact fun _ => ss1 | exact fun _ => ss2 | exact fun _ => ss3 | exact fun _ => ss4 | exact fun _ => ss5 | exact fun _ => ss6) rfl rfl (by decide) hL.size ?_; clear hL; intro ao' c' wq hL)
    | (at_builtin; refine ev_app1M (E := encS) (⟨#[100, 101, 97, 100]⟩) 2 [PW, ⟨#[100, 101, 97, 100]⟩] rfl hL rfl rfl rfl (by first | exact mm0 | exact mm1 | exact mm2 | exact mm3 | exact mm4 | exact mm5 | exact mm6 | exact mm7 | exact mm8) rfl rfl rfl (by first | exact fun _ => ss0 | exact fun _ => ss1 | exact fun _ => ss2 | exact fun _ => ss3 | exact fun _ => ss4 | exact fun _ => ss5 | exact fun _ => ss6) rfl rfl (by decide) hL.size ?_; clear hL; intro ao' c' wq hL))
  go_ret
  exact ⟨ret_s HE.out.symm, hL.below⟩
theorem story_link001 (l : Lnk) (w : World) (hw : l.wf 100000000) (ht : Tb w) (h1 : decide (l.at_ = Mk.zero) = false) (h2 : decide (l.alive = V8.zero) = false) (h3 : decide (l.dead = V8.zero) = true) :
    Calls Tryd.prog 26 #[.agg l.cells.toArray] w fun e w' => e = .returned (.string l.line) ∧ Below w.heap.size w w' := by
  have hL := (Loc.nil w NoM).rowNil encS w.heap.size 9
  obtain ⟨hib, hin⟩ := hw.id
  obtain ⟨hpb, hpn⟩ := hw.parent
  have hnm := hw.name
  have n1 := stamp_nz l.at_
  have n2 := vec_nz l.alive
  have n3 := vec_nz l.dead
  rw [h1] at n1
  rw [h2] at n2
  rw [h3] at n3
  simp only [Bool.not_true, Bool.not_false] at n1 n2 n3
  have hs1 := l.id.text_size hib hin
  have hs2 := l.parent.text_size hpb hpn
  obtain ⟨PW, hPW⟩ : ∃ PW, PW = (⟨#[112, 108, 97, 99, 101, 58]⟩ : ByteArray) ++ l.parent.text ++ ⟨#[47]⟩ ++ l.name := ⟨_, rfl⟩
  have hPs : PW.size ≤ 1000000000 := by rw [hPW]; simp only [ByteArray.size_append, ByteArray.size_mk']; simp; omega
  have hws : l.ws = [PW, ⟨#[97, 108, 105, 118, 101]⟩] := by
    unfold Lnk.ws
    rw [← hPW]
    simp only [decide_eq_true_eq, decide_eq_false_iff_not] at h1 h2 h3
    simp [h1, h2, h3]
  have HW : Hid (∀ x ∈ ([PW, ⟨#[97, 108, 105, 118, 101]⟩] : List ByteArray), x.size ≤ 1000000000) := Lib.hid (by
    intro x hx
    simp only [List.mem_cons, List.not_mem_nil, or_false] at hx
    rcases hx with rfl | rfl <;> first | exact hPs | (show _ ≤ (1000000000 : Nat); decide))
  have hJ : (joinB [PW, ⟨#[97, 108, 105, 118, 101]⟩]).size ≤ 10000000000 := by
    have := joinB_le 1000000000 _ HW.out
    simp only [List.length_cons, List.length_nil] at this
    omega
  have HE := Lib.hid (show Lnk.line l = ⟨#[108, 105, 110, 107, 32]⟩ ++ l.id.text ++ ⟨#[32]⟩ ++ joinB [PW, ⟨#[97, 108, 105, 118, 101]⟩] from by unfold Lnk.line; rw [hws])
  clear hws h1 h2 h3 hw
  have HP := Lib.hid hPW
  clear hPW
  unfold Lnk.cells
  go_enter Tryd.func26, Tryd.ntmps26
  go_wp2_with (first | ((with_reducible refine gAlloc rfl rfl ?_); (refine ev_allocL rfl hL rfl (by first | exact CellsC.of | exact cells_one (by assumption) (by assumption) | exact cells_agg _ rfl) ?_; clear hL; intro gq wq hL)) | ((with_reducible refine gBox rfl rfl ?_); (refine ev_boxL rfl hL rfl rfl (by first | exact CellsC.of | exact cells_one (by assumption) (by assumption) | exact cells_agg _ rfl) ?_; clear hL; intro gq wq hL)) | ((with_reducible refine gLoad rfl rfl ?_); (first | (refine ev_load1L rfl hL rfl rfl HasV.mem (by rfl) ?_) | (refine ev_loadAllL rfl hL rfl rfl HasV.mem (by rfl) ?_) | (refine ev_loadL rfl hL rfl rfl HasV.mem SegC.seg ?_))) | ((with_reducible refine gStore rfl rfl ?_); (first | (refine ev_storeC rfl hL rfl rfl rfl (by first | exact CellsC.of | exact cells_one (by assumption) (by assumption) | exact cells_agg _ rfl) (by rfl) ?_) | (refine ev_storeAllC rfl hL rfl rfl rfl (by first | exact CellsC.of | exact cells_one (by assumption) (by assumption) | exact cells_agg _ rfl) (by rfl) (by rfl) ?_)); clear hL; intro wq hL) | ((with_reducible refine gLoadG rfl rfl ?_ ?_); (exact wanted_some rfl rfl rfl (by with_reducible rfl)); (first | (refine ev_load1G (wanted_some rfl rfl rfl rfl) hL rfl rfl HasV.mem (by rfl) ?_) | (refine ev_loadAllG (wanted_some rfl rfl rfl rfl) hL rfl rfl HasV.mem (by rfl) ?_) | (refine ev_loadG_ (wanted_some rfl rfl rfl rfl) hL rfl rfl HasV.mem SegC.seg ?_))))
  refine region_qtail1 9 (by kernel_rfl) hL (by rfl) (by rfl) (by kernel_rfl) (by kernel_rfl) (by kernel_rfl) (by kernel_rfl) (fun _ _ _ _ h => h) ?_
  clear hL
  intro w5 hL
  have ht2 := ht.below hL.below
  simp only [List.take_succ_cons, List.take_zero, List.drop_succ_cons, List.drop_zero, Act.put, List.setIfInBounds_toArray, List.set_cons_succ, List.set_cons_zero]
  repeat (first | (go_big_quiet_want; (first | refine quiet_load1L hL rfl rfl HasV.mem (by rfl) ?_ | refine quiet_loadAllL hL rfl rfl HasV.mem (by rfl) ?_ | refine quiet_loadL hL rfl rfl HasV.mem SegC.seg ?_); go_big_quiet_on; simp only [Act.put, List.setIfInBounds_toArray, List.set_cons_succ, List.set_cons_zero]) | (go_big_quiet_want; refine quiet_cat rfl rfl rfl (by simp only [ByteArray.size_append, ByteArray.size_mk']; simp; omega) ?_; go_big_quiet_on; simp only [Act.put, List.setIfInBounds_toArray, List.set_cons_succ, List.set_cons_zero]) | go_big_quiet_step (first
    | (go_at_call 23; with_reducible exact stamp_ext ht2 l.parent hpb hpn)))
  refine wpQuiet_nil ?_
  rintro _ ⟨⟨w6, hb6⟩, rfl⟩
  have hL := hL.call hb6
  clear hb6
  rw [← HP.out]
  go_wp2_with (first
    | (go_at_call 23; (with_reducible refine (story_stamp l.id _ hib hin (ht.below hL.below)).mono ?_); rintro e w3 ⟨rfl, hb3⟩; have hL := hL.call hb3; clear hb3)
    | ((with_reducible refine gate (N := 17) rfl ?_); refine ev_litL (cs := [.string PW]) rfl hL rfl rfl rfl (by kernel_rfl) ?_; clear hL; intro gq wq hL)
    | ((with_reducible refine gate (N := 24) rfl ?_); refine ev_litL (cs := [.string ⟨#[97, 108, 105, 118, 101]⟩]) rfl hL rfl rfl rfl (by kernel_rfl) ?_; clear hL; intro gq wq hL)
    | ((with_reducible refine gCat rfl rfl ?_); refine ev_cat rfl rfl rfl rfl (by simp only [ByteArray.size_append, ByteArray.size_mk']; simp; omega) ?_)
    | (go_at_call 48; have hq := join_b _ _ _ _ (hL.own (E := encS) (by first | exact mm0 | exact mm1 | exact mm2 | exact mm3 | exact mm4 | exact mm5 | exact mm6 | exact mm7 | exact mm8)) (by first | exact Nat.le_trans hJ (by decide) | exact Nat.le_trans (by simpa using hJ) (by decide)) (by simp); (with_reducible refine hq.mono ?_); rintro e w3 ⟨rfl, hb3⟩; have hL := hL.call hb3; clear hb3 hq)
    | ((with_reducible refine gAlloc rfl rfl ?_); (refine ev_allocL rfl hL rfl (by first | exact CellsC.of | exact cells_one (by assumption) (by assumption) | exact cells_agg _ rfl) ?_; clear hL; intro gq wq hL)) | ((with_reducible refine gBox rfl rfl ?_); (refine ev_boxL rfl hL rfl rfl (by first | exact CellsC.of | exact cells_one (by assumption) (by assumption) | exact cells_agg _ rfl) ?_; clear hL; intro gq wq hL)) | ((with_reducible refine gLoad rfl rfl ?_); (first | (refine ev_load1L rfl hL rfl rfl HasV.mem (by rfl) ?_) | (refine ev_loadAllL rfl hL rfl rfl HasV.mem (by rfl) ?_) | (refine ev_loadL rfl hL rfl rfl HasV.mem SegC.seg ?_))) | ((with_reducible refine gStore rfl rfl ?_); (first | (refine ev_storeC rfl hL rfl rfl rfl (by first | exact CellsC.of | exact cells_one (by assumption) (by assumption) | exact cells_agg _ rfl) (by rfl) ?_) | (refine ev_storeAllC rfl hL rfl rfl rfl (by first | exact CellsC.of | exact cells_one (by assumption) (by assumption) | exact cells_agg _ rfl) (by rfl) (by rfl) ?_)); clear hL; intro wq hL) | ((with_reducible refine gLoadG rfl rfl ?_ ?_); (exact wanted_some rfl rfl rfl (by with_reducible rfl)); (first | (refine ev_load1G (wanted_some rfl rfl rfl rfl) hL rfl rfl HasV.mem (by rfl) ?_) | (refine ev_loadAllG (wanted_some rfl rfl rfl rfl) hL rfl rfl HasV.mem (by rfl) ?_) | (refine ev_loadG_ (wanted_some rfl rfl rfl rfl) hL rfl rfl HasV.mem SegC.seg ?_)))
    | (at_builtin; refine ev_app1M (E := encS) (PW) 1 [PW] rfl hL rfl rfl rfl (by first | exact mm0 | exact mm1 | exact mm2 | exact mm3 | exact mm4 | exact mm5 | exact mm6 | exact mm7 | exact mm8) rfl rfl rfl (by first | exact fun _ => ss0 | exact fun _ => ss1 | exact fun _ => ss2 | exact fun _ => ss3 | exact fun _ => ss4 | exact fun _ => ss5 | exact fun _ => ss6) rfl rfl (by decide) hL.size ?_; clear hL; intro ao' c' wq hL)
    | (at_builtin; refine ev_app1M (E := encS) (⟨#[97, 108, 105, 118, 101]⟩) 2 [PW, ⟨#[97, 108, 105, 118, 101]⟩] rfl hL rfl rfl rfl (by first | exact mm0 | exact mm1 | exact mm2 | exact mm3 | exact mm4 | exact mm5 | exact mm6 | exact mm7 | exact mm8) rfl rfl rfl (by first | exact fun _ => ss0 | exact fun _ => ss1 | exact fun _ => ss2 | exact fun _ => ss3 | exact fun _ => ss4 | exact fun _ => ss5 | exact fun _ => ss6) rfl rfl (by decide) hL.size ?_; clear hL; intro ao' c' wq hL))
  go_ret
  exact ⟨ret_s HE.out.symm, hL.below⟩
theorem story_link000 (l : Lnk) (w : World) (hw : l.wf 100000000) (ht : Tb w) (h1 : decide (l.at_ = Mk.zero) = false) (h2 : decide (l.alive = V8.zero) = false) (h3 : decide (l.dead = V8.zero) = false) :
    Calls Tryd.prog 26 #[.agg l.cells.toArray] w fun e w' => e = .returned (.string l.line) ∧ Below w.heap.size w w' := by
  have hL := (Loc.nil w NoM).rowNil encS w.heap.size 9
  obtain ⟨hib, hin⟩ := hw.id
  obtain ⟨hpb, hpn⟩ := hw.parent
  have hnm := hw.name
  have n1 := stamp_nz l.at_
  have n2 := vec_nz l.alive
  have n3 := vec_nz l.dead
  rw [h1] at n1
  rw [h2] at n2
  rw [h3] at n3
  simp only [Bool.not_true, Bool.not_false] at n1 n2 n3
  have hs1 := l.id.text_size hib hin
  have hs2 := l.parent.text_size hpb hpn
  obtain ⟨PW, hPW⟩ : ∃ PW, PW = (⟨#[112, 108, 97, 99, 101, 58]⟩ : ByteArray) ++ l.parent.text ++ ⟨#[47]⟩ ++ l.name := ⟨_, rfl⟩
  have hPs : PW.size ≤ 1000000000 := by rw [hPW]; simp only [ByteArray.size_append, ByteArray.size_mk']; simp; omega
  have hws : l.ws = [PW, ⟨#[97, 108, 105, 118, 101]⟩, ⟨#[100, 101, 97, 100]⟩] := by
    unfold Lnk.ws
    rw [← hPW]
    simp only [decide_eq_true_eq, decide_eq_false_iff_not] at h1 h2 h3
    simp [h1, h2, h3]
  have HW : Hid (∀ x ∈ ([PW, ⟨#[97, 108, 105, 118, 101]⟩, ⟨#[100, 101, 97, 100]⟩] : List ByteArray), x.size ≤ 1000000000) := Lib.hid (by
    intro x hx
    simp only [List.mem_cons, List.not_mem_nil, or_false] at hx
    rcases hx with rfl | rfl | rfl <;> first | exact hPs | (show _ ≤ (1000000000 : Nat); decide))
  have hJ : (joinB [PW, ⟨#[97, 108, 105, 118, 101]⟩, ⟨#[100, 101, 97, 100]⟩]).size ≤ 10000000000 := by
    have := joinB_le 1000000000 _ HW.out
    simp only [List.length_cons, List.length_nil] at this
    omega
  have HE := Lib.hid (show Lnk.line l = ⟨#[108, 105, 110, 107, 32]⟩ ++ l.id.text ++ ⟨#[32]⟩ ++ joinB [PW, ⟨#[97, 108, 105, 118, 101]⟩, ⟨#[100, 101, 97, 100]⟩] from by unfold Lnk.line; rw [hws])
  clear hws h1 h2 h3 hw
  have HP := Lib.hid hPW
  clear hPW
  unfold Lnk.cells
  go_enter Tryd.func26, Tryd.ntmps26
  go_wp2_with (first | ((with_reducible refine gAlloc rfl rfl ?_); (refine ev_allocL rfl hL rfl (by first | exact CellsC.of | exact cells_one (by assumption) (by assumption) | exact cells_agg _ rfl) ?_; clear hL; intro gq wq hL)) | ((with_reducible refine gBox rfl rfl ?_); (refine ev_boxL rfl hL rfl rfl (by first | exact CellsC.of | exact cells_one (by assumption) (by assumption) | exact cells_agg _ rfl) ?_; clear hL; intro gq wq hL)) | ((with_reducible refine gLoad rfl rfl ?_); (first | (refine ev_load1L rfl hL rfl rfl HasV.mem (by rfl) ?_) | (refine ev_loadAllL rfl hL rfl rfl HasV.mem (by rfl) ?_) | (refine ev_loadL rfl hL rfl rfl HasV.mem SegC.seg ?_))) | ((with_reducible refine gStore rfl rfl ?_); (first | (refine ev_storeC rfl hL rfl rfl rfl (by first | exact CellsC.of | exact cells_one (by assumption) (by assumption) | exact cells_agg _ rfl) (by rfl) ?_) | (refine ev_storeAllC rfl hL rfl rfl rfl (by first | exact CellsC.of | exact cells_one (by assumption) (by assumption) | exact cells_agg _ rfl) (by rfl) (by rfl) ?_)); clear hL; intro wq hL) | ((with_reducible refine gLoadG rfl rfl ?_ ?_); (exact wanted_some rfl rfl rfl (by with_reducible rfl)); (first | (refine ev_load1G (wanted_some rfl rfl rfl rfl) hL rfl rfl HasV.mem (by rfl) ?_) | (refine ev_loadAllG (wanted_some rfl rfl rfl rfl) hL rfl rfl HasV.mem (by rfl) ?_) | (refine ev_loadG_ (wanted_some rfl rfl rfl rfl) hL rfl rfl HasV.mem SegC.seg ?_))))
  refine region_qtail1 9 (by kernel_rfl) hL (by rfl) (by rfl) (by kernel_rfl) (by kernel_rfl) (by kernel_rfl) (by kernel_rfl) (fun _ _ _ _ h => h) ?_
  clear hL
  intro w5 hL
  have ht2 := ht.below hL.below
  simp only [List.take_succ_cons, List.take_zero, List.drop_succ_cons, List.drop_zero, Act.put, List.setIfInBounds_toArray, List.set_cons_succ, List.set_cons_zero]
  repeat (first | (go_big_quiet_want; (first | refine quiet_load1L hL rfl rfl HasV.mem (by rfl) ?_ | refine quiet_loadAllL hL rfl rfl HasV.mem (by rfl) ?_ | refine quiet_loadL hL rfl rfl HasV.mem SegC.seg ?_); go_big_quiet_on; simp only [Act.put, List.setIfInBounds_toArray, List.set_cons_succ, List.set_cons_zero]) | (go_big_quiet_want; refine quiet_cat rfl rfl rfl (by simp only [ByteArray.size_append, ByteArray.size_mk']; simp; omega) ?_; go_big_quiet_on; simp only [Act.put, List.setIfInBounds_toArray, List.set_cons_succ, List.set_cons_zero]) | go_big_quiet_step (first
    | (go_at_call 23; with_reducible exact stamp_ext ht2 l.parent hpb hpn)))
  refine wpQuiet_nil ?_
  rintro _ ⟨⟨w6, hb6⟩, rfl⟩
  have hL := hL.call hb6
  clear hb6
  rw [← HP.out]
  go_wp2_with (first
    | (go_at_call 23; (with_reducible refine (story_stamp l.id _ hib hin (ht.below hL.below)).mono ?_); rintro e w3 ⟨rfl, hb3⟩; have hL := hL.call hb3; clear hb3)
    | ((with_reducible refine gate (N := 17) rfl ?_); refine ev_litL (cs := [.string PW]) rfl hL rfl rfl rfl (by kernel_rfl) ?_; clear hL; intro gq wq hL)
    | ((with_reducible refine gate (N := 24) rfl ?_); refine ev_litL (cs := [.string ⟨#[97, 108, 105, 118, 101]⟩]) rfl hL rfl rfl rfl (by kernel_rfl) ?_; clear hL; intro gq wq hL)
    | ((with_reducible refine gate (N := 31) rfl ?_); refine ev_litL (cs := [.string ⟨#[100, 101, 97, 100]⟩]) rfl hL rfl rfl rfl (by kernel_rfl) ?_; clear hL; intro gq wq hL)
    | ((with_reducible refine gCat rfl rfl ?_); refine ev_cat rfl rfl rfl rfl (by simp only [ByteArray.size_append, ByteArray.size_mk']; simp; omega) ?_)
    | (go_at_call 48; have hq := join_b _ _ _ _ (hL.own (E := encS) (by first | exact mm0 | exact mm1 | exact mm2 | exact mm3 | exact mm4 | exact mm5 | exact mm6 | exact mm7 | exact mm8)) (by first | exact Nat.le_trans hJ (by decide) | exact Nat.le_trans (by simpa using hJ) (by decide)) (by simp); (with_reducible refine hq.mono ?_); rintro e w3 ⟨rfl, hb3⟩; have hL := hL.call hb3; clear hb3 hq)
    | ((with_reducible refine gAlloc rfl rfl ?_); (refine ev_allocL rfl hL rfl (by first | exact CellsC.of | exact cells_one (by assumption) (by assumption) | exact cells_agg _ rfl) ?_; clear hL; intro gq wq hL)) | ((with_reducible refine gBox rfl rfl ?_); (refine ev_boxL rfl hL rfl rfl (by first | exact CellsC.of | exact cells_one (by assumption) (by assumption) | exact cells_agg _ rfl) ?_; clear hL; intro gq wq hL)) | ((with_reducible refine gLoad rfl rfl ?_); (first | (refine ev_load1L rfl hL rfl rfl HasV.mem (by rfl) ?_) | (refine ev_loadAllL rfl hL rfl rfl HasV.mem (by rfl) ?_) | (refine ev_loadL rfl hL rfl rfl HasV.mem SegC.seg ?_))) | ((with_reducible refine gStore rfl rfl ?_); (first | (refine ev_storeC rfl hL rfl rfl rfl (by first | exact CellsC.of | exact cells_one (by assumption) (by assumption) | exact cells_agg _ rfl) (by rfl) ?_) | (refine ev_storeAllC rfl hL rfl rfl rfl (by first | exact CellsC.of | exact cells_one (by assumption) (by assumption) | exact cells_agg _ rfl) (by rfl) (by rfl) ?_)); clear hL; intro wq hL) | ((with_reducible refine gLoadG rfl rfl ?_ ?_); (exact wanted_some rfl rfl rfl (by with_reducible rfl)); (first | (refine ev_load1G (wanted_some rfl rfl rfl rfl) hL rfl rfl HasV.mem (by rfl) ?_) | (refine ev_loadAllG (wanted_some rfl rfl rfl rfl) hL rfl rfl HasV.mem (by rfl) ?_) | (refine ev_loadG_ (wanted_some rfl rfl rfl rfl) hL rfl rfl HasV.mem SegC.seg ?_)))
    | (at_builtin; refine ev_app1M (E := encS) (PW) 1 [PW] rfl hL rfl rfl rfl (by first | exact mm0 | exact mm1 | exact mm2 | exact mm3 | exact mm4 | exact mm5 | exact mm6 | exact mm7 | exact mm8) rfl rfl rfl (by first | exact fun _ => ss0 | exact fun _ => ss1 | exact fun _ => ss2 | exact fun _ => ss3 | exact fun _ => ss4 | exact fun _ => ss5 | exact fun _ => ss6) rfl rfl (by decide) hL.size ?_; clear hL; intro ao' c' wq hL)
    | (at_builtin; refine ev_app1M (E := encS) (⟨#[97, 108, 105, 118, 101]⟩) 2 [PW, ⟨#[97, 108, 105, 118, 101]⟩] rfl hL rfl rfl rfl (by first | exact mm0 | exact mm1 | exact mm2 | exact mm3 | exact mm4 | exact mm5 | exact mm6 | exact mm7 | exact mm8) rfl rfl rfl (by first | exact fun _ => ss0 | exact fun _ => ss1 | exact fun _ => ss2 | exact fun _ => ss3 | exact fun _ => ss4 | exact fun _ => ss5 | exact fun _ => ss6) rfl rfl (by decide) hL.size ?_; clear hL; intro ao' c' wq hL)
    | (at_builtin; refine ev_app1M (E := encS) (⟨#[100, 101, 97, 100]⟩) 3 [PW, ⟨#[97, 108, 105, 118, 101]⟩, ⟨#[100, 101, 97, 100]⟩] rfl hL rfl rfl rfl (by first | exact mm0 | exact mm1 | exact mm2 | exact mm3 | exact mm4 | exact mm5 | exact mm6 | exact mm7 | exact mm8) rfl rfl rfl (by first | exact fun _ => ss0 | exact fun _ => ss1 | exact fun _ => ss2 | exact fun _ => ss3 | exact fun _ => ss4 | exact fun _ => ss5 | exact fun _ => ss6) rfl rfl (by decide) hL.size ?_; clear hL; intro ao' c' wq hL))
  go_ret
  exact ⟨ret_s HE.out.symm, hL.below⟩
theorem story_link (l : Lnk) (w : World) (hw : l.wf 100000000) (ht : Tb w) :
    Calls Tryd.prog 26 #[.agg l.cells.toArray] w fun e w' => e = .returned (.string l.line) ∧ Below w.heap.size w w' := by
  cases h1 : decide (l.at_ = Mk.zero) <;> cases h2 : decide (l.alive = V8.zero) <;> cases h3 : decide (l.dead = V8.zero)
  · exact story_link000 l w hw ht h1 h2 h3
  · exact story_link001 l w hw ht h1 h2 h3
  · exact story_link010 l w hw ht h1 h2 h3
  · exact story_link011 l w hw ht h1 h2 h3
  · exact story_link100 l w hw ht h1 h2 h3
  · exact story_link101 l w hw ht h1 h2 h3
  · exact story_link110 l w hw ht h1 h2 h3
  · exact story_link111 l w hw ht h1 h2 h3
end Go.Proofs.YtebpacmhdkgfeaaDoor

/- Chapter 29: an event's lines, the program's side. -/
namespace Go.Proofs.YtebpacmhdkgfeaaDoor
open Go.RowKit

set_option maxHeartbeats 4000000 in
theorem story_text (e : Evt) (d : StaD) (w : World) (hO : e.Ok w 100000000 d) (hs : d.small) (ht : Tb w) :
    Calls Tryd.prog 8 #[.agg e.cells.toArray] w fun en w' => ∃ u, en = .returned u ∧ Loc w NoM w' [row encS w.heap.size 9 u (storyLines e.at_ e.vol d)] := by
  have hL := Loc.nil w NoM
  obtain ⟨ns, hns, hok, hds⟩ := hO.sta.nodes
  have hls := hO.sta.links
  obtain ⟨aon, cn, en, heln⟩ := R_elem hns
  obtain ⟨aol, cl, el, hell⟩ := R_elem hls
  have hat := hO.at_
  have hvol := hO.vol
  have hs1 := e.at_.text_size hat.b hat.n
  have hs2 := hvol.size
  have HN := Lib.hid hok
  have HQ : Hid (∀ n ∈ ns, n.d.wf 100000000 ∧ n.d.ps.length ≤ 1000 ∧ n.d.xs.length ≤ 1000) := Lib.hid (fun n hn => by
    have hm : n.d ∈ d.nodes := by rw [← hds]; exact List.mem_map.2 ⟨n, hn, rfl⟩
    exact ⟨hO.wf.nodes _ hm, hs.ps _ hm, hs.xs _ hm⟩)
  have HK : Hid (∀ l ∈ d.links, l.wf 100000000) := Lib.hid hO.wf.links
  have hnl : ns.length ≤ 1000 := by have := hs.nodes; rw [← hds, List.length_map] at this; exact this
  have hll := hs.links
  obtain ⟨W0, hW0⟩ : ∃ W0, W0 = (⟨#[101, 118, 101, 110, 116, 32]⟩ : ByteArray) ++ e.at_.text ++ ⟨#[32, 118]⟩ ++ itoaB e.vol := ⟨_, rfl⟩
  have HE := Lib.hid (show storyLines e.at_ e.vol d = W0 :: (ns.map (fun n => n.d.line) ++ d.links.map Lnk.line) from by unfold storyLines; rw [← hds, hW0, List.map_map]; rfl)
  have HW0 := Lib.hid hW0
  have en1 : e.na = aon ∧ e.nn = ns.length ∧ e.nc = cn := by unfold Evt.sta Sl.val at en; injection en with a b c; exact ⟨a, b, c⟩
  have el1 : e.la = aol ∧ e.ln = d.links.length ∧ e.lc = cl := by unfold Evt.sta Sl.val at el; injection el with a b c; exact ⟨a, b, c⟩
  clear en el hns hls hO hs hds hok hW0
  unfold Evt.cells
  obtain ⟨r1, r2, r3⟩ := en1
  obtain ⟨r4, r5, r6⟩ := el1
  rw [r1, r2, r3, r4, r5, r6]
  clear r1 r2 r3 r4 r5 r6
  generalize d.links = ls at *
  go_enter Tryd.func8, Tryd.ntmps8
  go_wp2_with (first | ((with_reducible refine gate (N := 1) rfl ?_); (refine ev_boxL rfl hL rfl rfl (by first | exact CellsC.of | exact cells_one (by assumption) (by assumption) | exact cells_agg _ rfl) ?_; clear hL; intro g1 w1 hL)) | ((with_reducible refine gAlloc rfl rfl ?_); (refine ev_allocL rfl hL rfl (by first | exact CellsC.of | exact cells_one (by assumption) (by assumption) | exact cells_agg _ rfl) ?_; clear hL; intro gq wq hL)) | ((with_reducible refine gBox rfl rfl ?_); (refine ev_boxL rfl hL rfl rfl (by first | exact CellsC.of | exact cells_one (by assumption) (by assumption) | exact cells_agg _ rfl) ?_; clear hL; intro gq wq hL)) | ((with_reducible refine gLoad rfl rfl ?_); (first | (refine ev_load1L rfl hL rfl rfl HasV.mem (by rfl) ?_) | (refine ev_loadAllL rfl hL rfl rfl HasV.mem (by rfl) ?_) | (refine ev_loadL rfl hL rfl rfl HasV.mem SegC.seg ?_))) | ((with_reducible refine gStore rfl rfl ?_); (first | (refine ev_storeC rfl hL rfl rfl rfl (by first | exact CellsC.of | exact cells_one (by assumption) (by assumption) | exact cells_agg _ rfl) (by rfl) ?_) | (refine ev_storeAllC rfl hL rfl rfl rfl (by first | exact CellsC.of | exact cells_one (by assumption) (by assumption) | exact cells_agg _ rfl) (by rfl) (by rfl) ?_)); clear hL; intro wq hL) | ((with_reducible refine gLoadG rfl rfl ?_ ?_); (exact wanted_some rfl rfl rfl (by with_reducible rfl)); (first | (refine ev_load1G (wanted_some rfl rfl rfl rfl) hL rfl rfl HasV.mem (by rfl) ?_) | (refine ev_loadAllG (wanted_some rfl rfl rfl rfl) hL rfl rfl HasV.mem (by rfl) ?_) | (refine ev_loadG_ (wanted_some rfl rfl rfl rfl) hL rfl rfl HasV.mem SegC.seg ?_))))
  refine region_qtail 9 (by kernel_rfl) hL (by kernel_rfl) ?_
  clear hL
  intro w5 hL
  have ht2 := ht.below hL.below
  simp only [List.take_succ_cons, List.take_zero, List.drop_succ_cons, List.drop_zero]
  repeat (first | (go_big_quiet_want; (first | refine quiet_load1L hL rfl rfl HasV.mem (by rfl) ?_ | refine quiet_loadAllL hL rfl rfl HasV.mem (by rfl) ?_ | refine quiet_loadL hL rfl rfl HasV.mem SegC.seg ?_); go_big_quiet_on; simp only [Act.put, List.setIfInBounds_toArray, List.set_cons_succ, List.set_cons_zero]) | (go_big_quiet_want; refine quiet_cat rfl rfl rfl (by simp only [ByteArray.size_append, ByteArray.size_mk']; simp; omega) ?_; go_big_quiet_on; simp only [Act.put, List.setIfInBounds_toArray, List.set_cons_succ, List.set_cons_zero]) | go_big_quiet_step (first
    | (go_at_call 23; with_reducible exact stamp_ext ht2 e.at_ hat.b hat.n)
    | (go_at_call 24; with_reducible exact itoa_ext ht2 _ hvol)))
  refine wpQuiet_nil ?_
  rintro _ ⟨⟨w6, hb6⟩, rfl⟩
  replace hL := hL.call hb6
  clear hb6
  rw [← HW0.out]
  clear HW0 hs1 hs2 hat hvol
  go_wp2_with (first
    | ((with_reducible refine gLit rfl rfl ?_); refine ev_litRow (E := encS) (base := w.heap.size) [W0] rfl hL rfl rfl rfl (by kernel_rfl) rfl (Nat.le_refl _) ?_; clear hL; intro gr wq hL)
    | ((with_reducible refine gAlloc rfl rfl ?_); (refine ev_allocL rfl hL rfl (by first | exact CellsC.of | exact cells_one (by assumption) (by assumption) | exact cells_agg _ rfl) ?_; clear hL; intro gq wq hL)) | ((with_reducible refine gBox rfl rfl ?_); (refine ev_boxL rfl hL rfl rfl (by first | exact CellsC.of | exact cells_one (by assumption) (by assumption) | exact cells_agg _ rfl) ?_; clear hL; intro gq wq hL)) | ((with_reducible refine gLoad rfl rfl ?_); (first | (refine ev_load1L rfl hL rfl rfl HasV.mem (by rfl) ?_) | (refine ev_loadAllL rfl hL rfl rfl HasV.mem (by rfl) ?_) | (refine ev_loadL rfl hL rfl rfl HasV.mem SegC.seg ?_))) | ((with_reducible refine gStore rfl rfl ?_); (first | (refine ev_storeC rfl hL rfl rfl rfl (by first | exact CellsC.of | exact cells_one (by assumption) (by assumption) | exact cells_agg _ rfl) (by rfl) ?_) | (refine ev_storeAllC rfl hL rfl rfl rfl (by first | exact CellsC.of | exact cells_one (by assumption) (by assumption) | exact cells_agg _ rfl) (by rfl) (by rfl) ?_)); clear hL; intro wq hL) | ((with_reducible refine gLoadG rfl rfl ?_ ?_); (exact wanted_some rfl rfl rfl (by with_reducible rfl)); (first | (refine ev_load1G (wanted_some rfl rfl rfl rfl) hL rfl rfl HasV.mem (by rfl) ?_) | (refine ev_loadAllG (wanted_some rfl rfl rfl rfl) hL rfl rfl HasV.mem (by rfl) ?_) | (refine ev_loadG_ (wanted_some rfl rfl rfl rfl) hL rfl rfl HasV.mem SegC.seg ?_))))
  replace hL := hL.sub (l' := [row encS w.heap.size 9 (.slice (some ⟨gr, 0, none⟩) 1 1) [W0], _]) (by repeat (first | exact List.nil_sublist _ | with_reducible apply List.Sublist.cons_cons | with_reducible apply List.Sublist.cons))
  go_loopw [3, 22] (fun s i wr => ∃ (k : Nat) (vs : Value), k ≤ ns.length ∧ i = .int .i64 k ∧ s = vs ∧ Loc w NoM wr [row encS w.heap.size 9 vs (W0 :: (ns.take k).map (fun n => n.d.line)), var g1 [.int .i64 e.at_.boot, .int .i64 e.at_.n, .int .i64 e.vol, .int .i64 e.knew.a0, .int .i64 e.knew.a1, .int .i64 e.knew.a2, .int .i64 e.knew.a3, .int .i64 e.knew.a4, .int .i64 e.knew.a5, .int .i64 e.knew.a6, .int .i64 e.knew.a7, .int .i64 e.seen.a0, .int .i64 e.seen.a1, .int .i64 e.seen.a2, .int .i64 e.seen.a3, .int .i64 e.seen.a4, .int .i64 e.seen.a5, .int .i64 e.seen.a6, .int .i64 e.seen.a7, .slice aon ns.length cn, .slice aol ls.length cl] 31]) (fun _ i _ => ns.length - (intOf i).toNat)
  case atStart => exact ⟨0, _, by omega, rfl, rfl, by simpa using hL⟩
  case round =>
    clear hL
    obtain ⟨k, vs, hk, rfl, rfl, hL⟩ := hrel
    by_cases hlt : k < ns.length
    · obtain ⟨g, off, rfl, hr⟩ := heln k hlt
      have hrW : wr.rangeAt g (off + k * 13) (Ino.cells ns[k].s) := range_below hr hL.below
      clear hr
      have hok : ns[k].s.Ok w ns[k].d := HN.out _ (List.getElem_mem hlt)
      obtain ⟨hqw, hqp, hqx⟩ := HQ.out _ (List.getElem_mem hlt)
      have HT := Lib.hid (show W0 :: (ns.take (k + 1)).map (fun n => n.d.line) = (W0 :: (ns.take k).map (fun n => n.d.line)) ++ [ns[k].d.line] by rw [map_take_succ (fun n : Nd => n.d.line) ns k hlt]; rfl)
      have hln : (W0 :: (ns.take k).map (fun n => n.d.line)).length ≤ 2000 := by rw [List.length_cons, List.length_map, List.length_take]; omega
      generalize ns[k] = q at *
      generalize W0 :: (ns.take k).map (fun n => n.d.line) = L at *
      go_wp2_with (first
        | ((with_reducible refine gIndex rfl rfl ?_); refine ev_indexL rfl rfl rfl rfl hlt ?_) | ((with_reducible refine gate (N := 25) rfl ?_); refine ev_loadR rfl rfl rfl hrW (by rfl) ?_)
        | (go_at_call 25; (with_reducible refine (story_inode q.s q.d _ (hok.below hL.below) hqw hqp hqx (ht.below hL.below)).mono ?_); rintro en w3 ⟨rfl, hb3⟩; have hL := hL.call hb3; clear hb3)
        | ((with_reducible refine gLit rfl rfl ?_); refine ev_litL (cs := [.string q.d.line]) rfl hL rfl rfl rfl (by kernel_rfl) ?_; clear hL; intro gq wq hL)
        | ((with_reducible refine gAlloc rfl rfl ?_); (refine ev_allocL rfl hL rfl (by first | exact CellsC.of | exact cells_one (by assumption) (by assumption) | exact cells_agg _ rfl) ?_; clear hL; intro gq wq hL)) | ((with_reducible refine gBox rfl rfl ?_); (refine ev_boxL rfl hL rfl rfl (by first | exact CellsC.of | exact cells_one (by assumption) (by assumption) | exact cells_agg _ rfl) ?_; clear hL; intro gq wq hL)) | ((with_reducible refine gLoad rfl rfl ?_); (first | (refine ev_load1L rfl hL rfl rfl HasV.mem (by rfl) ?_) | (refine ev_loadAllL rfl hL rfl rfl HasV.mem (by rfl) ?_) | (refine ev_loadL rfl hL rfl rfl HasV.mem SegC.seg ?_))) | ((with_reducible refine gStore rfl rfl ?_); (first | (refine ev_storeC rfl hL rfl rfl rfl (by first | exact CellsC.of | exact cells_one (by assumption) (by assumption) | exact cells_agg _ rfl) (by rfl) ?_) | (refine ev_storeAllC rfl hL rfl rfl rfl (by first | exact CellsC.of | exact cells_one (by assumption) (by assumption) | exact cells_agg _ rfl) (by rfl) (by rfl) ?_)); clear hL; intro wq hL) | ((with_reducible refine gLoadG rfl rfl ?_ ?_); (exact wanted_some rfl rfl rfl (by with_reducible rfl)); (first | (refine ev_load1G (wanted_some rfl rfl rfl rfl) hL rfl rfl HasV.mem (by rfl) ?_) | (refine ev_loadAllG (wanted_some rfl rfl rfl rfl) hL rfl rfl HasV.mem (by rfl) ?_) | (refine ev_loadG_ (wanted_some rfl rfl rfl rfl) hL rfl rfl HasV.mem SegC.seg ?_)))
        | (at_builtin; refine ev_app1L (E := encS) q.d.line rfl hL rfl rfl rfl (by first | exact mm0 | exact mm1 | exact mm2 | exact mm3 | exact mm4 | exact mm5 | exact mm6 | exact mm7 | exact mm8) (by first | exact fun _ => ss0 | exact fun _ => ss1 | exact fun _ => ss2 | exact fun _ => ss3 | exact fun _ => ss4 | exact fun _ => ss5 | exact fun _ => ss6) rfl rfl rfl (by omega) hL.size ?_; clear hL; intro ao' c' wq hL))
      go_roundw
      case rel => exact ⟨k + 1, _, by omega, by go_num, rfl, by rw [HT.out]; exact hL.sub (by repeat (first | exact List.nil_sublist _ | with_reducible apply List.Sublist.cons_cons | with_reducible apply List.Sublist.cons))⟩
      case measure => simp [intOf]; omega
    · obtain rfl : k = ns.length := by omega
      have HT0 := Lib.hid (show ns.take ns.length = ns from List.take_length)
      rw [HT0.out] at hL
      obtain ⟨V2, hV2⟩ : ∃ V2, V2 = W0 :: ns.map (fun n => n.d.line) := ⟨_, rfl⟩
      rw [← hV2] at hL
      have hV2l : V2.length ≤ 1500 := by rw [hV2, List.length_cons, List.length_map]; omega
      have HV2 := Lib.hid hV2
      have HV2l := Lib.hid hV2l
      clear hV2 hV2l hk hlt HQ HN
      go_wp2_with (first | ((with_reducible refine gAlloc rfl rfl ?_); (refine ev_allocL rfl hL rfl (by first | exact CellsC.of | exact cells_one (by assumption) (by assumption) | exact cells_agg _ rfl) ?_; clear hL; intro gq wq hL)) | ((with_reducible refine gBox rfl rfl ?_); (refine ev_boxL rfl hL rfl rfl (by first | exact CellsC.of | exact cells_one (by assumption) (by assumption) | exact cells_agg _ rfl) ?_; clear hL; intro gq wq hL)) | ((with_reducible refine gLoad rfl rfl ?_); (first | (refine ev_load1L rfl hL rfl rfl HasV.mem (by rfl) ?_) | (refine ev_loadAllL rfl hL rfl rfl HasV.mem (by rfl) ?_) | (refine ev_loadL rfl hL rfl rfl HasV.mem SegC.seg ?_))) | ((with_reducible refine gStore rfl rfl ?_); (first | (refine ev_storeC rfl hL rfl rfl rfl (by first | exact CellsC.of | exact cells_one (by assumption) (by assumption) | exact cells_agg _ rfl) (by rfl) ?_) | (refine ev_storeAllC rfl hL rfl rfl rfl (by first | exact CellsC.of | exact cells_one (by assumption) (by assumption) | exact cells_agg _ rfl) (by rfl) (by rfl) ?_)); clear hL; intro wq hL) | ((with_reducible refine gLoadG rfl rfl ?_ ?_); (exact wanted_some rfl rfl rfl (by with_reducible rfl)); (first | (refine ev_load1G (wanted_some rfl rfl rfl rfl) hL rfl rfl HasV.mem (by rfl) ?_) | (refine ev_loadAllG (wanted_some rfl rfl rfl rfl) hL rfl rfl HasV.mem (by rfl) ?_) | (refine ev_loadG_ (wanted_some rfl rfl rfl rfl) hL rfl rfl HasV.mem SegC.seg ?_))))
      go_loopw [3, 36] (fun s i wr => ∃ (k : Nat) (vs : Value), k ≤ ls.length ∧ i = .int .i64 k ∧ s = vs ∧ Loc w NoM wr [row encS w.heap.size 9 vs (V2 ++ (ls.take k).map Lnk.line)]) (fun _ i _ => ls.length - (intOf i).toNat)
      case atStart => exact ⟨0, _, by omega, rfl, rfl, by simpa using hL.sub (by repeat (first | exact List.nil_sublist _ | exact List.Sublist.refl _ | with_reducible apply List.Sublist.cons_cons | with_reducible apply List.Sublist.cons))⟩
      case round =>
        clear hL
        obtain ⟨k, vs, hk, rfl, rfl, hL⟩ := hrel
        by_cases hlt : k < ls.length
        · obtain ⟨g, off, rfl, hr⟩ := hell k hlt
          have hrW : World.rangeAt _ g (off + k * 25) (Lnk.cells ls[k]) := range_below hr hL.below
          clear hr
          have hqw := HK.out _ (List.getElem_mem hlt)
          have HT := Lib.hid (show V2 ++ (ls.take (k + 1)).map Lnk.line = (V2 ++ (ls.take k).map Lnk.line) ++ [ls[k].line] by rw [map_take_succ Lnk.line ls k hlt, List.append_assoc])
          have hln : (V2 ++ (ls.take k).map Lnk.line).length ≤ 3000 := by have := HV2l.out; rw [List.length_append, List.length_map, List.length_take]; omega
          generalize ls[k] = q at *
          generalize V2 ++ (ls.take k).map Lnk.line = L at *
          go_wp2_with (first
            | ((with_reducible refine gIndex rfl rfl ?_); refine ev_indexL rfl rfl rfl rfl hlt ?_) | ((with_reducible refine gate (N := 39) rfl ?_); refine ev_loadR rfl rfl rfl hrW (by rfl) ?_)
            | (go_at_call 26; (with_reducible refine (story_link q _ hqw (ht.below hL.below)).mono ?_); rintro en w3 ⟨rfl, hb3⟩; have hL := hL.call hb3; clear hb3)
            | ((with_reducible refine gLit rfl rfl ?_); refine ev_litL (cs := [.string q.line]) rfl hL rfl rfl rfl (by kernel_rfl) ?_; clear hL; intro gq wq hL)
            | ((with_reducible refine gAlloc rfl rfl ?_); (refine ev_allocL rfl hL rfl (by first | exact CellsC.of | exact cells_one (by assumption) (by assumption) | exact cells_agg _ rfl) ?_; clear hL; intro gq wq hL)) | ((with_reducible refine gBox rfl rfl ?_); (refine ev_boxL rfl hL rfl rfl (by first | exact CellsC.of | exact cells_one (by assumption) (by assumption) | exact cells_agg _ rfl) ?_; clear hL; intro gq wq hL)) | ((with_reducible refine gLoad rfl rfl ?_); (first | (refine ev_load1L rfl hL rfl rfl HasV.mem (by rfl) ?_) | (refine ev_loadAllL rfl hL rfl rfl HasV.mem (by rfl) ?_) | (refine ev_loadL rfl hL rfl rfl HasV.mem SegC.seg ?_))) | ((with_reducible refine gStore rfl rfl ?_); (first | (refine ev_storeC rfl hL rfl rfl rfl (by first | exact CellsC.of | exact cells_one (by assumption) (by assumption) | exact cells_agg _ rfl) (by rfl) ?_) | (refine ev_storeAllC rfl hL rfl rfl rfl (by first | exact CellsC.of | exact cells_one (by assumption) (by assumption) | exact cells_agg _ rfl) (by rfl) (by rfl) ?_)); clear hL; intro wq hL) | ((with_reducible refine gLoadG rfl rfl ?_ ?_); (exact wanted_some rfl rfl rfl (by with_reducible rfl)); (first | (refine ev_load1G (wanted_some rfl rfl rfl rfl) hL rfl rfl HasV.mem (by rfl) ?_) | (refine ev_loadAllG (wanted_some rfl rfl rfl rfl) hL rfl rfl HasV.mem (by rfl) ?_) | (refine ev_loadG_ (wanted_some rfl rfl rfl rfl) hL rfl rfl HasV.mem SegC.seg ?_)))
            | (at_builtin; refine ev_app1L (E := encS) q.line rfl hL rfl rfl rfl (by first | exact mm0 | exact mm1 | exact mm2 | exact mm3 | exact mm4 | exact mm5 | exact mm6 | exact mm7 | exact mm8) (by first | exact fun _ => ss0 | exact fun _ => ss1 | exact fun _ => ss2 | exact fun _ => ss3 | exact fun _ => ss4 | exact fun _ => ss5 | exact fun _ => ss6) rfl rfl rfl (by omega) hL.size ?_; clear hL; intro ao' c' wq hL))
          go_roundw
          case rel => exact ⟨k + 1, _, by omega, by go_num, rfl, by rw [HT.out]; exact hL.sub (by repeat (first | exact List.nil_sublist _ | with_reducible apply List.Sublist.cons_cons | with_reducible apply List.Sublist.cons))⟩
          case measure => simp [intOf]; omega
        · obtain rfl : k = ls.length := by omega
          have HT0 := Lib.hid (show ls.take ls.length = ls from List.take_length)
          rw [HT0.out, HV2.out, List.cons_append, ← HE.out] at hL
          go_wp2
          go_ret
          exact ⟨_, rfl, hL⟩
end Go.Proofs.YtebpacmhdkgfeaaDoor

/- slices.Equal of texts, off the shelf, of whatever reads. -/
namespace Go.Proofs.YtebpacmhdkgfeaaDoor
open Go.RowKit

theorem drewN_below (w : World) (q : Nat) : Below w.heap.size w (w.drewN q) := ⟨rfl, rfl, rfl, Nat.le_refl _, fun _ _ => rfl⟩
theorem eq_str (v u : Value) (xs ys : List ByteArray) (w : World) (hx : encS.R w v xs) (hy : encS.R w u ys) :
    Calls Tryd.prog 7 #[v, u] w fun e w' => e = .returned (.bool (decide (xs = ys))) ∧ Below w.heap.size w w' := by
  have mx := R_max hx
  have my := R_max hy
  obtain ⟨a1, c1, rfl, h1⟩ := R_elem hx
  obtain ⟨a2, c2, rfl, h2⟩ := R_elem hy
  by_cases hl : xs.length = ys.length
  · cases xs with
    | nil =>
      obtain rfl : ys = [] := List.eq_nil_of_length_eq_zero hl.symm
      exact (Tryd.slices_Equal_string_empty a1 a2 c1 0 c2 w (by omega)).mono fun e w' ⟨he, hw⟩ => ⟨by rw [he]; rfl, by rw [hw]; exact Below.refl _ _⟩
    | cons x xs =>
      obtain ⟨g1, o1, rfl, -⟩ := h1 0 (by simp)
      obtain ⟨g2, o2, rfl, -⟩ := h2 0 (by rw [← hl]; simp)
      have cell : ∀ {g o : Nat} {zs : List ByteArray}, (∀ i (hi : i < zs.length), ∃ g' off, some (⟨g, o, none⟩ : Addr) = some ⟨g', off, none⟩ ∧ w.rangeAt g' (off + i * encS.sz) (encS.cells zs[i])) → ∀ j, j < zs.length → w.cell? ⟨g, o + j, none⟩ = some (.string (zs.getD j ByteArray.empty)) := fun {g o zs} h j hj => by
        obtain ⟨g', off, e, hr⟩ := h j hj
        injection e with e
        injection e with e1 e2
        subst e1 e2
        have := hr 0 (.string zs[j]) rfl
        rw [List.getD_eq_getElem?_getD, List.getElem?_eq_getElem hj]
        simpa [encS] using this
      refine (Tryd.slices_Equal_string g1 o1 (x :: xs).length c1 g2 o2 ys.length c2 (x :: xs) ys w (Nat.le_refl _) (Nat.le_refl _) mx my (cell h1) (cell h2)).mono fun e w' ⟨he, q, hw⟩ => ⟨?_, by rw [hw]; exact drewN_below w q⟩
      rw [he, List.take_length, List.take_length]
  · exact (Tryd.slices_Equal_string_lens a1 a2 xs.length c1 ys.length c2 w hl).mono fun e w' ⟨he, hw⟩ => ⟨by rw [he]; congr 2; exact (decide_eq_false fun h => hl (by rw [h])).symm, by rw [hw]; exact Below.refl _ _⟩
end Go.Proofs.YtebpacmhdkgfeaaDoor

/- Chapter 29's example. -/
namespace Go.Proofs.YtebpacmhdkgfeaaDoor
open Go.RowKit

def aMk : Mk := ⟨3, 1⟩
def aHd : IHd := ⟨aMk, 1, ⟨#[]⟩, ⟨aMk, 0, 0⟩, ⟨aMk, 0⟩⟩
def aIno : Ino := ⟨aHd, ⟨none, 0, 0⟩, ⟨none, 0, 0⟩⟩
def aNd : Nd := ⟨aIno, ⟨aHd, [], []⟩⟩
def aLnk : Lnk := ⟨aMk, aMk, aMk, ⟨0, 0⟩, ⟨#[102]⟩, ⟨0, 3, 0, 0, 0, 0, 0, 0⟩, V8.zero⟩
def aSta : StaD := ⟨V8.zero, [⟨aHd, [], []⟩], [aLnk]⟩
def aLines : List ByteArray := [⟨#[101, 118, 101, 110, 116, 32, 51, 46, 49, 32, 118, 48]⟩, ⟨#[105, 110, 111, 100, 101, 32, 51, 46, 49, 32, 102, 105, 108, 101, 44, 97, 116, 116, 114, 44, 115, 105, 122, 101, 58, 48]⟩, ⟨#[108, 105, 110, 107, 32, 51, 46, 49, 32, 112, 108, 97, 99, 101, 58, 48, 46, 48, 47, 102, 44, 97, 108, 105, 118, 101]⟩]
theorem itoaB_d (n : Nat) (h : n < 10) : itoaB (n : Int) = ⟨#[dch n]⟩ := by
  unfold itoaB Lib.itoa
  rw [if_neg (by omega)]
  show (⟨(Lib.decDigits n).toArray⟩ : ByteArray) = _
  rw [Lib.decDigits_one h]
  unfold dch
  rw [Nat.mod_eq_of_lt h]
theorem a_lines : storyLines aMk 0 aSta = aLines := by
  have h0 : itoaB 0 = ⟨#[48]⟩ := itoaB_d 0 (by decide)
  have h1 : itoaB 1 = ⟨#[49]⟩ := itoaB_d 1 (by decide)
  have h3 : itoaB 3 = ⟨#[51]⟩ := itoaB_d 3 (by decide)
  simp only [storyLines, aMk, aSta, aHd, aLnk, InoD.line, InoD.ws, IHd.ws, kindWs, Lnk.line, Lnk.ws, Mk.text, Mk.zero, h0, h1, h3, List.map_cons, List.map_nil]
  decide +kernel
theorem a_small : aSta.small := ⟨by decide, by decide, by simp [aSta], by simp [aSta]⟩
theorem i64_small (n : Int) (h : 0 ≤ n ∧ n ≤ 1000) : I64 n := ⟨by omega, by omega⟩
theorem a_wf (B : Nat) (hB : 1 ≤ B) : aSta.wf B := by
  have z : I64 0 := i64_small 0 (by omega)
  have a : aMk.I := ⟨i64_small 3 (by omega), i64_small 1 (by omega)⟩
  have vz : V8.zero.I := v8_i z z z z z z z z
  refine ⟨vz, fun n hn => ?_, fun l hl => ?_⟩
  · obtain rfl := List.mem_singleton.1 hn
    exact ⟨⟨a, i64_small 1 (by omega), by show 0 ≤ B; omega, a, z, by show (0 : Int) ≤ 0 ∧ (0 : Int) ≤ 18446744073709551615; omega, a, z⟩, by simp, by simp⟩
  · obtain rfl := List.mem_singleton.1 hl
    exact ⟨a, a, a, ⟨z, z⟩, by show 1 ≤ B; omega, v8_i z (i64_small 3 (by omega)) z z z z z z, vz⟩
theorem a_about : aSta.about aMk = true := by decide
/-- A guarded slice made of its parts. -/
theorem ev_litLG {P : Program} {ops : Array Oper} {rest : List Oper} {o : Oper} {a : Act} {Q : Exit → Act → World → Prop} {W w0 : World} {M : Nat → Prop} {l : List Item} {t : TypeId} {n : Nat} {parts : Array (Nat × Operand)} {e : TypeId} {sz : Nat} {z : Value} {cs : List Value} [ht : SliceT P t e] [hz : ZeroT P e z] [hs : SizeT P e sz] (hw : Region.wanted o (yielded ops a.tmps) = true) (hL : Loc w0 M W l) (ho : o.op = .buildSlice t n parts)
    (hn : decide (n * sz ≤ 16777216) = true) (h0 : decide (0 < n * sz) = true) (hfill : Instr.fill (fun i => some (i * sz, sz)) ((Array.range (n * sz)).map fun j => z.cells[j % z.cells.size]!) (parts.map fun (i, x) => (i, a.eval x)).toList = some cs.toArray)
    (h : ∀ g w1, Loc w0 M w1 (var g cs e :: l) → wpList P ops Q rest (a.put o.dst (.slice (some ⟨g, 0, none⟩) n n)) w1) : wpList P ops Q (o :: rest) a W := by
  refine eventG hw (v := .slice (some ⟨W.heap.size, 0, none⟩) n n) (w1 := W.alloc (.cells cs.toArray e)) ?_ (h _ _ (hL.callVar (bl_alloc (Below.refl _ _) _) (Box.new W _ e) (Nat.le_refl _)))
  obtain ⟨i, hi, hzz⟩ := Option.map_eq_some_iff.1 hz.zero
  have hsz : i.size = sz := by have := hs.size; simpa [hi] using this
  have h1 : ¬ n * sz > 2 ^ 24 := by have := of_decide_eq_true hn; omega
  have h2 : ¬ n * sz = 0 := by have := of_decide_eq_true h0; omega
  simp at hfill
  simp [execOp, ho, Instr.buildSlice, run_underlying ht.slice, sizeOf, typeInfo, hi, hsz, zeroValue, hzz, h1, h2, hfill, newRow]
theorem gLitG {P : Program} {ops : Array Oper} {rest : List Oper} {o : Oper} {a : Act} {Q : Exit → Act → World → Prop} {W : World} {t : TypeId} {n : Nat} {ps : Array (Nat × Operand)} {g : Nat × Bool} (_hg : o.guard = some g) (_ho : o.op = .buildSlice t n ps) (_h : Region.wanted o (yielded ops a.tmps) = true) (h : wpList P ops Q (o :: rest) a W) : wpList P ops Q (o :: rest) a W := h
def aEvt (gn gl : Nat) : Evt := ⟨aMk, 0, V8.zero, V8.zero, some ⟨gn, 0, none⟩, 1, 1, some ⟨gl, 0, none⟩, 1, 1⟩
theorem a_ok {w w0 : World} {M : Nat → Prop} {l : List Item} {gn gl : Nat} {t1 t2 : TypeId} (B : Nat) (hB : 1 ≤ B) (hL : Loc w0 M w l) (hn : var gn (Ino.cells aIno) t1 ∈ l) (hl : var gl (Lnk.cells aLnk) t2 ∈ l) : (aEvt gn gl).Ok w B aSta := by
  have z : I64 0 := i64_small 0 (by omega)
  refine ⟨⟨rfl, ⟨[aNd], R_box (E := encN) (t := t1) [aNd] (hL.box hn) rfl (by decide), fun n hn => ?_, rfl⟩, R_box (E := encK) (t := t2) [aLnk] (hL.box hl) rfl (by decide)⟩, a_wf B hB, ⟨i64_small 3 (by omega), i64_small 1 (by omega)⟩, z, v8_i z z z z z z z z⟩
  obtain rfl := List.mem_singleton.1 hn
  exact ⟨rfl, Enc.R.none w, Enc.R.none w⟩
end Go.Proofs.YtebpacmhdkgfeaaDoor

/- Chapter 29's example, walked. -/
namespace Go.Proofs.YtebpacmhdkgfeaaDoor
open Go.RowKit

set_option maxHeartbeats 4000000 in
theorem awake29 (w : World) (ht : Tb w) :
    Calls Tryd.prog 10 #[] w fun e w' => e = .returned (.bool true) ∧ Below w.heap.size w w' := by
  have hL := Loc.nil w NoM
  go_enter Tryd.func10, Tryd.ntmps10
  go_wp2_with (first
    | ((with_reducible refine gate (N := 11) rfl ?_); refine ev_litL (cs := Ino.cells aIno) rfl hL rfl rfl rfl (by kernel_rfl) ?_; clear hL; intro gn wq hL)
    | ((with_reducible refine gate (N := 17) rfl ?_); refine ev_litL (cs := Lnk.cells aLnk) rfl hL rfl rfl rfl (by kernel_rfl) ?_; clear hL; intro gl wq hL)
    | ((with_reducible refine gate (N := 22) rfl ?_); refine ev_litL (cs := encS.all aLines) rfl hL rfl rfl rfl (by kernel_rfl) ?_; clear hL; intro gt wq hL)
    | ((with_reducible refine gate (N := 2) rfl ?_); (refine ev_allocL rfl hL rfl (by first | exact CellsC.of | exact cells_one (by assumption) (by assumption) | exact cells_agg _ rfl) ?_; clear hL; intro g2 w2 hL))
    | (go_at_call 8; have hq := story_text (aEvt gn gl) aSta _ (a_ok 100000000 (by decide) hL (by first | exact mm0 | exact mm1 | exact mm2 | exact mm3 | exact mm4 | exact mm5 | exact mm6 | exact mm7 | exact mm8) (by first | exact mm0 | exact mm1 | exact mm2 | exact mm3 | exact mm4 | exact mm5 | exact mm6 | exact mm7 | exact mm8)) a_small (ht.below hL.below); refine hq.mono ?_; rintro e w3 ⟨u, rfl, hL3⟩; have hL := hL.takeRow hL3; clear hL3 hq)
    | (go_at_call 7; have hq := eq_str u (.slice (some ⟨gt, 0, none⟩) 3 3) _ aLines _ (hL.own (E := encS) (v := u) (xs := storyLines (aEvt gn gl).at_ (aEvt gn gl).vol aSta) (base := w.heap.size) (e := 9) (by first | exact mm0 | exact mm1 | exact mm2 | exact mm3 | exact mm4 | exact mm5 | exact mm6 | exact mm7 | exact mm8)).read (R_box (E := encS) (t := 9) aLines (hL.box (by first | exact mm0 | exact mm1 | exact mm2 | exact mm3 | exact mm4 | exact mm5 | exact mm6 | exact mm7 | exact mm8)) rfl (by decide)); rw [decide_eq_true (show storyLines (aEvt gn gl).at_ (aEvt gn gl).vol aSta = aLines from a_lines)] at hq; refine hq.mono ?_; rintro e w3 ⟨rfl, hb3⟩; have hL := hL.call hb3; clear hb3 hq)
    | ((with_reducible refine gLitG rfl rfl ?_ ?_); (exact wanted_some rfl rfl rfl (by with_reducible rfl)); refine ev_litLG (cs := Evt.cells (aEvt gn gl)) (wanted_some rfl rfl rfl rfl) hL rfl rfl rfl (by kernel_rfl) ?_; clear hL; intro ge wq hL)
    | (go_at_call 16; have hq := story_about (.slice (some ⟨ge, 0, none⟩) 1 1) [⟨aEvt gn gl, aSta⟩] aMk 100000000 _ (R_box (E := encEp) (t := 31) [⟨aEvt gn gl, aSta⟩] (hL.box (by first | exact mm0 | exact mm1 | exact mm2 | exact mm3 | exact mm4 | exact mm5 | exact mm6 | exact mm7 | exact mm8)) rfl (by simp)) (fun p hp => by rw [List.mem_singleton.1 hp]; exact a_ok 100000000 (by decide) hL (by first | exact mm0 | exact mm1 | exact mm2 | exact mm3 | exact mm4 | exact mm5 | exact mm6 | exact mm7 | exact mm8) (by first | exact mm0 | exact mm1 | exact mm2 | exact mm3 | exact mm4 | exact mm5 | exact mm6 | exact mm7 | exact mm8)) (by simp); refine hq.mono ?_; rintro e w3 ⟨u2, rfl, hL3⟩; have hL := hL.takeRow hL3; clear hL3 hq; obtain ⟨ao2, c2, e2, -⟩ := R_elem (hL.own (E := encEp) (.head _)).read; subst e2; have hln : ([(⟨aEvt gn gl, aSta⟩ : Ep)].filter fun p => p.d.about aMk).length = 1 := by rw [List.filter_cons_of_pos (by exact a_about)]; rfl)
    | ((with_reducible refine gAlloc rfl rfl ?_); (refine ev_allocL rfl hL rfl (by first | exact CellsC.of | exact cells_one (by assumption) (by assumption) | exact cells_agg _ rfl) ?_; clear hL; intro gq wq hL)) | ((with_reducible refine gBox rfl rfl ?_); (refine ev_boxL rfl hL rfl rfl (by first | exact CellsC.of | exact cells_one (by assumption) (by assumption) | exact cells_agg _ rfl) ?_; clear hL; intro gq wq hL)) | ((with_reducible refine gLoad rfl rfl ?_); (first | (refine ev_load1L rfl hL rfl rfl HasV.mem (by rfl) ?_) | (refine ev_loadAllL rfl hL rfl rfl HasV.mem (by rfl) ?_) | (refine ev_loadL rfl hL rfl rfl HasV.mem SegC.seg ?_))) | ((with_reducible refine gStore rfl rfl ?_); (first | (refine ev_storeC rfl hL rfl rfl rfl (by first | exact CellsC.of | exact cells_one (by assumption) (by assumption) | exact cells_agg _ rfl) (by rfl) ?_) | (refine ev_storeAllC rfl hL rfl rfl rfl (by first | exact CellsC.of | exact cells_one (by assumption) (by assumption) | exact cells_agg _ rfl) (by rfl) (by rfl) ?_)); clear hL; intro wq hL) | ((with_reducible refine gLoadG rfl rfl ?_ ?_); (exact wanted_some rfl rfl rfl (by with_reducible rfl)); (first | (refine ev_load1G (wanted_some rfl rfl rfl rfl) hL rfl rfl HasV.mem (by rfl) ?_) | (refine ev_loadAllG (wanted_some rfl rfl rfl rfl) hL rfl rfl HasV.mem (by rfl) ?_) | (refine ev_loadG_ (wanted_some rfl rfl rfl rfl) hL rfl rfl HasV.mem SegC.seg ?_))))
  go_ret
  exact ⟨rfl, hL.below⟩
end Go.Proofs.YtebpacmhdkgfeaaDoor
