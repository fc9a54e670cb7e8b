/- Texts laid together: Sto10, Sto14, Abo1, IndexN. -/
import Derived.Test.YtebpacmhdkgfeaaDoorMo8
/- Chapter 29: a link's line, the program's side. -/
namespace Go.Proofs.YtebpacmhdkgfeaaDoor
open Go.RowKit
set_option maxHeartbeats 1000000

theorem story_link111 (l : Lnk) (w : World) (hw : l.wf 100000000) (ht : Tb w) (h1 : decide (l.at_ = Mk.zero) = true) (h2 : decide (l.alive = V8.zero) = true) (h3 : decide (l.dead = V8.zero) = true) :
    Calls Tryd.prog 26 #[.agg l.cells.toArray] w fun e w' => e = .returned (.string l.line) ∧ Below w.heap.size w w' := by
  have hL := (Loc.nil w NoM).rowNil encS w.heap.size 9
  obtain ⟨hib, hin⟩ := hw.id
  obtain ⟨hpb, hpn⟩ := hw.parent
  have hnm := hw.name
  have n1 := stamp_nz l.at_
  have n2 := vec_nz l.alive
  have n3 := vec_nz l.dead
  rw [h1] at n1
  rw [h2] at n2
  rw [h3] at n3
  simp only [Bool.not_true, Bool.not_false] at n1 n2 n3
  have hs1 := l.id.text_size hib hin
  have hs2 := l.parent.text_size hpb hpn
  obtain ⟨PW, hPW⟩ : ∃ PW, PW = (⟨#[112, 108, 97, 99, 101, 58]⟩ : ByteArray) ++ l.parent.text ++ ⟨#[47]⟩ ++ l.name := ⟨_, rfl⟩
  have hPs : PW.size ≤ 1000000000 := by rw [hPW]; simp only [ByteArray.size_append, ByteArray.size_mk']; simp; omega
  have hws : l.ws = [] := by
    unfold Lnk.ws
    rw [← hPW]
    simp only [decide_eq_true_eq, decide_eq_false_iff_not] at h1 h2 h3
    simp [h1, h2, h3]
  have HW : Hid (∀ x ∈ ([] : List ByteArray), x.size ≤ 1000000000) := Lib.hid (by
    intro x hx
    simp only [List.mem_cons, List.not_mem_nil, or_false] at hx
    )
  have hJ : (joinB []).size ≤ 10000000000 := by
    have := joinB_le 1000000000 _ HW.out
    simp only [List.length_cons, List.length_nil] at this
    omega
  have HE := Lib.hid (show Lnk.line l = ⟨#[108, 105, 110, 107, 32]⟩ ++ l.id.text ++ ⟨#[32]⟩ ++ joinB [] from by unfold Lnk.line; rw [hws])
  clear hws h1 h2 h3 hw
  have HP := Lib.hid hPW
  clear hPW
  unfold Lnk.cells
  go_enter Tryd.func26, Tryd.ntmps26
  go_wp2_with (first
    | (go_at_call 23; (with_reducible refine (story_stamp l.id _ hib hin (ht.below hL.below)).mono ?_); rintro e w3 ⟨rfl, hb3⟩; have hL := hL.call hb3; clear hb3)
    
    | ((with_reducible refine gCat rfl rfl ?_); refine ev_cat rfl rfl rfl rfl (by simp only [ByteArray.size_append, ByteArray.size_mk']; simp; omega) ?_)
    | (go_at_call 48; have hq := join_b _ _ _ _ (hL.own (E := encS) (by first | exact .head _ | exact .tail _ (.head _) | exact .tail _ (.tail _ (.head _)) | exact .tail _ (.tail _ (.tail _ (.head _))) | exact .tail _ (.tail _ (.tail _ (.tail _ (.head _)))) | exact .tail _ (.tail _ (.tail _ (.tail _ (.tail _ (.head _))))) | exact .tail _ (.tail _ (.tail _ (.tail _ (.tail _ (.tail _ (.head _)))))) | exact .tail _ (.tail _ (.tail _ (.tail _ (.tail _ (.tail _ (.tail _ (.head _))))))) | exact .tail _ (.tail _ (.tail _ (.tail _ (.tail _ (.tail _ (.tail _ (.tail _ (.head _)))))))))) (by first | exact Nat.le_trans hJ (by decide) | exact Nat.le_trans (by simpa using hJ) (by decide)) (by simp); (with_reducible refine hq.mono ?_); rintro e w3 ⟨rfl, hb3⟩; have hL := hL.call hb3; clear hb3 hq)
    | ((with_reducible refine gAlloc rfl rfl ?_); (refine ev_allocL rfl hL rfl (by first | exact cells_agg _ rfl | exact cells_int _ _ | exact cells_str _ | exact cells_bool _ | exact cells_slice _ _ _ | exact cells_ptr _ | exact cells_map _ | exact cells_func _ _ _ | exact cells_nilFunc | exact cells_one (by assumption) (by assumption)) ?_; clear hL; intro gq wq hL)) | ((with_reducible refine gBox rfl rfl ?_); (refine ev_boxL rfl hL rfl rfl (by first | exact cells_agg _ rfl | exact cells_int _ _ | exact cells_str _ | exact cells_bool _ | exact cells_slice _ _ _ | exact cells_ptr _ | exact cells_map _ | exact cells_func _ _ _ | exact cells_nilFunc | exact cells_one (by assumption) (by assumption)) ?_; clear hL; intro gq wq hL)) | ((with_reducible refine gLoad rfl rfl ?_); (first | (refine ev_load1L rfl hL rfl rfl HasV.mem (by rfl) ?_) | (refine ev_loadAllL rfl hL rfl rfl HasV.mem (by rfl) ?_) | (refine ev_loadL rfl hL rfl rfl HasV.mem SegC.seg ?_))) | ((with_reducible refine gStore rfl rfl ?_); (first | (refine ev_storeC rfl hL rfl rfl rfl (by first | exact cells_agg _ rfl | exact cells_int _ _ | exact cells_str _ | exact cells_bool _ | exact cells_slice _ _ _ | exact cells_ptr _ | exact cells_map _ | exact cells_func _ _ _ | exact cells_nilFunc | exact cells_one (by assumption) (by assumption)) (by rfl) ?_) | (refine ev_storeAllC rfl hL rfl rfl rfl (by first | exact cells_agg _ rfl | exact cells_int _ _ | exact cells_str _ | exact cells_bool _ | exact cells_slice _ _ _ | exact cells_ptr _ | exact cells_map _ | exact cells_func _ _ _ | exact cells_nilFunc | exact cells_one (by assumption) (by assumption)) (by rfl) (by rfl) ?_)); clear hL; intro wq hL) | ((with_reducible refine gLoadG rfl rfl ?_ ?_); (exact wanted_some rfl rfl rfl (by with_reducible rfl)); (first | (refine ev_load1G (wanted_some rfl rfl rfl rfl) hL rfl rfl HasV.mem (by rfl) ?_) | (refine ev_loadAllG (wanted_some rfl rfl rfl rfl) hL rfl rfl HasV.mem (by rfl) ?_) | (refine ev_loadG_ (wanted_some rfl rfl rfl rfl) hL rfl rfl HasV.mem SegC.seg ?_)))
    )
  go_ret
  exact ⟨ret_s HE.out.symm, hL.below⟩
theorem story_link110 (l : Lnk) (w : World) (hw : l.wf 100000000) (ht : Tb w) (h1 : decide (l.at_ = Mk.zero) = true) (h2 : decide (l.alive = V8.zero) = true) (h3 : decide (l.dead = V8.zero) = false) :
    Calls Tryd.prog 26 #[.agg l.cells.toArray] w fun e w' => e = .returned (.string l.line) ∧ Below w.heap.size w w' := by
  have hL := (Loc.nil w NoM).rowNil encS w.heap.size 9
  obtain ⟨hib, hin⟩ := hw.id
  obtain ⟨hpb, hpn⟩ := hw.parent
  have hnm := hw.name
  have n1 := stamp_nz l.at_
  have n2 := vec_nz l.alive
  have n3 := vec_nz l.dead
  rw [h1] at n1
  rw [h2] at n2
  rw [h3] at n3
  simp only [Bool.not_true, Bool.not_false] at n1 n2 n3
  have hs1 := l.id.text_size hib hin
  have hs2 := l.parent.text_size hpb hpn
  obtain ⟨PW, hPW⟩ : ∃ PW, PW = (⟨#[112, 108, 97, 99, 101, 58]⟩ : ByteArray) ++ l.parent.text ++ ⟨#[47]⟩ ++ l.name := ⟨_, rfl⟩
  have hPs : PW.size ≤ 1000000000 := by rw [hPW]; simp only [ByteArray.size_append, ByteArray.size_mk']; simp; omega
  have hws : l.ws = [⟨#[100, 101, 97, 100]⟩] := by
    unfold Lnk.ws
    rw [← hPW]
    simp only [decide_eq_true_eq, decide_eq_false_iff_not] at h1 h2 h3
    simp [h1, h2, h3]
  have HW : Hid (∀ x ∈ ([⟨#[100, 101, 97, 100]⟩] : List ByteArray), x.size ≤ 1000000000) := Lib.hid (by
    intro x hx
    simp only [List.mem_cons, List.not_mem_nil, or_false] at hx
    rcases hx with rfl <;> first | exact hPs | (show _ ≤ (1000000000 : Nat); decide))
  have hJ : (joinB [⟨#[100, 101, 97, 100]⟩]).size ≤ 10000000000 := by
    have := joinB_le 1000000000 _ HW.out
    simp only [List.length_cons, List.length_nil] at this
    omega
  have HE := Lib.hid (show Lnk.line l = ⟨#[108, 105, 110, 107, 32]⟩ ++ l.id.text ++ ⟨#[32]⟩ ++ joinB [⟨#[100, 101, 97, 100]⟩] from by unfold Lnk.line; rw [hws])
  clear hws h1 h2 h3 hw
  have HP := Lib.hid hPW
  clear hPW
  unfold Lnk.cells
  go_enter Tryd.func26, Tryd.ntmps26
  go_wp2_with (first
    | (go_at_call 23; (with_reducible refine (story_stamp l.id _ hib hin (ht.below hL.below)).mono ?_); rintro e w3 ⟨rfl, hb3⟩; have hL := hL.call hb3; clear hb3)
    | ((with_reducible refine gate (N := 31) rfl ?_); refine ev_litL (cs := [.string ⟨#[100, 101, 97, 100]⟩]) rfl hL rfl rfl rfl (by kernel_rfl) ?_; clear hL; intro gq wq hL)
    | ((with_reducible refine gCat rfl rfl ?_); refine ev_cat rfl rfl rfl rfl (by simp only [ByteArray.size_append, ByteArray.size_mk']; simp; omega) ?_)
    | (go_at_call 48; have hq := join_b _ _ _ _ (hL.own (E := encS) (by first | exact .head _ | exact .tail _ (.head _) | exact .tail _ (.tail _ (.head _)) | exact .tail _ (.tail _ (.tail _ (.head _))) | exact .tail _ (.tail _ (.tail _ (.tail _ (.head _)))) | exact .tail _ (.tail _ (.tail _ (.tail _ (.tail _ (.head _))))) | exact .tail _ (.tail _ (.tail _ (.tail _ (.tail _ (.tail _ (.head _)))))) | exact .tail _ (.tail _ (.tail _ (.tail _ (.tail _ (.tail _ (.tail _ (.head _))))))) | exact .tail _ (.tail _ (.tail _ (.tail _ (.tail _ (.tail _ (.tail _ (.tail _ (.head _)))))))))) (by first | exact Nat.le_trans hJ (by decide) | exact Nat.le_trans (by simpa using hJ) (by decide)) (by simp); (with_reducible refine hq.mono ?_); rintro e w3 ⟨rfl, hb3⟩; have hL := hL.call hb3; clear hb3 hq)
    | ((with_reducible refine gAlloc rfl rfl ?_); (refine ev_allocL rfl hL rfl (by first | exact cells_agg _ rfl | exact cells_int _ _ | exact cells_str _ | exact cells_bool _ | exact cells_slice _ _ _ | exact cells_ptr _ | exact cells_map _ | exact cells_func _ _ _ | exact cells_nilFunc | exact cells_one (by assumption) (by assumption)) ?_; clear hL; intro gq wq hL)) | ((with_reducible refine gBox rfl rfl ?_); (refine ev_boxL rfl hL rfl rfl (by first | exact cells_agg _ rfl | exact cells_int _ _ | exact cells_str _ | exact cells_bool _ | exact cells_slice _ _ _ | exact cells_ptr _ | exact cells_map _ | exact cells_func _ _ _ | exact cells_nilFunc | exact cells_one (by assumption) (by assumption)) ?_; clear hL; intro gq wq hL)) | ((with_reducible refine gLoad rfl rfl ?_); (first | (refine ev_load1L rfl hL rfl rfl HasV.mem (by rfl) ?_) | (refine ev_loadAllL rfl hL rfl rfl HasV.mem (by rfl) ?_) | (refine ev_loadL rfl hL rfl rfl HasV.mem SegC.seg ?_))) | ((with_reducible refine gStore rfl rfl ?_); (first | (refine ev_storeC rfl hL rfl rfl rfl (by first | exact cells_agg _ rfl | exact cells_int _ _ | exact cells_str _ | exact cells_bool _ | exact cells_slice _ _ _ | exact cells_ptr _ | exact cells_map _ | exact cells_func _ _ _ | exact cells_nilFunc | exact cells_one (by assumption) (by assumption)) (by rfl) ?_) | (refine ev_storeAllC rfl hL rfl rfl rfl (by first | exact cells_agg _ rfl | exact cells_int _ _ | exact cells_str _ | exact cells_bool _ | exact cells_slice _ _ _ | exact cells_ptr _ | exact cells_map _ | exact cells_func _ _ _ | exact cells_nilFunc | exact cells_one (by assumption) (by assumption)) (by rfl) (by rfl) ?_)); clear hL; intro wq hL) | ((with_reducible refine gLoadG rfl rfl ?_ ?_); (exact wanted_some rfl rfl rfl (by with_reducible rfl)); (first | (refine ev_load1G (wanted_some rfl rfl rfl rfl) hL rfl rfl HasV.mem (by rfl) ?_) | (refine ev_loadAllG (wanted_some rfl rfl rfl rfl) hL rfl rfl HasV.mem (by rfl) ?_) | (refine ev_loadG_ (wanted_some rfl rfl rfl rfl) hL rfl rfl HasV.mem SegC.seg ?_)))
    | (at_builtin; refine ev_app1M (E := encS) (⟨#[100, 101, 97, 100]⟩) 1 [⟨#[100, 101, 97, 100]⟩] rfl hL rfl rfl rfl (by first | exact .head _ | exact .tail _ (.head _) | exact .tail _ (.tail _ (.head _)) | exact .tail _ (.tail _ (.tail _ (.head _))) | exact .tail _ (.tail _ (.tail _ (.tail _ (.head _)))) | exact .tail _ (.tail _ (.tail _ (.tail _ (.tail _ (.head _))))) | exact .tail _ (.tail _ (.tail _ (.tail _ (.tail _ (.tail _ (.head _)))))) | exact .tail _ (.tail _ (.tail _ (.tail _ (.tail _ (.tail _ (.tail _ (.head _))))))) | exact .tail _ (.tail _ (.tail _ (.tail _ (.tail _ (.tail _ (.tail _ (.tail _ (.head _))))))))) rfl rfl rfl (by first | exact fun _ => .here _ | exact fun _ => .there _ (.here _) | exact fun _ => .there _ (.there _ (.here _)) | exact fun _ => .there _ (.there _ (.there _ (.here _))) | exact fun _ => .there _ (.there _ (.there _ (.there _ (.here _)))) | exact fun _ => .there _ (.there _ (.there _ (.there _ (.there _ (.here _))))) | exact fun _ => .there _ (.there _ (.there _ (.there _ (.there _ (.there _ (.here _))))))) rfl rfl (by decide) hL.size ?_; clear hL; intro ao' c' wq hL))
  go_ret
  exact ⟨ret_s HE.out.symm, hL.below⟩
theorem story_link101 (l : Lnk) (w : World) (hw : l.wf 100000000) (ht : Tb w) (h1 : decide (l.at_ = Mk.zero) = true) (h2 : decide (l.alive = V8.zero) = false) (h3 : decide (l.dead = V8.zero) = true) :
    Calls Tryd.prog 26 #[.agg l.cells.toArray] w fun e w' => e = .returned (.string l.line) ∧ Below w.heap.size w w' := by
  have hL := (Loc.nil w NoM).rowNil encS w.heap.size 9
  obtain ⟨hib, hin⟩ := hw.id
  obtain ⟨hpb, hpn⟩ := hw.parent
  have hnm := hw.name
  have n1 := stamp_nz l.at_
  have n2 := vec_nz l.alive
  have n3 := vec_nz l.dead
  rw [h1] at n1
  rw [h2] at n2
  rw [h3] at n3
  simp only [Bool.not_true, Bool.not_false] at n1 n2 n3
  have hs1 := l.id.text_size hib hin
  have hs2 := l.parent.text_size hpb hpn
  obtain ⟨PW, hPW⟩ : ∃ PW, PW = (⟨#[112, 108, 97, 99, 101, 58]⟩ : ByteArray) ++ l.parent.text ++ ⟨#[47]⟩ ++ l.name := ⟨_, rfl⟩
  have hPs : PW.size ≤ 1000000000 := by rw [hPW]; simp only [ByteArray.size_append, ByteArray.size_mk']; simp; omega
  have hws : l.ws = [⟨#[97, 108, 105, 118, 101]⟩] := by
    unfold Lnk.ws
    rw [← hPW]
    simp only [decide_eq_true_eq, decide_eq_false_iff_not] at h1 h2 h3
    simp [h1, h2, h3]
  have HW : Hid (∀ x ∈ ([⟨#[97, 108, 105, 118, 101]⟩] : List ByteArray), x.size ≤ 1000000000) := Lib.hid (by
    intro x hx
    simp only [List.mem_cons, List.not_mem_nil, or_false] at hx
    rcases hx with rfl <;> first | exact hPs | (show _ ≤ (1000000000 : Nat); decide))
  have hJ : (joinB [⟨#[97, 108, 105, 118, 101]⟩]).size ≤ 10000000000 := by
    have := joinB_le 1000000000 _ HW.out
    simp only [List.length_cons, List.length_nil] at this
    omega
  have HE := Lib.hid (show Lnk.line l = ⟨#[108, 105, 110, 107, 32]⟩ ++ l.id.text ++ ⟨#[32]⟩ ++ joinB [⟨#[97, 108, 105, 118, 101]⟩] from by unfold Lnk.line; rw [hws])
  clear hws h1 h2 h3 hw
  have HP := Lib.hid hPW
  clear hPW
  unfold Lnk.cells
  go_enter Tryd.func26, Tryd.ntmps26
  go_wp2_with (first
    | (go_at_call 23; (with_reducible refine (story_stamp l.id _ hib hin (ht.below hL.below)).mono ?_); rintro e w3 ⟨rfl, hb3⟩; have hL := hL.call hb3; clear hb3)
    | ((with_reducible refine gate (N := 24) rfl ?_); refine ev_litL (cs := [.string ⟨#[97, 108, 105, 118, 101]⟩]) rfl hL rfl rfl rfl (by kernel_rfl) ?_; clear hL; intro gq wq hL)
    | ((with_reducible refine gCat rfl rfl ?_); refine ev_cat rfl rfl rfl rfl (by simp only [ByteArray.size_append, ByteArray.size_mk']; simp; omega) ?_)
    | (go_at_call 48; have hq := join_b _ _ _ _ (hL.own (E := encS) (by first | exact .head _ | exact .tail _ (.head _) | exact .tail _ (.tail _ (.head _)) | exact .tail _ (.tail _ (.tail _ (.head _))) | exact .tail _ (.tail _ (.tail _ (.tail _ (.head _)))) | exact .tail _ (.tail _ (.tail _ (.tail _ (.tail _ (.head _))))) | exact .tail _ (.tail _ (.tail _ (.tail _ (.tail _ (.tail _ (.head _)))))) | exact .tail _ (.tail _ (.tail _ (.tail _ (.tail _ (.tail _ (.tail _ (.head _))))))) | exact .tail _ (.tail _ (.tail _ (.tail _ (.tail _ (.tail _ (.tail _ (.tail _ (.head _)))))))))) (by first | exact Nat.le_trans hJ (by decide) | exact Nat.le_trans (by simpa using hJ) (by decide)) (by simp); (with_reducible refine hq.mono ?_); rintro e w3 ⟨rfl, hb3⟩; have hL := hL.call hb3; clear hb3 hq)
    | ((with_reducible refine gAlloc rfl rfl ?_); (refine ev_allocL rfl hL rfl (by first | exact cells_agg _ rfl | exact cells_int _ _ | exact cells_str _ | exact cells_bool _ | exact cells_slice _ _ _ | exact cells_ptr _ | exact cells_map _ | exact cells_func _ _ _ | exact cells_nilFunc | exact cells_one (by assumption) (by assumption)) ?_; clear hL; intro gq wq hL)) | ((with_reducible refine gBox rfl rfl ?_); (refine ev_boxL rfl hL rfl rfl (by first | exact cells_agg _ rfl | exact cells_int _ _ | exact cells_str _ | exact cells_bool _ | exact cells_slice _ _ _ | exact cells_ptr _ | exact cells_map _ | exact cells_func _ _ _ | exact cells_nilFunc | exact cells_one (by assumption) (by assumption)) ?_; clear hL; intro gq wq hL)) | ((with_reducible refine gLoad rfl rfl ?_); (first | (refine ev_load1L rfl hL rfl rfl HasV.mem (by rfl) ?_) | (refine ev_loadAllL rfl hL rfl rfl HasV.mem (by rfl) ?_) | (refine ev_loadL rfl hL rfl rfl HasV.mem SegC.seg ?_))) | ((with_reducible refine gStore rfl rfl ?_); (first | (refine ev_storeC rfl hL rfl rfl rfl (by first | exact cells_agg _ rfl | exact cells_int _ _ | exact cells_str _ | exact cells_bool _ | exact cells_slice _ _ _ | exact cells_ptr _ | exact cells_map _ | exact cells_func _ _ _ | exact cells_nilFunc | exact cells_one (by assumption) (by assumption)) (by rfl) ?_) | (refine ev_storeAllC rfl hL rfl rfl rfl (by first | exact cells_agg _ rfl | exact cells_int _ _ | exact cells_str _ | exact cells_bool _ | exact cells_slice _ _ _ | exact cells_ptr _ | exact cells_map _ | exact cells_func _ _ _ | exact cells_nilFunc | exact cells_one (by assumption) (by assumption)) (by rfl) (by rfl) ?_)); clear hL; intro wq hL) | ((with_reducible refine gLoadG rfl rfl ?_ ?_); (exact wanted_some rfl rfl rfl (by with_reducible rfl)); (first | (refine ev_load1G (wanted_some rfl rfl rfl rfl) hL rfl rfl HasV.mem (by rfl) ?_) | (refine ev_loadAllG (wanted_some rfl rfl rfl rfl) hL rfl rfl HasV.mem (by rfl) ?_) | (refine ev_loadG_ (wanted_some rfl rfl rfl rfl) hL rfl rfl HasV.mem SegC.seg ?_)))
    | (at_builtin; refine ev_app1M (E := encS) (⟨#[97, 108, 105, 118, 101]⟩) 1 [⟨#[97, 108, 105, 118, 101]⟩] rfl hL rfl rfl rfl (by first | exact .head _ | exact .tail _ (.head _) | exact .tail _ (.tail _ (.head _)) | exact .tail _ (.tail _ (.tail _ (.head _))) | exact .tail _ (.tail _ (.tail _ (.tail _ (.head _)))) | exact .tail _ (.tail _ (.tail _ (.tail _ (.tail _ (.head _))))) | exact .tail _ (.tail _ (.tail _ (.tail _ (.tail _ (.tail _ (.head _)))))) | exact .tail _ (.tail _ (.tail _ (.tail _ (.tail _ (.tail _ (.tail _ (.head _))))))) | exact .tail _ (.tail _ (.tail _ (.tail _ (.tail _ (.tail _ (.tail _ (.tail _ (.head _))))))))) rfl rfl rfl (by first | exact fun _ => .here _ | exact fun _ => .there _ (.here _) | exact fun _ => .there _ (.there _ (.here _)) | exact fun _ => .there _ (.there _ (.there _ (.here _))) | exact fun _ => .there _ (.there _ (.there _ (.there _ (.here _)))) | exact fun _ => .there _ (.there _ (.there _ (.there _ (.there _ (.here _))))) | exact fun _ => .there _ (.there _ (.there _ (.there _ (.there _ (.there _ (.here _))))))) rfl rfl (by decide) hL.size ?_; clear hL; intro ao' c' wq hL))
  go_ret
  exact ⟨ret_s HE.out.symm, hL.below⟩
theorem story_link100 (l : Lnk) (w : World) (hw : l.wf 100000000) (ht : Tb w) (h1 : decide (l.at_ = Mk.zero) = true) (h2 : decide (l.alive = V8.zero) = false) (h3 : decide (l.dead = V8.zero) = false) :
    Calls Tryd.prog 26 #[.agg l.cells.toArray] w fun e w' => e = .returned (.string l.line) ∧ Below w.heap.size w w' := by
  have hL := (Loc.nil w NoM).rowNil encS w.heap.size 9
  obtain ⟨hib, hin⟩ := hw.id
  obtain ⟨hpb, hpn⟩ := hw.parent
  have hnm := hw.name
  have n1 := stamp_nz l.at_
  have n2 := vec_nz l.alive
  have n3 := vec_nz l.dead
  rw [h1] at n1
  rw [h2] at n2
  rw [h3] at n3
  simp only [Bool.not_true, Bool.not_false] at n1 n2 n3
  have hs1 := l.id.text_size hib hin
  have hs2 := l.parent.text_size hpb hpn
  obtain ⟨PW, hPW⟩ : ∃ PW, PW = (⟨#[112, 108, 97, 99, 101, 58]⟩ : ByteArray) ++ l.parent.text ++ ⟨#[47]⟩ ++ l.name := ⟨_, rfl⟩
  have hPs : PW.size ≤ 1000000000 := by rw [hPW]; simp only [ByteArray.size_append, ByteArray.size_mk']; simp; omega
  have hws : l.ws = [⟨#[97, 108, 105, 118, 101]⟩, ⟨#[100, 101, 97, 100]⟩] := by
    unfold Lnk.ws
    rw [← hPW]
    simp only [decide_eq_true_eq, decide_eq_false_iff_not] at h1 h2 h3
    simp [h1, h2, h3]
  have HW : Hid (∀ x ∈ ([⟨#[97, 108, 105, 118, 101]⟩, ⟨#[100, 101, 97, 100]⟩] : List ByteArray), x.size ≤ 1000000000) := Lib.hid (by
    intro x hx
    simp only [List.mem_cons, List.not_mem_nil, or_false] at hx
    rcases hx with rfl | rfl <;> first | exact hPs | (show _ ≤ (1000000000 : Nat); decide))
  have hJ : (joinB [⟨#[97, 108, 105, 118, 101]⟩, ⟨#[100, 101, 97, 100]⟩]).size ≤ 10000000000 := by
    have := joinB_le 1000000000 _ HW.out
    simp only [List.length_cons, List.length_nil] at this
    omega
  have HE := Lib.hid (show Lnk.line l = ⟨#[108, 105, 110, 107, 32]⟩ ++ l.id.text ++ ⟨#[32]⟩ ++ joinB [⟨#[97, 108, 105, 118, 101]⟩, ⟨#[100, 101, 97, 100]⟩] from by unfold Lnk.line; rw [hws])
  clear hws h1 h2 h3 hw
  have HP := Lib.hid hPW
  clear hPW
  unfold Lnk.cells
  go_enter Tryd.func26, Tryd.ntmps26
  go_wp2_with (first
    | (go_at_call 23; (with_reducible refine (story_stamp l.id _ hib hin (ht.below hL.below)).mono ?_); rintro e w3 ⟨rfl, hb3⟩; have hL := hL.call hb3; clear hb3)
    | ((with_reducible refine gate (N := 24) rfl ?_); refine ev_litL (cs := [.string ⟨#[97, 108, 105, 118, 101]⟩]) rfl hL rfl rfl rfl (by kernel_rfl) ?_; clear hL; intro gq wq hL)
    | ((with_reducible refine gate (N := 31) rfl ?_); refine ev_litL (cs := [.string ⟨#[100, 101, 97, 100]⟩]) rfl hL rfl rfl rfl (by kernel_rfl) ?_; clear hL; intro gq wq hL)
    | ((with_reducible refine gCat rfl rfl ?_); refine ev_cat rfl rfl rfl rfl (by simp only [ByteArray.size_append, ByteArray.size_mk']; simp; omega) ?_)
    | (go_at_call 48; have hq := join_b _ _ _ _ (hL.own (E := encS) (by first | exact .head _ | exact .tail _ (.head _) | exact .tail _ (.tail _ (.head _)) | exact .tail _ (.tail _ (.tail _ (.head _))) | exact .tail _ (.tail _ (.tail _ (.tail _ (.head _)))) | exact .tail _ (.tail _ (.tail _ (.tail _ (.tail _ (.head _))))) | exact .tail _ (.tail _ (.tail _ (.tail _ (.tail _ (.tail _ (.head _)))))) | exact .tail _ (.tail _ (.tail _ (.tail _ (.tail _ (.tail _ (.tail _ (.head _))))))) | exact .tail _ (.tail _ (.tail _ (.tail _ (.tail _ (.tail _ (.tail _ (.tail _ (.head _)))))))))) (by first | exact Nat.le_trans hJ (by decide) | exact Nat.le_trans (by simpa using hJ) (by decide)) (by simp); (with_reducible refine hq.mono ?_); rintro e w3 ⟨rfl, hb3⟩; have hL := hL.call hb3; clear hb3 hq)
    | ((with_reducible refine gAlloc rfl rfl ?_); (refine ev_allocL rfl hL rfl (by first | exact cells_agg _ rfl | exact cells_int _ _ | exact cells_str _ | exact cells_bool _ | exact cells_slice _ _ _ | exact cells_ptr _ | exact cells_map _ | exact cells_func _ _ _ | exact cells_nilFunc | exact cells_one (by assumption) (by assumption)) ?_; clear hL; intro gq wq hL)) | ((with_reducible refine gBox rfl rfl ?_); (refine ev_boxL rfl hL rfl rfl (by first | exact cells_agg _ rfl | exact cells_int _ _ | exact cells_str _ | exact cells_bool _ | exact cells_slice _ _ _ | exact cells_ptr _ | exact cells_map _ | exact cells_func _ _ _ | exact cells_nilFunc | exact cells_one (by assumption) (by assumption)) ?_; clear hL; intro gq wq hL)) | ((with_reducible refine gLoad rfl rfl ?_); (first | (refine ev_load1L rfl hL rfl rfl HasV.mem (by rfl) ?_) | (refine ev_loadAllL rfl hL rfl rfl HasV.mem (by rfl) ?_) | (refine ev_loadL rfl hL rfl rfl HasV.mem SegC.seg ?_))) | ((with_reducible refine gStore rfl rfl ?_); (first | (refine ev_storeC rfl hL rfl rfl rfl (by first | exact cells_agg _ rfl | exact cells_int _ _ | exact cells_str _ | exact cells_bool _ | exact cells_slice _ _ _ | exact cells_ptr _ | exact cells_map _ | exact cells_func _ _ _ | exact cells_nilFunc | exact cells_one (by assumption) (by assumption)) (by rfl) ?_) | (refine ev_storeAllC rfl hL rfl rfl rfl (by first | exact cells_agg _ rfl | exact cells_int _ _ | exact cells_str _ | exact cells_bool _ | exact cells_slice _ _ _ | exact cells_ptr _ | exact cells_map _ | exact cells_func _ _ _ | exact cells_nilFunc | exact cells_one (by assumption) (by assumption)) (by rfl) (by rfl) ?_)); clear hL; intro wq hL) | ((with_reducible refine gLoadG rfl rfl ?_ ?_); (exact wanted_some rfl rfl rfl (by with_reducible rfl)); (first | (refine ev_load1G (wanted_some rfl rfl rfl rfl) hL rfl rfl HasV.mem (by rfl) ?_) | (refine ev_loadAllG (wanted_some rfl rfl rfl rfl) hL rfl rfl HasV.mem (by rfl) ?_) | (refine ev_loadG_ (wanted_some rfl rfl rfl rfl) hL rfl rfl HasV.mem SegC.seg ?_)))
    | (at_builtin; refine ev_app1M (E := encS) (⟨#[97, 108, 105, 118, 101]⟩) 1 [⟨#[97, 108, 105, 118, 101]⟩] rfl hL rfl rfl rfl (by first | exact .head _ | exact .tail _ (.head _) | exact .tail _ (.tail _ (.head _)) | exact .tail _ (.tail _ (.tail _ (.head _))) | exact .tail _ (.tail _ (.tail _ (.tail _ (.head _)))) | exact .tail _ (.tail _ (.tail _ (.tail _ (.tail _ (.head _))))) | exact .tail _ (.tail _ (.tail _ (.tail _ (.tail _ (.tail _ (.head _)))))) | exact .tail _ (.tail _ (.tail _ (.tail _ (.tail _ (.tail _ (.tail _ (.head _))))))) | exact .tail _ (.tail _ (.tail _ (.tail _ (.tail _ (.tail _ (.tail _ (.tail _ (.head _))))))))) rfl rfl rfl (by first | exact fun _ => .here _ | exact fun _ => .there _ (.here _) | exact fun _ => .there _ (.there _ (.here _)) | exact fun _ => .there _ (.there _ (.there _ (.here _))) | exact fun _ => .there _ (.there _ (.there _ (.there _ (.here _)))) | exact fun _ => .there _ (.there _ (.there _ (.there _ (.there _ (.here _))))) | exact fun _ => .there _ (.there _ (.there _ (.there _ (.there _ (.there _ (.here _))))))) rfl rfl (by decide) hL.size ?_; clear hL; intro ao' c' wq hL)
    | (at_builtin; refine ev_app1M (E := encS) (⟨#[100, 101, 97, 100]⟩) 2 [⟨#[97, 108, 105, 118, 101]⟩, ⟨#[100, 101, 97, 100]⟩] rfl hL rfl rfl rfl (by first | exact .head _ | exact .tail _ (.head _) | exact .tail _ (.tail _ (.head _)) | exact .tail _ (.tail _ (.tail _ (.head _))) | exact .tail _ (.tail _ (.tail _ (.tail _ (.head _)))) | exact .tail _ (.tail _ (.tail _ (.tail _ (.tail _ (.head _))))) | exact .tail _ (.tail _ (.tail _ (.tail _ (.tail _ (.tail _ (.head _)))))) | exact .tail _ (.tail _ (.tail _ (.tail _ (.tail _ (.tail _ (.tail _ (.head _))))))) | exact .tail _ (.tail _ (.tail _ (.tail _ (.tail _ (.tail _ (.tail _ (.tail _ (.head _))))))))) rfl rfl rfl (by first | exact fun _ => .here _ | exact fun _ => .there _ (.here _) | exact fun _ => .there _ (.there _ (.here _)) | exact fun _ => .there _ (.there _ (.there _ (.here _))) | exact fun _ => .there _ (.there _ (.there _ (.there _ (.here _)))) | exact fun _ => .there _ (.there _ (.there _ (.there _ (.there _ (.here _))))) | exact fun _ => .there _ (.there _ (.there _ (.there _ (.there _ (.there _ (.here _))))))) rfl rfl (by decide) hL.size ?_; clear hL; intro ao' c' wq hL))
  go_ret
  exact ⟨ret_s HE.out.symm, hL.below⟩
theorem story_link011 (l : Lnk) (w : World) (hw : l.wf 100000000) (ht : Tb w) (h1 : decide (l.at_ = Mk.zero) = false) (h2 : decide (l.alive = V8.zero) = true) (h3 : decide (l.dead = V8.zero) = true) :
    Calls Tryd.prog 26 #[.agg l.cells.toArray] w fun e w' => e = .returned (.string l.line) ∧ Below w.heap.size w w' := by
  have hL := (Loc.nil w NoM).rowNil encS w.heap.size 9
  obtain ⟨hib, hin⟩ := hw.id
  obtain ⟨hpb, hpn⟩ := hw.parent
  have hnm := hw.name
  have n1 := stamp_nz l.at_
  have n2 := vec_nz l.alive
  have n3 := vec_nz l.dead
  rw [h1] at n1
  rw [h2] at n2
  rw [h3] at n3
  simp only [Bool.not_true, Bool.not_false] at n1 n2 n3
  have hs1 := l.id.text_size hib hin
  have hs2 := l.parent.text_size hpb hpn
  obtain ⟨PW, hPW⟩ : ∃ PW, PW = (⟨#[112, 108, 97, 99, 101, 58]⟩ : ByteArray) ++ l.parent.text ++ ⟨#[47]⟩ ++ l.name := ⟨_, rfl⟩
  have hPs : PW.size ≤ 1000000000 := by rw [hPW]; simp only [ByteArray.size_append, ByteArray.size_mk']; simp; omega
  have hws : l.ws = [PW] := by
    unfold Lnk.ws
    rw [← hPW]
    simp only [decide_eq_true_eq, decide_eq_false_iff_not] at h1 h2 h3
    simp [h1, h2, h3]
  have HW : Hid (∀ x ∈ ([PW] : List ByteArray), x.size ≤ 1000000000) := Lib.hid (by
    intro x hx
    simp only [List.mem_cons, List.not_mem_nil, or_false] at hx
    rcases hx with rfl <;> first | exact hPs | (show _ ≤ (1000000000 : Nat); decide))
  have hJ : (joinB [PW]).size ≤ 10000000000 := by
    have := joinB_le 1000000000 _ HW.out
    simp only [List.length_cons, List.length_nil] at this
    omega
  have HE := Lib.hid (show Lnk.line l = ⟨#[108, 105, 110, 107, 32]⟩ ++ l.id.text ++ ⟨#[32]⟩ ++ joinB [PW] from by unfold Lnk.line; rw [hws])
  clear hws h1 h2 h3 hw
  have HP := Lib.hid hPW
  clear hPW
  unfold Lnk.cells
  go_enter Tryd.func26, Tryd.ntmps26
  go_wp2_with (first | ((with_reducible refine gAlloc rfl rfl ?_); (refine ev_allocL rfl hL rfl (by first | exact cells_agg _ rfl | exact cells_int _ _ | exact cells_str _ | exact cells_bool _ | exact cells_slice _ _ _ | exact cells_ptr _ | exact cells_map _ | exact cells_func _ _ _ | exact cells_nilFunc | exact cells_one (by assumption) (by assumption)) ?_; clear hL; intro gq wq hL)) | ((with_reducible refine gBox rfl rfl ?_); (refine ev_boxL rfl hL rfl rfl (by first | exact cells_agg _ rfl | exact cells_int _ _ | exact cells_str _ | exact cells_bool _ | exact cells_slice _ _ _ | exact cells_ptr _ | exact cells_map _ | exact cells_func _ _ _ | exact cells_nilFunc | exact cells_one (by assumption) (by assumption)) ?_; clear hL; intro gq wq hL)) | ((with_reducible refine gLoad rfl rfl ?_); (first | (refine ev_load1L rfl hL rfl rfl HasV.mem (by rfl) ?_) | (refine ev_loadAllL rfl hL rfl rfl HasV.mem (by rfl) ?_) | (refine ev_loadL rfl hL rfl rfl HasV.mem SegC.seg ?_))) | ((with_reducible refine gStore rfl rfl ?_); (first | (refine ev_storeC rfl hL rfl rfl rfl (by first | exact cells_agg _ rfl | exact cells_int _ _ | exact cells_str _ | exact cells_bool _ | exact cells_slice _ _ _ | exact cells_ptr _ | exact cells_map _ | exact cells_func _ _ _ | exact cells_nilFunc | exact cells_one (by assumption) (by assumption)) (by rfl) ?_) | (refine ev_storeAllC rfl hL rfl rfl rfl (by first | exact cells_agg _ rfl | exact cells_int _ _ | exact cells_str _ | exact cells_bool _ | exact cells_slice _ _ _ | exact cells_ptr _ | exact cells_map _ | exact cells_func _ _ _ | exact cells_nilFunc | exact cells_one (by assumption) (by assumption)) (by rfl) (by rfl) ?_)); clear hL; intro wq hL) | ((with_reducible refine gLoadG rfl rfl ?_ ?_); (exact wanted_some rfl rfl rfl (by with_reducible rfl)); (first | (refine ev_load1G (wanted_some rfl rfl rfl rfl) hL rfl rfl HasV.mem (by rfl) ?_) | (refine ev_loadAllG (wanted_some rfl rfl rfl rfl) hL rfl rfl HasV.mem (by rfl) ?_) | (refine ev_loadG_ (wanted_some rfl rfl rfl rfl) hL rfl rfl HasV.mem SegC.seg ?_))))
  refine region_qtail1 9 (by kernel_rfl) hL (by rfl) (by rfl) (by kernel_rfl) (by kernel_rfl) (by kernel_rfl) (by kernel_rfl) (fun _ _ _ _ h => h) ?_
  clear hL
  intro w5 hL
  have ht2 := ht.below hL.below
  simp only [List.take_succ_cons, List.take_zero, List.drop_succ_cons, List.drop_zero, Act.put, List.setIfInBounds_toArray, List.set_cons_succ, List.set_cons_zero]
  repeat (first | (go_big_quiet_want; (first | refine quiet_load1L hL rfl rfl HasV.mem (by rfl) ?_ | refine quiet_loadAllL hL rfl rfl HasV.mem (by rfl) ?_ | refine quiet_loadL hL rfl rfl HasV.mem SegC.seg ?_); go_big_quiet_on; simp only [Act.put, List.setIfInBounds_toArray, List.set_cons_succ, List.set_cons_zero]) | (go_big_quiet_want; refine quiet_cat rfl rfl rfl (by simp only [ByteArray.size_append, ByteArray.size_mk']; simp; omega) ?_; go_big_quiet_on; simp only [Act.put, List.setIfInBounds_toArray, List.set_cons_succ, List.set_cons_zero]) | go_big_quiet_step (first
    | (go_at_call 23; with_reducible exact stamp_ext ht2 l.parent hpb hpn)))
  refine wpQuiet_nil ?_
  rintro _ ⟨⟨w6, hb6⟩, rfl⟩
  have hL := hL.call hb6
  clear hb6
  rw [← HP.out]
  go_wp2_with (first
    | (go_at_call 23; (with_reducible refine (story_stamp l.id _ hib hin (ht.below hL.below)).mono ?_); rintro e w3 ⟨rfl, hb3⟩; have hL := hL.call hb3; clear hb3)
    | ((with_reducible refine gate (N := 17) rfl ?_); refine ev_litL (cs := [.string PW]) rfl hL rfl rfl rfl (by kernel_rfl) ?_; clear hL; intro gq wq hL)
    | ((with_reducible refine gCat rfl rfl ?_); refine ev_cat rfl rfl rfl rfl (by simp only [ByteArray.size_append, ByteArray.size_mk']; simp; omega) ?_)
    | (go_at_call 48; have hq := join_b _ _ _ _ (hL.own (E := encS) (by first | exact .head _ | exact .tail _ (.head _) | exact .tail _ (.tail _ (.head _)) | exact .tail _ (.tail _ (.tail _ (.head _))) | exact .tail _ (.tail _ (.tail _ (.tail _ (.head _)))) | exact .tail _ (.tail _ (.tail _ (.tail _ (.tail _ (.head _))))) | exact .tail _ (.tail _ (.tail _ (.tail _ (.tail _ (.tail _ (.head _)))))) | exact .tail _ (.tail _ (.tail _ (.tail _ (.tail _ (.tail _ (.tail _ (.head _))))))) | exact .tail _ (.tail _ (.tail _ (.tail _ (.tail _ (.tail _ (.tail _ (.tail _ (.head _)))))))))) (by first | exact Nat.le_trans hJ (by decide) | exact Nat.le_trans (by simpa using hJ) (by decide)) (by simp); (with_reducible refine hq.mono ?_); rintro e w3 ⟨rfl, hb3⟩; have hL := hL.call hb3; clear hb3 hq)
    | ((with_reducible refine gAlloc rfl rfl ?_); (refine ev_allocL rfl hL rfl (by first | exact cells_agg _ rfl | exact cells_int _ _ | exact cells_str _ | exact cells_bool _ | exact cells_slice _ _ _ | exact cells_ptr _ | exact cells_map _ | exact cells_func _ _ _ | exact cells_nilFunc | exact cells_one (by assumption) (by assumption)) ?_; clear hL; intro gq wq hL)) | ((with_reducible refine gBox rfl rfl ?_); (refine ev_boxL rfl hL rfl rfl (by first | exact cells_agg _ rfl | exact cells_int _ _ | exact cells_str _ | exact cells_bool _ | exact cells_slice _ _ _ | exact cells_ptr _ | exact cells_map _ | exact cells_func _ _ _ | exact cells_nilFunc | exact cells_one (by assumption) (by assumption)) ?_; clear hL; intro gq wq hL)) | ((with_reducible refine gLoad rfl rfl ?_); (first | (refine ev_load1L rfl hL rfl rfl HasV.mem (by rfl) ?_) | (refine ev_loadAllL rfl hL rfl rfl HasV.mem (by rfl) ?_) | (refine ev_loadL rfl hL rfl rfl HasV.mem SegC.seg ?_))) | ((with_reducible refine gStore rfl rfl ?_); (first | (refine ev_storeC rfl hL rfl rfl rfl (by first | exact cells_agg _ rfl | exact cells_int _ _ | exact cells_str _ | exact cells_bool _ | exact cells_slice _ _ _ | exact cells_ptr _ | exact cells_map _ | exact cells_func _ _ _ | exact cells_nilFunc | exact cells_one (by assumption) (by assumption)) (by rfl) ?_) | (refine ev_storeAllC rfl hL rfl rfl rfl (by first | exact cells_agg _ rfl | exact cells_int _ _ | exact cells_str _ | exact cells_bool _ | exact cells_slice _ _ _ | exact cells_ptr _ | exact cells_map _ | exact cells_func _ _ _ | exact cells_nilFunc | exact cells_one (by assumption) (by assumption)) (by rfl) (by rfl) ?_)); clear hL; intro wq hL) | ((with_reducible refine gLoadG rfl rfl ?_ ?_); (exact wanted_some rfl rfl rfl (by with_reducible rfl)); (first | (refine ev_load1G (wanted_some rfl rfl rfl rfl) hL rfl rfl HasV.mem (by rfl) ?_) | (refine ev_loadAllG (wanted_some rfl rfl rfl rfl) hL rfl rfl HasV.mem (by rfl) ?_) | (refine ev_loadG_ (wanted_some rfl rfl rfl rfl) hL rfl rfl HasV.mem SegC.seg ?_)))
    | (at_builtin; refine ev_app1M (E := encS) (PW) 1 [PW] rfl hL rfl rfl rfl (by first | exact .head _ | exact .tail _ (.head _) | exact .tail _ (.tail _ (.head _)) | exact .tail _ (.tail _ (.tail _ (.head _))) | exact .tail _ (.tail _ (.tail _ (.tail _ (.head _)))) | exact .tail _ (.tail _ (.tail _ (.tail _ (.tail _ (.head _))))) | exact .tail _ (.tail _ (.tail _ (.tail _ (.tail _ (.tail _ (.head _)))))) | exact .tail _ (.tail _ (.tail _ (.tail _ (.tail _ (.tail _ (.tail _ (.head _))))))) | exact .tail _ (.tail _ (.tail _ (.tail _ (.tail _ (.tail _ (.tail _ (.tail _ (.head _))))))))) rfl rfl rfl (by first | exact fun _ => .here _ | exact fun _ => .there _ (.here _) | exact fun _ => .there _ (.there _ (.here _)) | exact fun _ => .there _ (.there _ (.there _ (.here _))) | exact fun _ => .there _ (.there _ (.there _ (.there _ (.here _)))) | exact fun _ => .there _ (.there _ (.there _ (.there _ (.there _ (.here _))))) | exact fun _ => .there _ (.there _ (.there _ (.there _ (.there _ (.there _ (.here _))))))) rfl rfl (by decide) hL.size ?_; clear hL; intro ao' c' wq hL))
  go_ret
  exact ⟨ret_s HE.out.symm, hL.below⟩
theorem story_link010 (l : Lnk) (w : World) (hw : l.wf 100000000) (ht : Tb w) (h1 : decide (l.at_ = Mk.zero) = false) (h2 : decide (l.alive = V8.zero) = true) (h3 : decide (l.dead = V8.zero) = false) :
    Calls Tryd.prog 26 #[.agg l.cells.toArray] w fun e w' => e = .returned (.string l.line) ∧ Below w.heap.size w w' := by
  have hL := (Loc.nil w NoM).rowNil encS w.heap.size 9
  obtain ⟨hib, hin⟩ := hw.id
  obtain ⟨hpb, hpn⟩ := hw.parent
  have hnm := hw.name
  have n1 := stamp_nz l.at_
  have n2 := vec_nz l.alive
  have n3 := vec_nz l.dead
  rw [h1] at n1
  rw [h2] at n2
  rw [h3] at n3
  simp only [Bool.not_true, Bool.not_false] at n1 n2 n3
  have hs1 := l.id.text_size hib hin
  have hs2 := l.parent.text_size hpb hpn
  obtain ⟨PW, hPW⟩ : ∃ PW, PW = (⟨#[112, 108, 97, 99, 101, 58]⟩ : ByteArray) ++ l.parent.text ++ ⟨#[47]⟩ ++ l.name := ⟨_, rfl⟩
  have hPs : PW.size ≤ 1000000000 := by rw [hPW]; simp only [ByteArray.size_append, ByteArray.size_mk']; simp; omega
  have hws : l.ws = [PW, ⟨#[100, 101, 97, 100]⟩] := by
    unfold Lnk.ws
    rw [← hPW]
    simp only [decide_eq_true_eq, decide_eq_false_iff_not] at h1 h2 h3
    simp [h1, h2, h3]
  have HW : Hid (∀ x ∈ ([PW, ⟨#[100, 101, 97, 100]⟩] : List ByteArray), x.size ≤ 1000000000) := Lib.hid (by
    intro x hx
    simp only [List.mem_cons, List.not_mem_nil, or_false] at hx
    rcases hx with rfl | rfl <;> first | exact hPs | (show _ ≤ (1000000000 : Nat); decide))
  have hJ : (joinB [PW, ⟨#[100, 101, 97, 100]⟩]).size ≤ 10000000000 := by
    have := joinB_le 1000000000 _ HW.out
    simp only [List.length_cons, List.length_nil] at this
    omega
  have HE := Lib.hid (show Lnk.line l = ⟨#[108, 105, 110, 107, 32]⟩ ++ l.id.text ++ ⟨#[32]⟩ ++ joinB [PW, ⟨#[100, 101, 97, 100]⟩] from by unfold Lnk.line; rw [hws])
  clear hws h1 h2 h3 hw
  have HP := Lib.hid hPW
  clear hPW
  unfold Lnk.cells
  go_enter Tryd.func26, Tryd.ntmps26
  go_wp2_with (first | ((with_reducible refine gAlloc rfl rfl ?_); (refine ev_allocL rfl hL rfl (by first | exact cells_agg _ rfl | exact cells_int _ _ | exact cells_str _ | exact cells_bool _ | exact cells_slice _ _ _ | exact cells_ptr _ | exact cells_map _ | exact cells_func _ _ _ | exact cells_nilFunc | exact cells_one (by assumption) (by assumption)) ?_; clear hL; intro gq wq hL)) | ((with_reducible refine gBox rfl rfl ?_); (refine ev_boxL rfl hL rfl rfl (by first | exact cells_agg _ rfl | exact cells_int _ _ | exact cells_str _ | exact cells_bool _ | exact cells_slice _ _ _ | exact cells_ptr _ | exact cells_map _ | exact cells_func _ _ _ | exact cells_nilFunc | exact cells_one (by assumption) (by assumption)) ?_; clear hL; intro gq wq hL)) | ((with_reducible refine gLoad rfl rfl ?_); (first | (refine ev_load1L rfl hL rfl rfl HasV.mem (by rfl) ?_) | (refine ev_loadAllL rfl hL rfl rfl HasV.mem (by rfl) ?_) | (refine ev_loadL rfl hL rfl rfl HasV.mem SegC.seg ?_))) | ((with_reducible refine gStore rfl rfl ?_); (first | (refine ev_storeC rfl hL rfl rfl rfl (by first | exact cells_agg _ rfl | exact cells_int _ _ | exact cells_str _ | exact cells_bool _ | exact cells_slice _ _ _ | exact cells_ptr _ | exact cells_map _ | exact cells_func _ _ _ | exact cells_nilFunc | exact cells_one (by assumption) (by assumption)) (by rfl) ?_) | (refine ev_storeAllC rfl hL rfl rfl rfl (by first | exact cells_agg _ rfl | exact cells_int _ _ | exact cells_str _ | exact cells_bool _ | exact cells_slice _ _ _ | exact cells_ptr _ | exact cells_map _ | exact cells_func _ _ _ | exact cells_nilFunc | exact cells_one (by assumption) (by assumption)) (by rfl) (by rfl) ?_)); clear hL; intro wq hL) | ((with_reducible refine gLoadG rfl rfl ?_ ?_); (exact wanted_some rfl rfl rfl (by with_reducible rfl)); (first | (refine ev_load1G (wanted_some rfl rfl rfl rfl) hL rfl rfl HasV.mem (by rfl) ?_) | (refine ev_loadAllG (wanted_some rfl rfl rfl rfl) hL rfl rfl HasV.mem (by rfl) ?_) | (refine ev_loadG_ (wanted_some rfl rfl rfl rfl) hL rfl rfl HasV.mem SegC.seg ?_))))
  refine region_qtail1 9 (by kernel_rfl) hL (by rfl) (by rfl) (by kernel_rfl) (by kernel_rfl) (by kernel_rfl) (by kernel_rfl) (fun _ _ _ _ h => h) ?_
  clear hL
  intro w5 hL
  have ht2 := ht.below hL.below
  simp only [List.take_succ_cons, List.take_zero, List.drop_succ_cons, List.drop_zero, Act.put, List.setIfInBounds_toArray, List.set_cons_succ, List.set_cons_zero]
  repeat (first | (go_big_quiet_want; (first | refine quiet_load1L hL rfl rfl HasV.mem (by rfl) ?_ | refine quiet_loadAllL hL rfl rfl HasV.mem (by rfl) ?_ | refine quiet_loadL hL rfl rfl HasV.mem SegC.seg ?_); go_big_quiet_on; simp only [Act.put, List.setIfInBounds_toArray, List.set_cons_succ, List.set_cons_zero]) | (go_big_quiet_want; refine quiet_cat rfl rfl rfl (by simp only [ByteArray.size_append, ByteArray.size_mk']; simp; omega) ?_; go_big_quiet_on; simp only [Act.put, List.setIfInBounds_toArray, List.set_cons_succ, List.set_cons_zero]) | go_big_quiet_step (first
    | (go_at_call 23; with_reducible exact stamp_ext ht2 l.parent hpb hpn)))
  refine wpQuiet_nil ?_
  rintro _ ⟨⟨w6, hb6⟩, rfl⟩
  have hL := hL.call hb6
  clear hb6
  rw [← HP.out]
  go_wp2_with (first
    | (go_at_call 23; (with_reducible refine (story_stamp l.id _ hib hin (ht.below hL.below)).mono ?_); rintro e w3 ⟨rfl, hb3⟩; have hL := hL.call hb3; clear hb3)
    | ((with_reducible refine gate (N := 17) rfl ?_); refine ev_litL (cs := [.string PW]) rfl hL rfl rfl rfl (by kernel_rfl) ?_; clear hL; intro gq wq hL)
    | ((with_reducible refine gate (N := 31) rfl ?_); refine ev_litL (cs := [.string ⟨#[100, 101, 97, 100]⟩]) rfl hL rfl rfl rfl (by kernel_rfl) ?_; clear hL; intro gq wq hL)
    | ((with_reducible refine gCat rfl rfl ?_); refine ev_cat rfl rfl rfl rfl (by simp only [ByteArray.size_append, ByteArray.size_mk']; simp; omega) ?_)
    | (go_at_call 48; have hq := join_b _ _ _ _ (hL.own (E := encS) (by first | exact .head _ | exact .tail _ (.head _) | exact .tail _ (.tail _ (.head _)) | exact .tail _ (.tail _ (.tail _ (.head _))) | exact .tail _ (.tail _ (.tail _ (.tail _ (.head _)))) | exact .tail _ (.tail _ (.tail _ (.tail _ (.tail _ (.head _))))) | exact .tail _ (.tail _ (.tail _ (.tail _ (.tail _ (.tail _ (.head _)))))) | exact .tail _ (.tail _ (.tail _ (.tail _ (.tail _ (.tail _ (.tail _ (.head _))))))) | exact .tail _ (.tail _ (.tail _ (.tail _ (.tail _ (.tail _ (.tail _ (.tail _ (.head _)))))))))) (by first | exact Nat.le_trans hJ (by decide) | exact Nat.le_trans (by simpa using hJ) (by decide)) (by simp); (with_reducible refine hq.mono ?_); rintro e w3 ⟨rfl, hb3⟩; have hL := hL.call hb3; clear hb3 hq)
    | ((with_reducible refine gAlloc rfl rfl ?_); (refine ev_allocL rfl hL rfl (by first | exact cells_agg _ rfl | exact cells_int _ _ | exact cells_str _ | exact cells_bool _ | exact cells_slice _ _ _ | exact cells_ptr _ | exact cells_map _ | exact cells_func _ _ _ | exact cells_nilFunc | exact cells_one (by assumption) (by assumption)) ?_; clear hL; intro gq wq hL)) | ((with_reducible refine gBox rfl rfl ?_); (refine ev_boxL rfl hL rfl rfl (by first | exact cells_agg _ rfl | exact cells_int _ _ | exact cells_str _ | exact cells_bool _ | exact cells_slice _ _ _ | exact cells_ptr _ | exact cells_map _ | exact cells_func _ _ _ | exact cells_nilFunc | exact cells_one (by assumption) (by assumption)) ?_; clear hL; intro gq wq hL)) | ((with_reducible refine gLoad rfl rfl ?_); (first | (refine ev_load1L rfl hL rfl rfl HasV.mem (by rfl) ?_) | (refine ev_loadAllL rfl hL rfl rfl HasV.mem (by rfl) ?_) | (refine ev_loadL rfl hL rfl rfl HasV.mem SegC.seg ?_))) | ((with_reducible refine gStore rfl rfl ?_); (first | (refine ev_storeC rfl hL rfl rfl rfl (by first | exact cells_agg _ rfl | exact cells_int _ _ | exact cells_str _ | exact cells_bool _ | exact cells_slice _ _ _ | exact cells_ptr _ | exact cells_map _ | exact cells_func _ _ _ | exact cells_nilFunc | exact cells_one (by assumption) (by assumption)) (by rfl) ?_) | (refine ev_storeAllC rfl hL rfl rfl rfl (by first | exact cells_agg _ rfl | exact cells_int _ _ | exact cells_str _ | exact cells_bool _ | exact cells_slice _ _ _ | exact cells_ptr _ | exact cells_map _ | exact cells_func _ _ _ | exact cells_nilFunc | exact cells_one (by assumption) (by assumption)) (by rfl) (by rfl) ?_)); clear hL; intro wq hL) | ((with_reducible refine gLoadG rfl rfl ?_ ?_); (exact wanted_some rfl rfl rfl (by with_reducible rfl)); (first | (refine ev_load1G (wanted_some rfl rfl rfl rfl) hL rfl rfl HasV.mem (by rfl) ?_) | (refine ev_loadAllG (wanted_some rfl rfl rfl rfl) hL rfl rfl HasV.mem (by rfl) ?_) | (refine ev_loadG_ (wanted_some rfl rfl rfl rfl) hL rfl rfl HasV.mem SegC.seg ?_)))
    | (at_builtin; refine ev_app1M (E := encS) (PW) 1 [PW] rfl hL rfl rfl rfl (by first | exact .head _ | exact .tail _ (.head _) | exact .tail _ (.tail _ (.head _)) | exact .tail _ (.tail _ (.tail _ (.head _))) | exact .tail _ (.tail _ (.tail _ (.tail _ (.head _)))) | exact .tail _ (.tail _ (.tail _ (.tail _ (.tail _ (.head _))))) | exact .tail _ (.tail _ (.tail _ (.tail _ (.tail _ (.tail _ (.head _)))))) | exact .tail _ (.tail _ (.tail _ (.tail _ (.tail _ (.tail _ (.tail _ (.head _))))))) | exact .tail _ (.tail _ (.tail _ (.tail _ (.tail _ (.tail _ (.tail _ (.tail _ (.head _))))))))) rfl rfl rfl (by first | exact fun _ => .here _ | exact fun _ => .there _ (.here _) | exact fun _ => .there _ (.there _ (.here _)) | exact fun _ => .there _ (.there _ (.there _ (.here _))) | exact fun _ => .there _ (.there _ (.there _ (.there _ (.here _)))) | exact fun _ => .there _ (.there _ (.there _ (.there _ (.there _ (.here _))))) | exact fun _ => .there _ (.there _ (.there _ (.there _ (.there _ (.there _ (.here _))))))) rfl rfl (by decide) hL.size ?_; clear hL; intro ao' c' wq hL)
    | (at_builtin; refine ev_app1M (E := encS) (⟨#[100, 101, 97, 100]⟩) 2 [PW, ⟨#[100, 101, 97, 100]⟩] rfl hL rfl rfl rfl (by first | exact .head _ | exact .tail _ (.head _) | exact .tail _ (.tail _ (.head _)) | exact .tail _ (.tail _ (.tail _ (.head _))) | exact .tail _ (.tail _ (.tail _ (.tail _ (.head _)))) | exact .tail _ (.tail _ (.tail _ (.tail _ (.tail _ (.head _))))) | exact .tail _ (.tail _ (.tail _ (.tail _ (.tail _ (.tail _ (.head _)))))) | exact .tail _ (.tail _ (.tail _ (.tail _ (.tail _ (.tail _ (.tail _ (.head _))))))) | exact .tail _ (.tail _ (.tail _ (.tail _ (.tail _ (.tail _ (.tail _ (.tail _ (.head _))))))))) rfl rfl rfl (by first | exact fun _ => .here _ | exact fun _ => .there _ (.here _) | exact fun _ => .there _ (.there _ (.here _)) | exact fun _ => .there _ (.there _ (.there _ (.here _))) | exact fun _ => .there _ (.there _ (.there _ (.there _ (.here _)))) | exact fun _ => .there _ (.there _ (.there _ (.there _ (.there _ (.here _))))) | exact fun _ => .there _ (.there _ (.there _ (.there _ (.there _ (.there _ (.here _))))))) rfl rfl (by decide) hL.size ?_; clear hL; intro ao' c' wq hL))
  go_ret
  exact ⟨ret_s HE.out.symm, hL.below⟩
theorem story_link001 (l : Lnk) (w : World) (hw : l.wf 100000000) (ht : Tb w) (h1 : decide (l.at_ = Mk.zero) = false) (h2 : decide (l.alive = V8.zero) = false) (h3 : decide (l.dead = V8.zero) = true) :
    Calls Tryd.prog 26 #[.agg l.cells.toArray] w fun e w' => e = .returned (.string l.line) ∧ Below w.heap.size w w' := by
  have hL := (Loc.nil w NoM).rowNil encS w.heap.size 9
  obtain ⟨hib, hin⟩ := hw.id
  obtain ⟨hpb, hpn⟩ := hw.parent
  have hnm := hw.name
  have n1 := stamp_nz l.at_
  have n2 := vec_nz l.alive
  have n3 := vec_nz l.dead
  rw [h1] at n1
  rw [h2] at n2
  rw [h3] at n3
  simp only [Bool.not_true, Bool.not_false] at n1 n2 n3
  have hs1 := l.id.text_size hib hin
  have hs2 := l.parent.text_size hpb hpn
  obtain ⟨PW, hPW⟩ : ∃ PW, PW = (⟨#[112, 108, 97, 99, 101, 58]⟩ : ByteArray) ++ l.parent.text ++ ⟨#[47]⟩ ++ l.name := ⟨_, rfl⟩
  have hPs : PW.size ≤ 1000000000 := by rw [hPW]; simp only [ByteArray.size_append, ByteArray.size_mk']; simp; omega
  have hws : l.ws = [PW, ⟨#[97, 108, 105, 118, 101]⟩] := by
    unfold Lnk.ws
    rw [← hPW]
    simp only [decide_eq_true_eq, decide_eq_false_iff_not] at h1 h2 h3
    simp [h1, h2, h3]
  have HW : Hid (∀ x ∈ ([PW, ⟨#[97, 108, 105, 118, 101]⟩] : List ByteArray), x.size ≤ 1000000000) := Lib.hid (by
    intro x hx
    simp only [List.mem_cons, List.not_mem_nil, or_false] at hx
    rcases hx with rfl | rfl <;> first | exact hPs | (show _ ≤ (1000000000 : Nat); decide))
  have hJ : (joinB [PW, ⟨#[97, 108, 105, 118, 101]⟩]).size ≤ 10000000000 := by
    have := joinB_le 1000000000 _ HW.out
    simp only [List.length_cons, List.length_nil] at this
    omega
  have HE := Lib.hid (show Lnk.line l = ⟨#[108, 105, 110, 107, 32]⟩ ++ l.id.text ++ ⟨#[32]⟩ ++ joinB [PW, ⟨#[97, 108, 105, 118, 101]⟩] from by unfold Lnk.line; rw [hws])
  clear hws h1 h2 h3 hw
  have HP := Lib.hid hPW
  clear hPW
  unfold Lnk.cells
  go_enter Tryd.func26, Tryd.ntmps26
  go_wp2_with (first | ((with_reducible refine gAlloc rfl rfl ?_); (refine ev_allocL rfl hL rfl (by first | exact cells_agg _ rfl | exact cells_int _ _ | exact cells_str _ | exact cells_bool _ | exact cells_slice _ _ _ | exact cells_ptr _ | exact cells_map _ | exact cells_func _ _ _ | exact cells_nilFunc | exact cells_one (by assumption) (by assumption)) ?_; clear hL; intro gq wq hL)) | ((with_reducible refine gBox rfl rfl ?_); (refine ev_boxL rfl hL rfl rfl (by first | exact cells_agg _ rfl | exact cells_int _ _ | exact cells_str _ | exact cells_bool _ | exact cells_slice _ _ _ | exact cells_ptr _ | exact cells_map _ | exact cells_func _ _ _ | exact cells_nilFunc | exact cells_one (by assumption) (by assumption)) ?_; clear hL; intro gq wq hL)) | ((with_reducible refine gLoad rfl rfl ?_); (first | (refine ev_load1L rfl hL rfl rfl HasV.mem (by rfl) ?_) | (refine ev_loadAllL rfl hL rfl rfl HasV.mem (by rfl) ?_) | (refine ev_loadL rfl hL rfl rfl HasV.mem SegC.seg ?_))) | ((with_reducible refine gStore rfl rfl ?_); (first | (refine ev_storeC rfl hL rfl rfl rfl (by first | exact cells_agg _ rfl | exact cells_int _ _ | exact cells_str _ | exact cells_bool _ | exact cells_slice _ _ _ | exact cells_ptr _ | exact cells_map _ | exact cells_func _ _ _ | exact cells_nilFunc | exact cells_one (by assumption) (by assumption)) (by rfl) ?_) | (refine ev_storeAllC rfl hL rfl rfl rfl (by first | exact cells_agg _ rfl | exact cells_int _ _ | exact cells_str _ | exact cells_bool _ | exact cells_slice _ _ _ | exact cells_ptr _ | exact cells_map _ | exact cells_func _ _ _ | exact cells_nilFunc | exact cells_one (by assumption) (by assumption)) (by rfl) (by rfl) ?_)); clear hL; intro wq hL) | ((with_reducible refine gLoadG rfl rfl ?_ ?_); (exact wanted_some rfl rfl rfl (by with_reducible rfl)); (first | (refine ev_load1G (wanted_some rfl rfl rfl rfl) hL rfl rfl HasV.mem (by rfl) ?_) | (refine ev_loadAllG (wanted_some rfl rfl rfl rfl) hL rfl rfl HasV.mem (by rfl) ?_) | (refine ev_loadG_ (wanted_some rfl rfl rfl rfl) hL rfl rfl HasV.mem SegC.seg ?_))))
  refine region_qtail1 9 (by kernel_rfl) hL (by rfl) (by rfl) (by kernel_rfl) (by kernel_rfl) (by kernel_rfl) (by kernel_rfl) (fun _ _ _ _ h => h) ?_
  clear hL
  intro w5 hL
  have ht2 := ht.below hL.below
  simp only [List.take_succ_cons, List.take_zero, List.drop_succ_cons, List.drop_zero, Act.put, List.setIfInBounds_toArray, List.set_cons_succ, List.set_cons_zero]
  repeat (first | (go_big_quiet_want; (first | refine quiet_load1L hL rfl rfl HasV.mem (by rfl) ?_ | refine quiet_loadAllL hL rfl rfl HasV.mem (by rfl) ?_ | refine quiet_loadL hL rfl rfl HasV.mem SegC.seg ?_); go_big_quiet_on; simp only [Act.put, List.setIfInBounds_toArray, List.set_cons_succ, List.set_cons_zero]) | (go_big_quiet_want; refine quiet_cat rfl rfl rfl (by simp only [ByteArray.size_append, ByteArray.size_mk']; simp; omega) ?_; go_big_quiet_on; simp only [Act.put, List.setIfInBounds_toArray, List.set_cons_succ, List.set_cons_zero]) | go_big_quiet_step (first
    | (go_at_call 23; with_reducible exact stamp_ext ht2 l.parent hpb hpn)))
  refine wpQuiet_nil ?_
  rintro _ ⟨⟨w6, hb6⟩, rfl⟩
  have hL := hL.call hb6
  clear hb6
  rw [← HP.out]
  go_wp2_with (first
    | (go_at_call 23; (with_reducible refine (story_stamp l.id _ hib hin (ht.below hL.below)).mono ?_); rintro e w3 ⟨rfl, hb3⟩; have hL := hL.call hb3; clear hb3)
    | ((with_reducible refine gate (N := 17) rfl ?_); refine ev_litL (cs := [.string PW]) rfl hL rfl rfl rfl (by kernel_rfl) ?_; clear hL; intro gq wq hL)
    | ((with_reducible refine gate (N := 24) rfl ?_); refine ev_litL (cs := [.string ⟨#[97, 108, 105, 118, 101]⟩]) rfl hL rfl rfl rfl (by kernel_rfl) ?_; clear hL; intro gq wq hL)
    | ((with_reducible refine gCat rfl rfl ?_); refine ev_cat rfl rfl rfl rfl (by simp only [ByteArray.size_append, ByteArray.size_mk']; simp; omega) ?_)
    | (go_at_call 48; have hq := join_b _ _ _ _ (hL.own (E := encS) (by first | exact .head _ | exact .tail _ (.head _) | exact .tail _ (.tail _ (.head _)) | exact .tail _ (.tail _ (.tail _ (.head _))) | exact .tail _ (.tail _ (.tail _ (.tail _ (.head _)))) | exact .tail _ (.tail _ (.tail _ (.tail _ (.tail _ (.head _))))) | exact .tail _ (.tail _ (.tail _ (.tail _ (.tail _ (.tail _ (.head _)))))) | exact .tail _ (.tail _ (.tail _ (.tail _ (.tail _ (.tail _ (.tail _ (.head _))))))) | exact .tail _ (.tail _ (.tail _ (.tail _ (.tail _ (.tail _ (.tail _ (.tail _ (.head _)))))))))) (by first | exact Nat.le_trans hJ (by decide) | exact Nat.le_trans (by simpa using hJ) (by decide)) (by simp); (with_reducible refine hq.mono ?_); rintro e w3 ⟨rfl, hb3⟩; have hL := hL.call hb3; clear hb3 hq)
    | ((with_reducible refine gAlloc rfl rfl ?_); (refine ev_allocL rfl hL rfl (by first | exact cells_agg _ rfl | exact cells_int _ _ | exact cells_str _ | exact cells_bool _ | exact cells_slice _ _ _ | exact cells_ptr _ | exact cells_map _ | exact cells_func _ _ _ | exact cells_nilFunc | exact cells_one (by assumption) (by assumption)) ?_; clear hL; intro gq wq hL)) | ((with_reducible refine gBox rfl rfl ?_); (refine ev_boxL rfl hL rfl rfl (by first | exact cells_agg _ rfl | exact cells_int _ _ | exact cells_str _ | exact cells_bool _ | exact cells_slice _ _ _ | exact cells_ptr _ | exact cells_map _ | exact cells_func _ _ _ | exact cells_nilFunc | exact cells_one (by assumption) (by assumption)) ?_; clear hL; intro gq wq hL)) | ((with_reducible refine gLoad rfl rfl ?_); (first | (refine ev_load1L rfl hL rfl rfl HasV.mem (by rfl) ?_) | (refine ev_loadAllL rfl hL rfl rfl HasV.mem (by rfl) ?_) | (refine ev_loadL rfl hL rfl rfl HasV.mem SegC.seg ?_))) | ((with_reducible refine gStore rfl rfl ?_); (first | (refine ev_storeC rfl hL rfl rfl rfl (by first | exact cells_agg _ rfl | exact cells_int _ _ | exact cells_str _ | exact cells_bool _ | exact cells_slice _ _ _ | exact cells_ptr _ | exact cells_map _ | exact cells_func _ _ _ | exact cells_nilFunc | exact cells_one (by assumption) (by assumption)) (by rfl) ?_) | (refine ev_storeAllC rfl hL rfl rfl rfl (by first | exact cells_agg _ rfl | exact cells_int _ _ | exact cells_str _ | exact cells_bool _ | exact cells_slice _ _ _ | exact cells_ptr _ | exact cells_map _ | exact cells_func _ _ _ | exact cells_nilFunc | exact cells_one (by assumption) (by assumption)) (by rfl) (by rfl) ?_)); clear hL; intro wq hL) | ((with_reducible refine gLoadG rfl rfl ?_ ?_); (exact wanted_some rfl rfl rfl (by with_reducible rfl)); (first | (refine ev_load1G (wanted_some rfl rfl rfl rfl) hL rfl rfl HasV.mem (by rfl) ?_) | (refine ev_loadAllG (wanted_some rfl rfl rfl rfl) hL rfl rfl HasV.mem (by rfl) ?_) | (refine ev_loadG_ (wanted_some rfl rfl rfl rfl) hL rfl rfl HasV.mem SegC.seg ?_)))
    | (at_builtin; refine ev_app1M (E := encS) (PW) 1 [PW] rfl hL rfl rfl rfl (by first | exact .head _ | exact .tail _ (.head _) | exact .tail _ (.tail _ (.head _)) | exact .tail _ (.tail _ (.tail _ (.head _))) | exact .tail _ (.tail _ (.tail _ (.tail _ (.head _)))) | exact .tail _ (.tail _ (.tail _ (.tail _ (.tail _ (.head _))))) | exact .tail _ (.tail _ (.tail _ (.tail _ (.tail _ (.tail _ (.head _)))))) | exact .tail _ (.tail _ (.tail _ (.tail _ (.tail _ (.tail _ (.tail _ (.head _))))))) | exact .tail _ (.tail _ (.tail _ (.tail _ (.tail _ (.tail _ (.tail _ (.tail _ (.head _))))))))) rfl rfl rfl (by first | exact fun _ => .here _ | exact fun _ => .there _ (.here _) | exact fun _ => .there _ (.there _ (.here _)) | exact fun _ => .there _ (.there _ (.there _ (.here _))) | exact fun _ => .there _ (.there _ (.there _ (.there _ (.here _)))) | exact fun _ => .there _ (.there _ (.there _ (.there _ (.there _ (.here _))))) | exact fun _ => .there _ (.there _ (.there _ (.there _ (.there _ (.there _ (.here _))))))) rfl rfl (by decide) hL.size ?_; clear hL; intro ao' c' wq hL)
    | (at_builtin; refine ev_app1M (E := encS) (⟨#[97, 108, 105, 118, 101]⟩) 2 [PW, ⟨#[97, 108, 105, 118, 101]⟩] rfl hL rfl rfl rfl (by first | exact .head _ | exact .tail _ (.head _) | exact .tail _ (.tail _ (.head _)) | exact .tail _ (.tail _ (.tail _ (.head _))) | exact .tail _ (.tail _ (.tail _ (.tail _ (.head _)))) | exact .tail _ (.tail _ (.tail _ (.tail _ (.tail _ (.head _))))) | exact .tail _ (.tail _ (.tail _ (.tail _ (.tail _ (.tail _ (.head _)))))) | exact .tail _ (.tail _ (.tail _ (.tail _ (.tail _ (.tail _ (.tail _ (.head _))))))) | exact .tail _ (.tail _ (.tail _ (.tail _ (.tail _ (.tail _ (.tail _ (.tail _ (.head _))))))))) rfl rfl rfl (by first | exact fun _ => .here _ | exact fun _ => .there _ (.here _) | exact fun _ => .there _ (.there _ (.here _)) | exact fun _ => .there _ (.there _ (.there _ (.here _))) | exact fun _ => .there _ (.there _ (.there _ (.there _ (.here _)))) | exact fun _ => .there _ (.there _ (.there _ (.there _ (.there _ (.here _))))) | exact fun _ => .there _ (.there _ (.there _ (.there _ (.there _ (.there _ (.here _))))))) rfl rfl (by decide) hL.size ?_; clear hL; intro ao' c' wq hL))
  go_ret
  exact ⟨ret_s HE.out.symm, hL.below⟩
theorem story_link000 (l : Lnk) (w : World) (hw : l.wf 100000000) (ht : Tb w) (h1 : decide (l.at_ = Mk.zero) = false) (h2 : decide (l.alive = V8.zero) = false) (h3 : decide (l.dead = V8.zero) = false) :
    Calls Tryd.prog 26 #[.agg l.cells.toArray] w fun e w' => e = .returned (.string l.line) ∧ Below w.heap.size w w' := by
  have hL := (Loc.nil w NoM).rowNil encS w.heap.size 9
  obtain ⟨hib, hin⟩ := hw.id
  obtain ⟨hpb, hpn⟩ := hw.parent
  have hnm := hw.name
  have n1 := stamp_nz l.at_
  have n2 := vec_nz l.alive
  have n3 := vec_nz l.dead
  rw [h1] at n1
  rw [h2] at n2
  rw [h3] at n3
  simp only [Bool.not_true, Bool.not_false] at n1 n2 n3
  have hs1 := l.id.text_size hib hin
  have hs2 := l.parent.text_size hpb hpn
  obtain ⟨PW, hPW⟩ : ∃ PW, PW = (⟨#[112, 108, 97, 99, 101, 58]⟩ : ByteArray) ++ l.parent.text ++ ⟨#[47]⟩ ++ l.name := ⟨_, rfl⟩
  have hPs : PW.size ≤ 1000000000 := by rw [hPW]; simp only [ByteArray.size_append, ByteArray.size_mk']; simp; omega
  have hws : l.ws = [PW, ⟨#[97, 108, 105, 118, 101]⟩, ⟨#[100, 101, 97, 100]⟩] := by
    unfold Lnk.ws
    rw [← hPW]
    simp only [decide_eq_true_eq, decide_eq_false_iff_not] at h1 h2 h3
    simp [h1, h2, h3]
  have HW : Hid (∀ x ∈ ([PW, ⟨#[97, 108, 105, 118, 101]⟩, ⟨#[100, 101, 97, 100]⟩] : List ByteArray), x.size ≤ 1000000000) := Lib.hid (by
    intro x hx
    simp only [List.mem_cons, List.not_mem_nil, or_false] at hx
    rcases hx with rfl | rfl | rfl <;> first | exact hPs | (show _ ≤ (1000000000 : Nat); decide))
  have hJ : (joinB [PW, ⟨#[97, 108, 105, 118, 101]⟩, ⟨#[100, 101, 97, 100]⟩]).size ≤ 10000000000 := by
    have := joinB_le 1000000000 _ HW.out
    simp only [List.length_cons, List.length_nil] at this
    omega
  have HE := Lib.hid (show Lnk.line l = ⟨#[108, 105, 110, 107, 32]⟩ ++ l.id.text ++ ⟨#[32]⟩ ++ joinB [PW, ⟨#[97, 108, 105, 118, 101]⟩, ⟨#[100, 101, 97, 100]⟩] from by unfold Lnk.line; rw [hws])
  clear hws h1 h2 h3 hw
  have HP := Lib.hid hPW
  clear hPW
  unfold Lnk.cells
  go_enter Tryd.func26, Tryd.ntmps26
  go_wp2_with (first | ((with_reducible refine gAlloc rfl rfl ?_); (refine ev_allocL rfl hL rfl (by first | exact cells_agg _ rfl | exact cells_int _ _ | exact cells_str _ | exact cells_bool _ | exact cells_slice _ _ _ | exact cells_ptr _ | exact cells_map _ | exact cells_func _ _ _ | exact cells_nilFunc | exact cells_one (by assumption) (by assumption)) ?_; clear hL; intro gq wq hL)) | ((with_reducible refine gBox rfl rfl ?_); (refine ev_boxL rfl hL rfl rfl (by first | exact cells_agg _ rfl | exact cells_int _ _ | exact cells_str _ | exact cells_bool _ | exact cells_slice _ _ _ | exact cells_ptr _ | exact cells_map _ | exact cells_func _ _ _ | exact cells_nilFunc | exact cells_one (by assumption) (by assumption)) ?_; clear hL; intro gq wq hL)) | ((with_reducible refine gLoad rfl rfl ?_); (first | (refine ev_load1L rfl hL rfl rfl HasV.mem (by rfl) ?_) | (refine ev_loadAllL rfl hL rfl rfl HasV.mem (by rfl) ?_) | (refine ev_loadL rfl hL rfl rfl HasV.mem SegC.seg ?_))) | ((with_reducible refine gStore rfl rfl ?_); (first | (refine ev_storeC rfl hL rfl rfl rfl (by first | exact cells_agg _ rfl | exact cells_int _ _ | exact cells_str _ | exact cells_bool _ | exact cells_slice _ _ _ | exact cells_ptr _ | exact cells_map _ | exact cells_func _ _ _ | exact cells_nilFunc | exact cells_one (by assumption) (by assumption)) (by rfl) ?_) | (refine ev_storeAllC rfl hL rfl rfl rfl (by first | exact cells_agg _ rfl | exact cells_int _ _ | exact cells_str _ | exact cells_bool _ | exact cells_slice _ _ _ | exact cells_ptr _ | exact cells_map _ | exact cells_func _ _ _ | exact cells_nilFunc | exact cells_one (by assumption) (by assumption)) (by rfl) (by rfl) ?_)); clear hL; intro wq hL) | ((with_reducible refine gLoadG rfl rfl ?_ ?_); (exact wanted_some rfl rfl rfl (by with_reducible rfl)); (first | (refine ev_load1G (wanted_some rfl rfl rfl rfl) hL rfl rfl HasV.mem (by rfl) ?_) | (refine ev_loadAllG (wanted_some rfl rfl rfl rfl) hL rfl rfl HasV.mem (by rfl) ?_) | (refine ev_loadG_ (wanted_some rfl rfl rfl rfl) hL rfl rfl HasV.mem SegC.seg ?_))))
  refine region_qtail1 9 (by kernel_rfl) hL (by rfl) (by rfl) (by kernel_rfl) (by kernel_rfl) (by kernel_rfl) (by kernel_rfl) (fun _ _ _ _ h => h) ?_
  clear hL
  intro w5 hL
  have ht2 := ht.below hL.below
  simp only [List.take_succ_cons, List.take_zero, List.drop_succ_cons, List.drop_zero, Act.put, List.setIfInBounds_toArray, List.set_cons_succ, List.set_cons_zero]
  repeat (first | (go_big_quiet_want; (first | refine quiet_load1L hL rfl rfl HasV.mem (by rfl) ?_ | refine quiet_loadAllL hL rfl rfl HasV.mem (by rfl) ?_ | refine quiet_loadL hL rfl rfl HasV.mem SegC.seg ?_); go_big_quiet_on; simp only [Act.put, List.setIfInBounds_toArray, List.set_cons_succ, List.set_cons_zero]) | (go_big_quiet_want; refine quiet_cat rfl rfl rfl (by simp only [ByteArray.size_append, ByteArray.size_mk']; simp; omega) ?_; go_big_quiet_on; simp only [Act.put, List.setIfInBounds_toArray, List.set_cons_succ, List.set_cons_zero]) | go_big_quiet_step (first
    | (go_at_call 23; with_reducible exact stamp_ext ht2 l.parent hpb hpn)))
  refine wpQuiet_nil ?_
  rintro _ ⟨⟨w6, hb6⟩, rfl⟩
  have hL := hL.call hb6
  clear hb6
  rw [← HP.out]
  go_wp2_with (first
    | (go_at_call 23; (with_reducible refine (story_stamp l.id _ hib hin (ht.below hL.below)).mono ?_); rintro e w3 ⟨rfl, hb3⟩; have hL := hL.call hb3; clear hb3)
    | ((with_reducible refine gate (N := 17) rfl ?_); refine ev_litL (cs := [.string PW]) rfl hL rfl rfl rfl (by kernel_rfl) ?_; clear hL; intro gq wq hL)
    | ((with_reducible refine gate (N := 24) rfl ?_); refine ev_litL (cs := [.string ⟨#[97, 108, 105, 118, 101]⟩]) rfl hL rfl rfl rfl (by kernel_rfl) ?_; clear hL; intro gq wq hL)
    | ((with_reducible refine gate (N := 31) rfl ?_); refine ev_litL (cs := [.string ⟨#[100, 101, 97, 100]⟩]) rfl hL rfl rfl rfl (by kernel_rfl) ?_; clear hL; intro gq wq hL)
    | ((with_reducible refine gCat rfl rfl ?_); refine ev_cat rfl rfl rfl rfl (by simp only [ByteArray.size_append, ByteArray.size_mk']; simp; omega) ?_)
    | (go_at_call 48; have hq := join_b _ _ _ _ (hL.own (E := encS) (by first | exact .head _ | exact .tail _ (.head _) | exact .tail _ (.tail _ (.head _)) | exact .tail _ (.tail _ (.tail _ (.head _))) | exact .tail _ (.tail _ (.tail _ (.tail _ (.head _)))) | exact .tail _ (.tail _ (.tail _ (.tail _ (.tail _ (.head _))))) | exact .tail _ (.tail _ (.tail _ (.tail _ (.tail _ (.tail _ (.head _)))))) | exact .tail _ (.tail _ (.tail _ (.tail _ (.tail _ (.tail _ (.tail _ (.head _))))))) | exact .tail _ (.tail _ (.tail _ (.tail _ (.tail _ (.tail _ (.tail _ (.tail _ (.head _)))))))))) (by first | exact Nat.le_trans hJ (by decide) | exact Nat.le_trans (by simpa using hJ) (by decide)) (by simp); (with_reducible refine hq.mono ?_); rintro e w3 ⟨rfl, hb3⟩; have hL := hL.call hb3; clear hb3 hq)
    | ((with_reducible refine gAlloc rfl rfl ?_); (refine ev_allocL rfl hL rfl (by first | exact cells_agg _ rfl | exact cells_int _ _ | exact cells_str _ | exact cells_bool _ | exact cells_slice _ _ _ | exact cells_ptr _ | exact cells_map _ | exact cells_func _ _ _ | exact cells_nilFunc | exact cells_one (by assumption) (by assumption)) ?_; clear hL; intro gq wq hL)) | ((with_reducible refine gBox rfl rfl ?_); (refine ev_boxL rfl hL rfl rfl (by first | exact cells_agg _ rfl | exact cells_int _ _ | exact cells_str _ | exact cells_bool _ | exact cells_slice _ _ _ | exact cells_ptr _ | exact cells_map _ | exact cells_func _ _ _ | exact cells_nilFunc | exact cells_one (by assumption) (by assumption)) ?_; clear hL; intro gq wq hL)) | ((with_reducible refine gLoad rfl rfl ?_); (first | (refine ev_load1L rfl hL rfl rfl HasV.mem (by rfl) ?_) | (refine ev_loadAllL rfl hL rfl rfl HasV.mem (by rfl) ?_) | (refine ev_loadL rfl hL rfl rfl HasV.mem SegC.seg ?_))) | ((with_reducible refine gStore rfl rfl ?_); (first | (refine ev_storeC rfl hL rfl rfl rfl (by first | exact cells_agg _ rfl | exact cells_int _ _ | exact cells_str _ | exact cells_bool _ | exact cells_slice _ _ _ | exact cells_ptr _ | exact cells_map _ | exact cells_func _ _ _ | exact cells_nilFunc | exact cells_one (by assumption) (by assumption)) (by rfl) ?_) | (refine ev_storeAllC rfl hL rfl rfl rfl (by first | exact cells_agg _ rfl | exact cells_int _ _ | exact cells_str _ | exact cells_bool _ | exact cells_slice _ _ _ | exact cells_ptr _ | exact cells_map _ | exact cells_func _ _ _ | exact cells_nilFunc | exact cells_one (by assumption) (by assumption)) (by rfl) (by rfl) ?_)); clear hL; intro wq hL) | ((with_reducible refine gLoadG rfl rfl ?_ ?_); (exact wanted_some rfl rfl rfl (by with_reducible rfl)); (first | (refine ev_load1G (wanted_some rfl rfl rfl rfl) hL rfl rfl HasV.mem (by rfl) ?_) | (refine ev_loadAllG (wanted_some rfl rfl rfl rfl) hL rfl rfl HasV.mem (by rfl) ?_) | (refine ev_loadG_ (wanted_some rfl rfl rfl rfl) hL rfl rfl HasV.mem SegC.seg ?_)))
    | (at_builtin; refine ev_app1M (E := encS) (PW) 1 [PW] rfl hL rfl rfl rfl (by first | exact .head _ | exact .tail _ (.head _) | exact .tail _ (.tail _ (.head _)) | exact .tail _ (.tail _ (.tail _ (.head _))) | exact .tail _ (.tail _ (.tail _ (.tail _ (.head _)))) | exact .tail _ (.tail _ (.tail _ (.tail _ (.tail _ (.head _))))) | exact .tail _ (.tail _ (.tail _ (.tail _ (.tail _ (.tail _ (.head _)))))) | exact .tail _ (.tail _ (.tail _ (.tail _ (.tail _ (.tail _ (.tail _ (.head _))))))) | exact .tail _ (.tail _ (.tail _ (.tail _ (.tail _ (.tail _ (.tail _ (.tail _ (.head _))))))))) rfl rfl rfl (by first | exact fun _ => .here _ | exact fun _ => .there _ (.here _) | exact fun _ => .there _ (.there _ (.here _)) | exact fun _ => .there _ (.there _ (.there _ (.here _))) | exact fun _ => .there _ (.there _ (.there _ (.there _ (.here _)))) | exact fun _ => .there _ (.there _ (.there _ (.there _ (.there _ (.here _))))) | exact fun _ => .there _ (.there _ (.there _ (.there _ (.there _ (.there _ (.here _))))))) rfl rfl (by decide) hL.size ?_; clear hL; intro ao' c' wq hL)
    | (at_builtin; refine ev_app1M (E := encS) (⟨#[97, 108, 105, 118, 101]⟩) 2 [PW, ⟨#[97, 108, 105, 118, 101]⟩] rfl hL rfl rfl rfl (by first | exact .head _ | exact .tail _ (.head _) | exact .tail _ (.tail _ (.head _)) | exact .tail _ (.tail _ (.tail _ (.head _))) | exact .tail _ (.tail _ (.tail _ (.tail _ (.head _)))) | exact .tail _ (.tail _ (.tail _ (.tail _ (.tail _ (.head _))))) | exact .tail _ (.tail _ (.tail _ (.tail _ (.tail _ (.tail _ (.head _)))))) | exact .tail _ (.tail _ (.tail _ (.tail _ (.tail _ (.tail _ (.tail _ (.head _))))))) | exact .tail _ (.tail _ (.tail _ (.tail _ (.tail _ (.tail _ (.tail _ (.tail _ (.head _))))))))) rfl rfl rfl (by first | exact fun _ => .here _ | exact fun _ => .there _ (.here _) | exact fun _ => .there _ (.there _ (.here _)) | exact fun _ => .there _ (.there _ (.there _ (.here _))) | exact fun _ => .there _ (.there _ (.there _ (.there _ (.here _)))) | exact fun _ => .there _ (.there _ (.there _ (.there _ (.there _ (.here _))))) | exact fun _ => .there _ (.there _ (.there _ (.there _ (.there _ (.there _ (.here _))))))) rfl rfl (by decide) hL.size ?_; clear hL; intro ao' c' wq hL)
    | (at_builtin; refine ev_app1M (E := encS) (⟨#[100, 101, 97, 100]⟩) 3 [PW, ⟨#[97, 108, 105, 118, 101]⟩, ⟨#[100, 101, 97, 100]⟩] rfl hL rfl rfl rfl (by first | exact .head _ | exact .tail _ (.head _) | exact .tail _ (.tail _ (.head _)) | exact .tail _ (.tail _ (.tail _ (.head _))) | exact .tail _ (.tail _ (.tail _ (.tail _ (.head _)))) | exact .tail _ (.tail _ (.tail _ (.tail _ (.tail _ (.head _))))) | exact .tail _ (.tail _ (.tail _ (.tail _ (.tail _ (.tail _ (.head _)))))) | exact .tail _ (.tail _ (.tail _ (.tail _ (.tail _ (.tail _ (.tail _ (.head _))))))) | exact .tail _ (.tail _ (.tail _ (.tail _ (.tail _ (.tail _ (.tail _ (.tail _ (.head _))))))))) rfl rfl rfl (by first | exact fun _ => .here _ | exact fun _ => .there _ (.here _) | exact fun _ => .there _ (.there _ (.here _)) | exact fun _ => .there _ (.there _ (.there _ (.here _))) | exact fun _ => .there _ (.there _ (.there _ (.there _ (.here _)))) | exact fun _ => .there _ (.there _ (.there _ (.there _ (.there _ (.here _))))) | exact fun _ => .there _ (.there _ (.there _ (.there _ (.there _ (.there _ (.here _))))))) rfl rfl (by decide) hL.size ?_; clear hL; intro ao' c' wq hL))
  go_ret
  exact ⟨ret_s HE.out.symm, hL.below⟩
theorem story_link (l : Lnk) (w : World) (hw : l.wf 100000000) (ht : Tb w) :
    Calls Tryd.prog 26 #[.agg l.cells.toArray] w fun e w' => e = .returned (.string l.line) ∧ Below w.heap.size w w' := by
  cases h1 : decide (l.at_ = Mk.zero) <;> cases h2 : decide (l.alive = V8.zero) <;> cases h3 : decide (l.dead = V8.zero)
  · exact story_link000 l w hw ht h1 h2 h3
  · exact story_link001 l w hw ht h1 h2 h3
  · exact story_link010 l w hw ht h1 h2 h3
  · exact story_link011 l w hw ht h1 h2 h3
  · exact story_link100 l w hw ht h1 h2 h3
  · exact story_link101 l w hw ht h1 h2 h3
  · exact story_link110 l w hw ht h1 h2 h3
  · exact story_link111 l w hw ht h1 h2 h3
end Go.Proofs.YtebpacmhdkgfeaaDoor

/- Chapter 29: an event's lines, the program's side. -/
namespace Go.Proofs.YtebpacmhdkgfeaaDoor
open Go.RowKit

set_option maxHeartbeats 4000000 in
theorem story_text (e : Evt) (d : StaD) (w : World) (hO : e.Ok w 100000000 d) (hs : d.small) (ht : Tb w) :
    Calls Tryd.prog 8 #[.agg e.cells.toArray] w fun en w' => ∃ u, en = .returned u ∧ Loc w NoM w' [row encS w.heap.size 9 u (storyLines e.at_ e.vol d)] := by
  have hL := Loc.nil w NoM
  obtain ⟨ns, hns, hok, hds⟩ := hO.sta.nodes
  have hls := hO.sta.links
  obtain ⟨aon, cn, en, heln⟩ := R_elem hns
  obtain ⟨aol, cl, el, hell⟩ := R_elem hls
  have hat := hO.at_
  have hvol := hO.vol
  have hs1 := e.at_.text_size hat.b hat.n
  have hs2 := hvol.size
  have HN := Lib.hid hok
  have HQ : Hid (∀ n ∈ ns, n.d.wf 100000000 ∧ n.d.ps.length ≤ 1000 ∧ n.d.xs.length ≤ 1000) := Lib.hid (fun n hn => by
    have hm : n.d ∈ d.nodes := by rw [← hds]; exact List.mem_map.2 ⟨n, hn, rfl⟩
    exact ⟨hO.wf.nodes _ hm, hs.ps _ hm, hs.xs _ hm⟩)
  have HK : Hid (∀ l ∈ d.links, l.wf 100000000) := Lib.hid hO.wf.links
  have hnl : ns.length ≤ 1000 := by have := hs.nodes; rw [← hds, List.length_map] at this; exact this
  have hll := hs.links
  obtain ⟨W0, hW0⟩ : ∃ W0, W0 = (⟨#[101, 118, 101, 110, 116, 32]⟩ : ByteArray) ++ e.at_.text ++ ⟨#[32, 118]⟩ ++ itoaB e.vol := ⟨_, rfl⟩
  have HE := Lib.hid (show storyLines e.at_ e.vol d = W0 :: (ns.map (fun n => n.d.line) ++ d.links.map Lnk.line) from by unfold storyLines; rw [← hds, hW0, List.map_map]; rfl)
  have HW0 := Lib.hid hW0
  have en1 : e.na = aon ∧ e.nn = ns.length ∧ e.nc = cn := by unfold Evt.sta Sl.val at en; injection en with a b c; exact ⟨a, b, c⟩
  have el1 : e.la = aol ∧ e.ln = d.links.length ∧ e.lc = cl := by unfold Evt.sta Sl.val at el; injection el with a b c; exact ⟨a, b, c⟩
  clear en el hns hls hO hs hds hok hW0
  unfold Evt.cells
  obtain ⟨r1, r2, r3⟩ := en1
  obtain ⟨r4, r5, r6⟩ := el1
  rw [r1, r2, r3, r4, r5, r6]
  clear r1 r2 r3 r4 r5 r6
  generalize d.links = ls at *
  go_enter Tryd.func8, Tryd.ntmps8
  go_wp2_with (first | ((with_reducible refine gate (N := 1) rfl ?_); (refine ev_boxL rfl hL rfl rfl (by first | exact cells_agg _ rfl | exact cells_int _ _ | exact cells_str _ | exact cells_bool _ | exact cells_slice _ _ _ | exact cells_ptr _ | exact cells_map _ | exact cells_func _ _ _ | exact cells_nilFunc | exact cells_one (by assumption) (by assumption)) ?_; clear hL; intro g1 w1 hL)) | ((with_reducible refine gAlloc rfl rfl ?_); (refine ev_allocL rfl hL rfl (by first | exact cells_agg _ rfl | exact cells_int _ _ | exact cells_str _ | exact cells_bool _ | exact cells_slice _ _ _ | exact cells_ptr _ | exact cells_map _ | exact cells_func _ _ _ | exact cells_nilFunc | exact cells_one (by assumption) (by assumption)) ?_; clear hL; intro gq wq hL)) | ((with_reducible refine gBox rfl rfl ?_); (refine ev_boxL rfl hL rfl rfl (by first | exact cells_agg _ rfl | exact cells_int _ _ | exact cells_str _ | exact cells_bool _ | exact cells_slice _ _ _ | exact cells_ptr _ | exact cells_map _ | exact cells_func _ _ _ | exact cells_nilFunc | exact cells_one (by assumption) (by assumption)) ?_; clear hL; intro gq wq hL)) | ((with_reducible refine gLoad rfl rfl ?_); (first | (refine ev_load1L rfl hL rfl rfl HasV.mem (by rfl) ?_) | (refine ev_loadAllL rfl hL rfl rfl HasV.mem (by rfl) ?_) | (refine ev_loadL rfl hL rfl rfl HasV.mem SegC.seg ?_))) | ((with_reducible refine gStore rfl rfl ?_); (first | (refine ev_storeC rfl hL rfl rfl rfl (by first | exact cells_agg _ rfl | exact cells_int _ _ | exact cells_str _ | exact cells_bool _ | exact cells_slice _ _ _ | exact cells_ptr _ | exact cells_map _ | exact cells_func _ _ _ | exact cells_nilFunc | exact cells_one (by assumption) (by assumption)) (by rfl) ?_) | (refine ev_storeAllC rfl hL rfl rfl rfl (by first | exact cells_agg _ rfl | exact cells_int _ _ | exact cells_str _ | exact cells_bool _ | exact cells_slice _ _ _ | exact cells_ptr _ | exact cells_map _ | exact cells_func _ _ _ | exact cells_nilFunc | exact cells_one (by assumption) (by assumption)) (by rfl) (by rfl) ?_)); clear hL; intro wq hL) | ((with_reducible refine gLoadG rfl rfl ?_ ?_); (exact wanted_some rfl rfl rfl (by with_reducible rfl)); (first | (refine ev_load1G (wanted_some rfl rfl rfl rfl) hL rfl rfl HasV.mem (by rfl) ?_) | (refine ev_loadAllG (wanted_some rfl rfl rfl rfl) hL rfl rfl HasV.mem (by rfl) ?_) | (refine ev_loadG_ (wanted_some rfl rfl rfl rfl) hL rfl rfl HasV.mem SegC.seg ?_))))
  refine region_qtail 9 (by kernel_rfl) hL (by kernel_rfl) ?_
  clear hL
  intro w5 hL
  have ht2 := ht.below hL.below
  simp only [List.take_succ_cons, List.take_zero, List.drop_succ_cons, List.drop_zero]
  repeat (first | (go_big_quiet_want; (first | refine quiet_load1L hL rfl rfl HasV.mem (by rfl) ?_ | refine quiet_loadAllL hL rfl rfl HasV.mem (by rfl) ?_ | refine quiet_loadL hL rfl rfl HasV.mem SegC.seg ?_); go_big_quiet_on; simp only [Act.put, List.setIfInBounds_toArray, List.set_cons_succ, List.set_cons_zero]) | (go_big_quiet_want; refine quiet_cat rfl rfl rfl (by simp only [ByteArray.size_append, ByteArray.size_mk']; simp; omega) ?_; go_big_quiet_on; simp only [Act.put, List.setIfInBounds_toArray, List.set_cons_succ, List.set_cons_zero]) | go_big_quiet_step (first
    | (go_at_call 23; with_reducible exact stamp_ext ht2 e.at_ hat.b hat.n)
    | (go_at_call 24; with_reducible exact itoa_ext ht2 _ hvol)))
  refine wpQuiet_nil ?_
  rintro _ ⟨⟨w6, hb6⟩, rfl⟩
  replace hL := hL.call hb6
  clear hb6
  rw [← HW0.out]
  clear HW0 hs1 hs2 hat hvol
  go_wp2_with (first
    | ((with_reducible refine gLit rfl rfl ?_); refine ev_litRow (E := encS) (base := w.heap.size) [W0] rfl hL rfl rfl rfl (by kernel_rfl) rfl (Nat.le_refl _) ?_; clear hL; intro gr wq hL)
    | ((with_reducible refine gAlloc rfl rfl ?_); (refine ev_allocL rfl hL rfl (by first | exact cells_agg _ rfl | exact cells_int _ _ | exact cells_str _ | exact cells_bool _ | exact cells_slice _ _ _ | exact cells_ptr _ | exact cells_map _ | exact cells_func _ _ _ | exact cells_nilFunc | exact cells_one (by assumption) (by assumption)) ?_; clear hL; intro gq wq hL)) | ((with_reducible refine gBox rfl rfl ?_); (refine ev_boxL rfl hL rfl rfl (by first | exact cells_agg _ rfl | exact cells_int _ _ | exact cells_str _ | exact cells_bool _ | exact cells_slice _ _ _ | exact cells_ptr _ | exact cells_map _ | exact cells_func _ _ _ | exact cells_nilFunc | exact cells_one (by assumption) (by assumption)) ?_; clear hL; intro gq wq hL)) | ((with_reducible refine gLoad rfl rfl ?_); (first | (refine ev_load1L rfl hL rfl rfl HasV.mem (by rfl) ?_) | (refine ev_loadAllL rfl hL rfl rfl HasV.mem (by rfl) ?_) | (refine ev_loadL rfl hL rfl rfl HasV.mem SegC.seg ?_))) | ((with_reducible refine gStore rfl rfl ?_); (first | (refine ev_storeC rfl hL rfl rfl rfl (by first | exact cells_agg _ rfl | exact cells_int _ _ | exact cells_str _ | exact cells_bool _ | exact cells_slice _ _ _ | exact cells_ptr _ | exact cells_map _ | exact cells_func _ _ _ | exact cells_nilFunc | exact cells_one (by assumption) (by assumption)) (by rfl) ?_) | (refine ev_storeAllC rfl hL rfl rfl rfl (by first | exact cells_agg _ rfl | exact cells_int _ _ | exact cells_str _ | exact cells_bool _ | exact cells_slice _ _ _ | exact cells_ptr _ | exact cells_map _ | exact cells_func _ _ _ | exact cells_nilFunc | exact cells_one (by assumption) (by assumption)) (by rfl) (by rfl) ?_)); clear hL; intro wq hL) | ((with_reducible refine gLoadG rfl rfl ?_ ?_); (exact wanted_some rfl rfl rfl (by with_reducible rfl)); (first | (refine ev_load1G (wanted_some rfl rfl rfl rfl) hL rfl rfl HasV.mem (by rfl) ?_) | (refine ev_loadAllG (wanted_some rfl rfl rfl rfl) hL rfl rfl HasV.mem (by rfl) ?_) | (refine ev_loadG_ (wanted_some rfl rfl rfl rfl) hL rfl rfl HasV.mem SegC.seg ?_))))
  replace hL := hL.sub (l' := [row encS w.heap.size 9 (.slice (some ⟨gr, 0, none⟩) 1 1) [W0], _]) (by repeat (first | exact List.nil_sublist _ | with_reducible apply List.Sublist.cons_cons | with_reducible apply List.Sublist.cons))
  go_loopw [3, 22] (fun s i wr => ∃ (k : Nat) (vs : Value), k ≤ ns.length ∧ i = .int .i64 k ∧ s = vs ∧ Loc w NoM wr [row encS w.heap.size 9 vs (W0 :: (ns.take k).map (fun n => n.d.line)), var g1 [.int .i64 e.at_.boot, .int .i64 e.at_.n, .int .i64 e.vol, .int .i64 e.knew.a0, .int .i64 e.knew.a1, .int .i64 e.knew.a2, .int .i64 e.knew.a3, .int .i64 e.knew.a4, .int .i64 e.knew.a5, .int .i64 e.knew.a6, .int .i64 e.knew.a7, .int .i64 e.seen.a0, .int .i64 e.seen.a1, .int .i64 e.seen.a2, .int .i64 e.seen.a3, .int .i64 e.seen.a4, .int .i64 e.seen.a5, .int .i64 e.seen.a6, .int .i64 e.seen.a7, .slice aon ns.length cn, .slice aol ls.length cl] 31]) (fun _ i _ => ns.length - (intOf i).toNat)
  case atStart => exact ⟨0, _, by omega, rfl, rfl, by simpa using hL⟩
  case round =>
    clear hL
    obtain ⟨k, vs, hk, rfl, rfl, hL⟩ := hrel
    by_cases hlt : k < ns.length
    · obtain ⟨g, off, rfl, hr⟩ := heln k hlt
      have hrW : wr.rangeAt g (off + k * 13) (Ino.cells ns[k].s) := range_below hr hL.below
      clear hr
      have hok : ns[k].s.Ok w ns[k].d := HN.out _ (List.getElem_mem hlt)
      obtain ⟨hqw, hqp, hqx⟩ := HQ.out _ (List.getElem_mem hlt)
      have HT := Lib.hid (show W0 :: (ns.take (k + 1)).map (fun n => n.d.line) = (W0 :: (ns.take k).map (fun n => n.d.line)) ++ [ns[k].d.line] by rw [map_take_succ (fun n : Nd => n.d.line) ns k hlt]; rfl)
      have hln : (W0 :: (ns.take k).map (fun n => n.d.line)).length ≤ 2000 := by rw [List.length_cons, List.length_map, List.length_take]; omega
      generalize ns[k] = q at *
      generalize W0 :: (ns.take k).map (fun n => n.d.line) = L at *
      go_wp2_with (first
        | ((with_reducible refine gIndex rfl rfl ?_); refine ev_indexL rfl rfl rfl rfl hlt ?_) | ((with_reducible refine gate (N := 25) rfl ?_); refine ev_loadR rfl rfl rfl hrW (by rfl) ?_)
        | (go_at_call 25; (with_reducible refine (story_inode q.s q.d _ (hok.below hL.below) hqw hqp hqx (ht.below hL.below)).mono ?_); rintro en w3 ⟨rfl, hb3⟩; have hL := hL.call hb3; clear hb3)
        | ((with_reducible refine gLit rfl rfl ?_); refine ev_litL (cs := [.string q.d.line]) rfl hL rfl rfl rfl (by kernel_rfl) ?_; clear hL; intro gq wq hL)
        | ((with_reducible refine gAlloc rfl rfl ?_); (refine ev_allocL rfl hL rfl (by first | exact cells_agg _ rfl | exact cells_int _ _ | exact cells_str _ | exact cells_bool _ | exact cells_slice _ _ _ | exact cells_ptr _ | exact cells_map _ | exact cells_func _ _ _ | exact cells_nilFunc | exact cells_one (by assumption) (by assumption)) ?_; clear hL; intro gq wq hL)) | ((with_reducible refine gBox rfl rfl ?_); (refine ev_boxL rfl hL rfl rfl (by first | exact cells_agg _ rfl | exact cells_int _ _ | exact cells_str _ | exact cells_bool _ | exact cells_slice _ _ _ | exact cells_ptr _ | exact cells_map _ | exact cells_func _ _ _ | exact cells_nilFunc | exact cells_one (by assumption) (by assumption)) ?_; clear hL; intro gq wq hL)) | ((with_reducible refine gLoad rfl rfl ?_); (first | (refine ev_load1L rfl hL rfl rfl HasV.mem (by rfl) ?_) | (refine ev_loadAllL rfl hL rfl rfl HasV.mem (by rfl) ?_) | (refine ev_loadL rfl hL rfl rfl HasV.mem SegC.seg ?_))) | ((with_reducible refine gStore rfl rfl ?_); (first | (refine ev_storeC rfl hL rfl rfl rfl (by first | exact cells_agg _ rfl | exact cells_int _ _ | exact cells_str _ | exact cells_bool _ | exact cells_slice _ _ _ | exact cells_ptr _ | exact cells_map _ | exact cells_func _ _ _ | exact cells_nilFunc | exact cells_one (by assumption) (by assumption)) (by rfl) ?_) | (refine ev_storeAllC rfl hL rfl rfl rfl (by first | exact cells_agg _ rfl | exact cells_int _ _ | exact cells_str _ | exact cells_bool _ | exact cells_slice _ _ _ | exact cells_ptr _ | exact cells_map _ | exact cells_func _ _ _ | exact cells_nilFunc | exact cells_one (by assumption) (by assumption)) (by rfl) (by rfl) ?_)); clear hL; intro wq hL) | ((with_reducible refine gLoadG rfl rfl ?_ ?_); (exact wanted_some rfl rfl rfl (by with_reducible rfl)); (first | (refine ev_load1G (wanted_some rfl rfl rfl rfl) hL rfl rfl HasV.mem (by rfl) ?_) | (refine ev_loadAllG (wanted_some rfl rfl rfl rfl) hL rfl rfl HasV.mem (by rfl) ?_) | (refine ev_loadG_ (wanted_some rfl rfl rfl rfl) hL rfl rfl HasV.mem SegC.seg ?_)))
        | (at_builtin; refine ev_app1L (E := encS) q.d.line rfl hL rfl rfl rfl (by first | exact .head _ | exact .tail _ (.head _) | exact .tail _ (.tail _ (.head _)) | exact .tail _ (.tail _ (.tail _ (.head _))) | exact .tail _ (.tail _ (.tail _ (.tail _ (.head _)))) | exact .tail _ (.tail _ (.tail _ (.tail _ (.tail _ (.head _))))) | exact .tail _ (.tail _ (.tail _ (.tail _ (.tail _ (.tail _ (.head _)))))) | exact .tail _ (.tail _ (.tail _ (.tail _ (.tail _ (.tail _ (.tail _ (.head _))))))) | exact .tail _ (.tail _ (.tail _ (.tail _ (.tail _ (.tail _ (.tail _ (.tail _ (.head _))))))))) (by first | exact fun _ => .here _ | exact fun _ => .there _ (.here _) | exact fun _ => .there _ (.there _ (.here _)) | exact fun _ => .there _ (.there _ (.there _ (.here _))) | exact fun _ => .there _ (.there _ (.there _ (.there _ (.here _)))) | exact fun _ => .there _ (.there _ (.there _ (.there _ (.there _ (.here _))))) | exact fun _ => .there _ (.there _ (.there _ (.there _ (.there _ (.there _ (.here _))))))) rfl rfl rfl (by omega) hL.size ?_; clear hL; intro ao' c' wq hL))
      go_roundw
      case rel => exact ⟨k + 1, _, by omega, by go_num, rfl, by rw [HT.out]; exact hL.sub (by repeat (first | exact List.nil_sublist _ | with_reducible apply List.Sublist.cons_cons | with_reducible apply List.Sublist.cons))⟩
      case measure => simp [intOf]; omega
    · obtain rfl : k = ns.length := by omega
      have HT0 := Lib.hid (show ns.take ns.length = ns from List.take_length)
      rw [HT0.out] at hL
      obtain ⟨V2, hV2⟩ : ∃ V2, V2 = W0 :: ns.map (fun n => n.d.line) := ⟨_, rfl⟩
      rw [← hV2] at hL
      have hV2l : V2.length ≤ 1500 := by rw [hV2, List.length_cons, List.length_map]; omega
      have HV2 := Lib.hid hV2
      have HV2l := Lib.hid hV2l
      clear hV2 hV2l hk hlt HQ HN
      go_wp2_with (first | ((with_reducible refine gAlloc rfl rfl ?_); (refine ev_allocL rfl hL rfl (by first | exact cells_agg _ rfl | exact cells_int _ _ | exact cells_str _ | exact cells_bool _ | exact cells_slice _ _ _ | exact cells_ptr _ | exact cells_map _ | exact cells_func _ _ _ | exact cells_nilFunc | exact cells_one (by assumption) (by assumption)) ?_; clear hL; intro gq wq hL)) | ((with_reducible refine gBox rfl rfl ?_); (refine ev_boxL rfl hL rfl rfl (by first | exact cells_agg _ rfl | exact cells_int _ _ | exact cells_str _ | exact cells_bool _ | exact cells_slice _ _ _ | exact cells_ptr _ | exact cells_map _ | exact cells_func _ _ _ | exact cells_nilFunc | exact cells_one (by assumption) (by assumption)) ?_; clear hL; intro gq wq hL)) | ((with_reducible refine gLoad rfl rfl ?_); (first | (refine ev_load1L rfl hL rfl rfl HasV.mem (by rfl) ?_) | (refine ev_loadAllL rfl hL rfl rfl HasV.mem (by rfl) ?_) | (refine ev_loadL rfl hL rfl rfl HasV.mem SegC.seg ?_))) | ((with_reducible refine gStore rfl rfl ?_); (first | (refine ev_storeC rfl hL rfl rfl rfl (by first | exact cells_agg _ rfl | exact cells_int _ _ | exact cells_str _ | exact cells_bool _ | exact cells_slice _ _ _ | exact cells_ptr _ | exact cells_map _ | exact cells_func _ _ _ | exact cells_nilFunc | exact cells_one (by assumption) (by assumption)) (by rfl) ?_) | (refine ev_storeAllC rfl hL rfl rfl rfl (by first | exact cells_agg _ rfl | exact cells_int _ _ | exact cells_str _ | exact cells_bool _ | exact cells_slice _ _ _ | exact cells_ptr _ | exact cells_map _ | exact cells_func _ _ _ | exact cells_nilFunc | exact cells_one (by assumption) (by assumption)) (by rfl) (by rfl) ?_)); clear hL; intro wq hL) | ((with_reducible refine gLoadG rfl rfl ?_ ?_); (exact wanted_some rfl rfl rfl (by with_reducible rfl)); (first | (refine ev_load1G (wanted_some rfl rfl rfl rfl) hL rfl rfl HasV.mem (by rfl) ?_) | (refine ev_loadAllG (wanted_some rfl rfl rfl rfl) hL rfl rfl HasV.mem (by rfl) ?_) | (refine ev_loadG_ (wanted_some rfl rfl rfl rfl) hL rfl rfl HasV.mem SegC.seg ?_))))
      go_loopw [3, 36] (fun s i wr => ∃ (k : Nat) (vs : Value), k ≤ ls.length ∧ i = .int .i64 k ∧ s = vs ∧ Loc w NoM wr [row encS w.heap.size 9 vs (V2 ++ (ls.take k).map Lnk.line)]) (fun _ i _ => ls.length - (intOf i).toNat)
      case atStart => exact ⟨0, _, by omega, rfl, rfl, by simpa using hL.sub (by repeat (first | exact List.nil_sublist _ | exact List.Sublist.refl _ | with_reducible apply List.Sublist.cons_cons | with_reducible apply List.Sublist.cons))⟩
      case round =>
        clear hL
        obtain ⟨k, vs, hk, rfl, rfl, hL⟩ := hrel
        by_cases hlt : k < ls.length
        · obtain ⟨g, off, rfl, hr⟩ := hell k hlt
          have hrW : World.rangeAt _ g (off + k * 25) (Lnk.cells ls[k]) := range_below hr hL.below
          clear hr
          have hqw := HK.out _ (List.getElem_mem hlt)
          have HT := Lib.hid (show V2 ++ (ls.take (k + 1)).map Lnk.line = (V2 ++ (ls.take k).map Lnk.line) ++ [ls[k].line] by rw [map_take_succ Lnk.line ls k hlt, List.append_assoc])
          have hln : (V2 ++ (ls.take k).map Lnk.line).length ≤ 3000 := by have := HV2l.out; rw [List.length_append, List.length_map, List.length_take]; omega
          generalize ls[k] = q at *
          generalize V2 ++ (ls.take k).map Lnk.line = L at *
          go_wp2_with (first
            | ((with_reducible refine gIndex rfl rfl ?_); refine ev_indexL rfl rfl rfl rfl hlt ?_) | ((with_reducible refine gate (N := 39) rfl ?_); refine ev_loadR rfl rfl rfl hrW (by rfl) ?_)
            | (go_at_call 26; (with_reducible refine (story_link q _ hqw (ht.below hL.below)).mono ?_); rintro en w3 ⟨rfl, hb3⟩; have hL := hL.call hb3; clear hb3)
            | ((with_reducible refine gLit rfl rfl ?_); refine ev_litL (cs := [.string q.line]) rfl hL rfl rfl rfl (by kernel_rfl) ?_; clear hL; intro gq wq hL)
            | ((with_reducible refine gAlloc rfl rfl ?_); (refine ev_allocL rfl hL rfl (by first | exact cells_agg _ rfl | exact cells_int _ _ | exact cells_str _ | exact cells_bool _ | exact cells_slice _ _ _ | exact cells_ptr _ | exact cells_map _ | exact cells_func _ _ _ | exact cells_nilFunc | exact cells_one (by assumption) (by assumption)) ?_; clear hL; intro gq wq hL)) | ((with_reducible refine gBox rfl rfl ?_); (refine ev_boxL rfl hL rfl rfl (by first | exact cells_agg _ rfl | exact cells_int _ _ | exact cells_str _ | exact cells_bool _ | exact cells_slice _ _ _ | exact cells_ptr _ | exact cells_map _ | exact cells_func _ _ _ | exact cells_nilFunc | exact cells_one (by assumption) (by assumption)) ?_; clear hL; intro gq wq hL)) | ((with_reducible refine gLoad rfl rfl ?_); (first | (refine ev_load1L rfl hL rfl rfl HasV.mem (by rfl) ?_) | (refine ev_loadAllL rfl hL rfl rfl HasV.mem (by rfl) ?_) | (refine ev_loadL rfl hL rfl rfl HasV.mem SegC.seg ?_))) | ((with_reducible refine gStore rfl rfl ?_); (first | (refine ev_storeC rfl hL rfl rfl rfl (by first | exact cells_agg _ rfl | exact cells_int _ _ | exact cells_str _ | exact cells_bool _ | exact cells_slice _ _ _ | exact cells_ptr _ | exact cells_map _ | exact cells_func _ _ _ | exact cells_nilFunc | exact cells_one (by assumption) (by assumption)) (by rfl) ?_) | (refine ev_storeAllC rfl hL rfl rfl rfl (by first | exact cells_agg _ rfl | exact cells_int _ _ | exact cells_str _ | exact cells_bool _ | exact cells_slice _ _ _ | exact cells_ptr _ | exact cells_map _ | exact cells_func _ _ _ | exact cells_nilFunc | exact cells_one (by assumption) (by assumption)) (by rfl) (by rfl) ?_)); clear hL; intro wq hL) | ((with_reducible refine gLoadG rfl rfl ?_ ?_); (exact wanted_some rfl rfl rfl (by with_reducible rfl)); (first | (refine ev_load1G (wanted_some rfl rfl rfl rfl) hL rfl rfl HasV.mem (by rfl) ?_) | (refine ev_loadAllG (wanted_some rfl rfl rfl rfl) hL rfl rfl HasV.mem (by rfl) ?_) | (refine ev_loadG_ (wanted_some rfl rfl rfl rfl) hL rfl rfl HasV.mem SegC.seg ?_)))
            | (at_builtin; refine ev_app1L (E := encS) q.line rfl hL rfl rfl rfl (by first | exact .head _ | exact .tail _ (.head _) | exact .tail _ (.tail _ (.head _)) | exact .tail _ (.tail _ (.tail _ (.head _))) | exact .tail _ (.tail _ (.tail _ (.tail _ (.head _)))) | exact .tail _ (.tail _ (.tail _ (.tail _ (.tail _ (.head _))))) | exact .tail _ (.tail _ (.tail _ (.tail _ (.tail _ (.tail _ (.head _)))))) | exact .tail _ (.tail _ (.tail _ (.tail _ (.tail _ (.tail _ (.tail _ (.head _))))))) | exact .tail _ (.tail _ (.tail _ (.tail _ (.tail _ (.tail _ (.tail _ (.tail _ (.head _))))))))) (by first | exact fun _ => .here _ | exact fun _ => .there _ (.here _) | exact fun _ => .there _ (.there _ (.here _)) | exact fun _ => .there _ (.there _ (.there _ (.here _))) | exact fun _ => .there _ (.there _ (.there _ (.there _ (.here _)))) | exact fun _ => .there _ (.there _ (.there _ (.there _ (.there _ (.here _))))) | exact fun _ => .there _ (.there _ (.there _ (.there _ (.there _ (.there _ (.here _))))))) rfl rfl rfl (by omega) hL.size ?_; clear hL; intro ao' c' wq hL))
          go_roundw
          case rel => exact ⟨k + 1, _, by omega, by go_num, rfl, by rw [HT.out]; exact hL.sub (by repeat (first | exact List.nil_sublist _ | with_reducible apply List.Sublist.cons_cons | with_reducible apply List.Sublist.cons))⟩
          case measure => simp [intOf]; omega
        · obtain rfl : k = ls.length := by omega
          have HT0 := Lib.hid (show ls.take ls.length = ls from List.take_length)
          rw [HT0.out, HV2.out, List.cons_append, ← HE.out] at hL
          go_wp2
          go_ret
          exact ⟨_, rfl, hL⟩
end Go.Proofs.YtebpacmhdkgfeaaDoor

/- Chapter 29: the closures of story.About. -/
namespace Go.Proofs.YtebpacmhdkgfeaaDoor
open Go.RowKit
set_option maxHeartbeats 1000000
/-- A guarded load of a part of a block that was there. -/
theorem ev_loadBAG {P : Program} {ops : Array Oper} {rest : List Oper} {o : Oper} {a : Act} {Q : Exit → Act → World → Prop} {W : World} {ty : TypeId} {x : Operand} {n g j : Nat} {cs vs : List Value} {t : TypeId} [ha : AggT P ty] [hn : SizeT P ty n] (hw : Region.wanted o (yielded ops a.tmps) = true) (hB : Box W g cs.toArray t) (ho : o.op = .load ty x) (hx : a.eval x = .pointer (some ⟨g, j, none⟩))
    (hs : Seg cs j n vs) (h : wpList P ops Q rest (a.put o.dst (.agg vs.toArray)) W) : wpList P ops Q (o :: rest) a W := by
  obtain ⟨d, hu, hd⟩ := isRow_of ha.agg
  refine eventG hw (v := .agg vs.toArray) (w1 := W) ?_ h
  unfold execOp
  simp only [ho, hx, Instr.loadAt, Instr.sureAddr, Sem.run_bind, Sem.run_pure, Result.andThen_ok, run_loadVar_mid W g j ty vs d (range_of_box hB hs) hu hd (by rw [hs.len]; exact hn.size)]

theorem about_node (n : Nd) (id : Mk) (g : Nat) (t : TypeId) (w : World) (hB : Box w g [.int .i64 id.boot, .int .i64 id.n].toArray t) :
    Calls Tryd.prog 39 #[.agg (Ino.cells n.s).toArray, .pointer (some ⟨g, 0, none⟩)] w fun e w' => e = .returned (.bool (decide (n.s.hd.id = id))) ∧ Below w.heap.size w w' := by
  have hL := Loc.nil w NoM
  have h1 := stamp_eq n.s.hd.id id
  generalize decide (n.s.hd.id = id) = r at *
  unfold Ino.cells
  go_enter Tryd.func39, Tryd.ntmps39
  go_wp2_with (first | ((with_reducible refine gLoadG rfl rfl ?_ ?_); (exact wanted_some rfl rfl rfl (by with_reducible rfl)); (refine ev_loadBAG (wanted_some rfl rfl rfl rfl) (Loc.old hL hB not_noM) rfl rfl (by repeat (first | exact .nil _ | with_reducible apply Seg.take | with_reducible apply Seg.skip)) ?_)) | ((with_reducible refine gLoad rfl rfl ?_); (first | (refine ev_loadB1 rfl (Loc.old hL hB not_noM) rfl rfl (by rfl) ?_) | (refine ev_loadBA rfl (Loc.old hL hB not_noM) rfl rfl (by repeat (first | exact .nil _ | with_reducible apply Seg.take | with_reducible apply Seg.skip)) ?_))) | ((with_reducible refine gLoadG rfl rfl ?_ ?_); (exact wanted_some rfl rfl rfl (by with_reducible rfl)); (refine ev_loadB1G (wanted_some rfl rfl rfl rfl) (Loc.old hL hB not_noM) rfl rfl (by rfl) ?_)) | ((with_reducible refine gAlloc rfl rfl ?_); (refine ev_allocL rfl hL rfl (by first | exact cells_agg _ rfl | exact cells_int _ _ | exact cells_str _ | exact cells_bool _ | exact cells_slice _ _ _ | exact cells_ptr _ | exact cells_map _ | exact cells_func _ _ _ | exact cells_nilFunc | exact cells_one (by assumption) (by assumption)) ?_; clear hL; intro gq wq hL)) | ((with_reducible refine gBox rfl rfl ?_); (refine ev_boxL rfl hL rfl rfl (by first | exact cells_agg _ rfl | exact cells_int _ _ | exact cells_str _ | exact cells_bool _ | exact cells_slice _ _ _ | exact cells_ptr _ | exact cells_map _ | exact cells_func _ _ _ | exact cells_nilFunc | exact cells_one (by assumption) (by assumption)) ?_; clear hL; intro gq wq hL)) | ((with_reducible refine gLoad rfl rfl ?_); (first | (refine ev_load1L rfl hL rfl rfl HasV.mem (by rfl) ?_) | (refine ev_loadAllL rfl hL rfl rfl HasV.mem (by rfl) ?_) | (refine ev_loadL rfl hL rfl rfl HasV.mem SegC.seg ?_))) | ((with_reducible refine gStore rfl rfl ?_); (first | (refine ev_storeC rfl hL rfl rfl rfl (by first | exact cells_agg _ rfl | exact cells_int _ _ | exact cells_str _ | exact cells_bool _ | exact cells_slice _ _ _ | exact cells_ptr _ | exact cells_map _ | exact cells_func _ _ _ | exact cells_nilFunc | exact cells_one (by assumption) (by assumption)) (by rfl) ?_) | (refine ev_storeAllC rfl hL rfl rfl rfl (by first | exact cells_agg _ rfl | exact cells_int _ _ | exact cells_str _ | exact cells_bool _ | exact cells_slice _ _ _ | exact cells_ptr _ | exact cells_map _ | exact cells_func _ _ _ | exact cells_nilFunc | exact cells_one (by assumption) (by assumption)) (by rfl) (by rfl) ?_)); clear hL; intro wq hL) | ((with_reducible refine gLoadG rfl rfl ?_ ?_); (exact wanted_some rfl rfl rfl (by with_reducible rfl)); (first | (refine ev_load1G (wanted_some rfl rfl rfl rfl) hL rfl rfl HasV.mem (by rfl) ?_) | (refine ev_loadAllG (wanted_some rfl rfl rfl rfl) hL rfl rfl HasV.mem (by rfl) ?_) | (refine ev_loadG_ (wanted_some rfl rfl rfl rfl) hL rfl rfl HasV.mem SegC.seg ?_))))
  go_ret
  exact ⟨rfl, hL.below⟩
theorem about_link (l : Lnk) (id : Mk) (g : Nat) (t : TypeId) (w : World) (hB : Box w g [.int .i64 id.boot, .int .i64 id.n].toArray t) :
    Calls Tryd.prog 41 #[.agg (Lnk.cells l).toArray, .pointer (some ⟨g, 0, none⟩)] w fun e w' => e = .returned (.bool (l.about id)) ∧ Below w.heap.size w w' := by
  have hL := Loc.nil w NoM
  have h1 := stamp_eq l.id id
  have h2 := stamp_eq l.node id
  have h3 := stamp_nz l.at_
  unfold Lnk.about
  generalize decide (l.id = id) = r1 at *
  generalize decide (l.node = id) = r2 at *
  generalize decide (l.at_ = Mk.zero) = r3 at *
  unfold Lnk.cells
  cases r1
  · cases r2
    · go_enter Tryd.func41, Tryd.ntmps41
      go_wp2_with (first | ((with_reducible refine gLoadG rfl rfl ?_ ?_); (exact wanted_some rfl rfl rfl (by with_reducible rfl)); (refine ev_loadBAG (wanted_some rfl rfl rfl rfl) (Loc.old hL hB not_noM) rfl rfl (by repeat (first | exact .nil _ | with_reducible apply Seg.take | with_reducible apply Seg.skip)) ?_)) | ((with_reducible refine gLoad rfl rfl ?_); (first | (refine ev_loadB1 rfl (Loc.old hL hB not_noM) rfl rfl (by rfl) ?_) | (refine ev_loadBA rfl (Loc.old hL hB not_noM) rfl rfl (by repeat (first | exact .nil _ | with_reducible apply Seg.take | with_reducible apply Seg.skip)) ?_))) | ((with_reducible refine gLoadG rfl rfl ?_ ?_); (exact wanted_some rfl rfl rfl (by with_reducible rfl)); (refine ev_loadB1G (wanted_some rfl rfl rfl rfl) (Loc.old hL hB not_noM) rfl rfl (by rfl) ?_)) | ((with_reducible refine gAlloc rfl rfl ?_); (refine ev_allocL rfl hL rfl (by first | exact cells_agg _ rfl | exact cells_int _ _ | exact cells_str _ | exact cells_bool _ | exact cells_slice _ _ _ | exact cells_ptr _ | exact cells_map _ | exact cells_func _ _ _ | exact cells_nilFunc | exact cells_one (by assumption) (by assumption)) ?_; clear hL; intro gq wq hL)) | ((with_reducible refine gBox rfl rfl ?_); (refine ev_boxL rfl hL rfl rfl (by first | exact cells_agg _ rfl | exact cells_int _ _ | exact cells_str _ | exact cells_bool _ | exact cells_slice _ _ _ | exact cells_ptr _ | exact cells_map _ | exact cells_func _ _ _ | exact cells_nilFunc | exact cells_one (by assumption) (by assumption)) ?_; clear hL; intro gq wq hL)) | ((with_reducible refine gLoad rfl rfl ?_); (first | (refine ev_load1L rfl hL rfl rfl HasV.mem (by rfl) ?_) | (refine ev_loadAllL rfl hL rfl rfl HasV.mem (by rfl) ?_) | (refine ev_loadL rfl hL rfl rfl HasV.mem SegC.seg ?_))) | ((with_reducible refine gStore rfl rfl ?_); (first | (refine ev_storeC rfl hL rfl rfl rfl (by first | exact cells_agg _ rfl | exact cells_int _ _ | exact cells_str _ | exact cells_bool _ | exact cells_slice _ _ _ | exact cells_ptr _ | exact cells_map _ | exact cells_func _ _ _ | exact cells_nilFunc | exact cells_one (by assumption) (by assumption)) (by rfl) ?_) | (refine ev_storeAllC rfl hL rfl rfl rfl (by first | exact cells_agg _ rfl | exact cells_int _ _ | exact cells_str _ | exact cells_bool _ | exact cells_slice _ _ _ | exact cells_ptr _ | exact cells_map _ | exact cells_func _ _ _ | exact cells_nilFunc | exact cells_one (by assumption) (by assumption)) (by rfl) (by rfl) ?_)); clear hL; intro wq hL) | ((with_reducible refine gLoadG rfl rfl ?_ ?_); (exact wanted_some rfl rfl rfl (by with_reducible rfl)); (first | (refine ev_load1G (wanted_some rfl rfl rfl rfl) hL rfl rfl HasV.mem (by rfl) ?_) | (refine ev_loadAllG (wanted_some rfl rfl rfl rfl) hL rfl rfl HasV.mem (by rfl) ?_) | (refine ev_loadG_ (wanted_some rfl rfl rfl rfl) hL rfl rfl HasV.mem SegC.seg ?_))))
      go_ret
      exact ⟨rfl, hL.below⟩
    · go_enter Tryd.func41, Tryd.ntmps41
      go_wp2_with (first | ((with_reducible refine gLoadG rfl rfl ?_ ?_); (exact wanted_some rfl rfl rfl (by with_reducible rfl)); (refine ev_loadBAG (wanted_some rfl rfl rfl rfl) (Loc.old hL hB not_noM) rfl rfl (by repeat (first | exact .nil _ | with_reducible apply Seg.take | with_reducible apply Seg.skip)) ?_)) | ((with_reducible refine gLoad rfl rfl ?_); (first | (refine ev_loadB1 rfl (Loc.old hL hB not_noM) rfl rfl (by rfl) ?_) | (refine ev_loadBA rfl (Loc.old hL hB not_noM) rfl rfl (by repeat (first | exact .nil _ | with_reducible apply Seg.take | with_reducible apply Seg.skip)) ?_))) | ((with_reducible refine gLoadG rfl rfl ?_ ?_); (exact wanted_some rfl rfl rfl (by with_reducible rfl)); (refine ev_loadB1G (wanted_some rfl rfl rfl rfl) (Loc.old hL hB not_noM) rfl rfl (by rfl) ?_)) | ((with_reducible refine gAlloc rfl rfl ?_); (refine ev_allocL rfl hL rfl (by first | exact cells_agg _ rfl | exact cells_int _ _ | exact cells_str _ | exact cells_bool _ | exact cells_slice _ _ _ | exact cells_ptr _ | exact cells_map _ | exact cells_func _ _ _ | exact cells_nilFunc | exact cells_one (by assumption) (by assumption)) ?_; clear hL; intro gq wq hL)) | ((with_reducible refine gBox rfl rfl ?_); (refine ev_boxL rfl hL rfl rfl (by first | exact cells_agg _ rfl | exact cells_int _ _ | exact cells_str _ | exact cells_bool _ | exact cells_slice _ _ _ | exact cells_ptr _ | exact cells_map _ | exact cells_func _ _ _ | exact cells_nilFunc | exact cells_one (by assumption) (by assumption)) ?_; clear hL; intro gq wq hL)) | ((with_reducible refine gLoad rfl rfl ?_); (first | (refine ev_load1L rfl hL rfl rfl HasV.mem (by rfl) ?_) | (refine ev_loadAllL rfl hL rfl rfl HasV.mem (by rfl) ?_) | (refine ev_loadL rfl hL rfl rfl HasV.mem SegC.seg ?_))) | ((with_reducible refine gStore rfl rfl ?_); (first | (refine ev_storeC rfl hL rfl rfl rfl (by first | exact cells_agg _ rfl | exact cells_int _ _ | exact cells_str _ | exact cells_bool _ | exact cells_slice _ _ _ | exact cells_ptr _ | exact cells_map _ | exact cells_func _ _ _ | exact cells_nilFunc | exact cells_one (by assumption) (by assumption)) (by rfl) ?_) | (refine ev_storeAllC rfl hL rfl rfl rfl (by first | exact cells_agg _ rfl | exact cells_int _ _ | exact cells_str _ | exact cells_bool _ | exact cells_slice _ _ _ | exact cells_ptr _ | exact cells_map _ | exact cells_func _ _ _ | exact cells_nilFunc | exact cells_one (by assumption) (by assumption)) (by rfl) (by rfl) ?_)); clear hL; intro wq hL) | ((with_reducible refine gLoadG rfl rfl ?_ ?_); (exact wanted_some rfl rfl rfl (by with_reducible rfl)); (first | (refine ev_load1G (wanted_some rfl rfl rfl rfl) hL rfl rfl HasV.mem (by rfl) ?_) | (refine ev_loadAllG (wanted_some rfl rfl rfl rfl) hL rfl rfl HasV.mem (by rfl) ?_) | (refine ev_loadG_ (wanted_some rfl rfl rfl rfl) hL rfl rfl HasV.mem SegC.seg ?_))))
      go_ret
      exact ⟨rfl, hL.below⟩
  · go_enter Tryd.func41, Tryd.ntmps41
    go_wp2_with (first | ((with_reducible refine gLoadG rfl rfl ?_ ?_); (exact wanted_some rfl rfl rfl (by with_reducible rfl)); (refine ev_loadBAG (wanted_some rfl rfl rfl rfl) (Loc.old hL hB not_noM) rfl rfl (by repeat (first | exact .nil _ | with_reducible apply Seg.take | with_reducible apply Seg.skip)) ?_)) | ((with_reducible refine gLoad rfl rfl ?_); (first | (refine ev_loadB1 rfl (Loc.old hL hB not_noM) rfl rfl (by rfl) ?_) | (refine ev_loadBA rfl (Loc.old hL hB not_noM) rfl rfl (by repeat (first | exact .nil _ | with_reducible apply Seg.take | with_reducible apply Seg.skip)) ?_))) | ((with_reducible refine gLoadG rfl rfl ?_ ?_); (exact wanted_some rfl rfl rfl (by with_reducible rfl)); (refine ev_loadB1G (wanted_some rfl rfl rfl rfl) (Loc.old hL hB not_noM) rfl rfl (by rfl) ?_)) | ((with_reducible refine gAlloc rfl rfl ?_); (refine ev_allocL rfl hL rfl (by first | exact cells_agg _ rfl | exact cells_int _ _ | exact cells_str _ | exact cells_bool _ | exact cells_slice _ _ _ | exact cells_ptr _ | exact cells_map _ | exact cells_func _ _ _ | exact cells_nilFunc | exact cells_one (by assumption) (by assumption)) ?_; clear hL; intro gq wq hL)) | ((with_reducible refine gBox rfl rfl ?_); (refine ev_boxL rfl hL rfl rfl (by first | exact cells_agg _ rfl | exact cells_int _ _ | exact cells_str _ | exact cells_bool _ | exact cells_slice _ _ _ | exact cells_ptr _ | exact cells_map _ | exact cells_func _ _ _ | exact cells_nilFunc | exact cells_one (by assumption) (by assumption)) ?_; clear hL; intro gq wq hL)) | ((with_reducible refine gLoad rfl rfl ?_); (first | (refine ev_load1L rfl hL rfl rfl HasV.mem (by rfl) ?_) | (refine ev_loadAllL rfl hL rfl rfl HasV.mem (by rfl) ?_) | (refine ev_loadL rfl hL rfl rfl HasV.mem SegC.seg ?_))) | ((with_reducible refine gStore rfl rfl ?_); (first | (refine ev_storeC rfl hL rfl rfl rfl (by first | exact cells_agg _ rfl | exact cells_int _ _ | exact cells_str _ | exact cells_bool _ | exact cells_slice _ _ _ | exact cells_ptr _ | exact cells_map _ | exact cells_func _ _ _ | exact cells_nilFunc | exact cells_one (by assumption) (by assumption)) (by rfl) ?_) | (refine ev_storeAllC rfl hL rfl rfl rfl (by first | exact cells_agg _ rfl | exact cells_int _ _ | exact cells_str _ | exact cells_bool _ | exact cells_slice _ _ _ | exact cells_ptr _ | exact cells_map _ | exact cells_func _ _ _ | exact cells_nilFunc | exact cells_one (by assumption) (by assumption)) (by rfl) (by rfl) ?_)); clear hL; intro wq hL) | ((with_reducible refine gLoadG rfl rfl ?_ ?_); (exact wanted_some rfl rfl rfl (by with_reducible rfl)); (first | (refine ev_load1G (wanted_some rfl rfl rfl rfl) hL rfl rfl HasV.mem (by rfl) ?_) | (refine ev_loadAllG (wanted_some rfl rfl rfl rfl) hL rfl rfl HasV.mem (by rfl) ?_) | (refine ev_loadG_ (wanted_some rfl rfl rfl rfl) hL rfl rfl HasV.mem SegC.seg ?_))))
    go_ret
    exact ⟨rfl, hL.below⟩
end Go.Proofs.YtebpacmhdkgfeaaDoor

/- slices.IndexFunc and ContainsFunc at crannog/api.Inode, with crannog/story.About$1. -/
namespace Go.Proofs.YtebpacmhdkgfeaaDoor.IndexN
open Go.RowKit

set_option maxHeartbeats 2000000 in
theorem indexFunc (v : Value) (xs : List Nd) (p : Nd → Bool) (cap : Value) (w : World) (h : encN.R w v xs)
    (hp : ∀ x ∈ xs, ∀ w', Below w.heap.size w w' → Calls Tryd.prog 39 #[.agg (encN.cells x).toArray, cap] w' fun e w'' => e = .returned (.bool (p x)) ∧ Below w'.heap.size w' w'') :
    Calls Tryd.prog 53 #[v, .func (.func 39) #[] #[cap]] w fun e w' => (∃ i : Int, e = .returned (.int .i64 i) ∧ ((0 ≤ i) ↔ xs.any p = true)) ∧ Below w.heap.size w w' := by
  have hL := Loc.nil w NoM
  have hmx := R_max h
  obtain ⟨ao, c, rfl, hel⟩ := R_elem h
  have HP := Lib.hid hp
  clear hp h
  go_enter Tryd.func53, Tryd.ntmps53
  go_wp2_with (first | ((with_reducible refine gAlloc rfl rfl ?_); (refine ev_allocL rfl hL rfl (by first | exact cells_agg _ rfl | exact cells_int _ _ | exact cells_str _ | exact cells_bool _ | exact cells_slice _ _ _ | exact cells_ptr _ | exact cells_map _ | exact cells_func _ _ _ | exact cells_nilFunc | exact cells_one (by assumption) (by assumption)) ?_; clear hL; intro gq wq hL)) | ((with_reducible refine gBox rfl rfl ?_); (refine ev_boxL rfl hL rfl rfl (by first | exact cells_agg _ rfl | exact cells_int _ _ | exact cells_str _ | exact cells_bool _ | exact cells_slice _ _ _ | exact cells_ptr _ | exact cells_map _ | exact cells_func _ _ _ | exact cells_nilFunc | exact cells_one (by assumption) (by assumption)) ?_; clear hL; intro gq wq hL)) | ((with_reducible refine gLoad rfl rfl ?_); (first | (refine ev_load1L rfl hL rfl rfl HasV.mem (by rfl) ?_) | (refine ev_loadAllL rfl hL rfl rfl HasV.mem (by rfl) ?_) | (refine ev_loadL rfl hL rfl rfl HasV.mem SegC.seg ?_))) | ((with_reducible refine gStore rfl rfl ?_); (first | (refine ev_storeC rfl hL rfl rfl rfl (by first | exact cells_agg _ rfl | exact cells_int _ _ | exact cells_str _ | exact cells_bool _ | exact cells_slice _ _ _ | exact cells_ptr _ | exact cells_map _ | exact cells_func _ _ _ | exact cells_nilFunc | exact cells_one (by assumption) (by assumption)) (by rfl) ?_) | (refine ev_storeAllC rfl hL rfl rfl rfl (by first | exact cells_agg _ rfl | exact cells_int _ _ | exact cells_str _ | exact cells_bool _ | exact cells_slice _ _ _ | exact cells_ptr _ | exact cells_map _ | exact cells_func _ _ _ | exact cells_nilFunc | exact cells_one (by assumption) (by assumption)) (by rfl) (by rfl) ?_)); clear hL; intro wq hL) | ((with_reducible refine gLoadG rfl rfl ?_ ?_); (exact wanted_some rfl rfl rfl (by with_reducible rfl)); (first | (refine ev_load1G (wanted_some rfl rfl rfl rfl) hL rfl rfl HasV.mem (by rfl) ?_) | (refine ev_loadAllG (wanted_some rfl rfl rfl rfl) hL rfl rfl HasV.mem (by rfl) ?_) | (refine ev_loadG_ (wanted_some rfl rfl rfl rfl) hL rfl rfl HasV.mem SegC.seg ?_))))
  have HN : Hid (∀ x ∈ xs.take 0, p x = false) := Lib.hid (by simp)
  go_loopw [8] (fun i wr => ∃ k : Nat, k ≤ xs.length ∧ i = .int .i64 k ∧ Hid (∀ x ∈ xs.take k, p x = false) ∧ Loc w NoM wr []) (fun i _ => xs.length - (intOf i).toNat)
  case atStart => exact ⟨0, by omega, rfl, HN, hL⟩
  case round =>
    clear hL HN
    obtain ⟨k, hk, rfl, HN, hL⟩ := hrel
    by_cases hlt : k < xs.length
    · obtain ⟨g, off, rfl, hr⟩ := hel k hlt
      have hrW : World.rangeAt _ g (off + k * 13) (encN.cells xs[k]) := range_below hr hL.below
      clear hr
      have hx := Lib.hid (HP.out _ (List.getElem_mem hlt))
      have HT := Lib.hid (show xs.take (k + 1) = xs.take k ++ [xs[k]] from (List.take_append_getElem hlt).symm)
      have hm : xs[k] ∈ xs := List.getElem_mem hlt
      have HM := Lib.hid hm
      clear hm
      cases hpx : p xs[k]
      · have HPX := Lib.hid hpx
        rw [hpx] at hx
        clear hpx
        generalize xs[k] = x at *
        go_wp2_with (first
          | ((with_reducible refine gIndex rfl rfl ?_); refine ev_indexL rfl rfl rfl rfl hlt ?_) | ((with_reducible refine gate (N := 15) rfl ?_); refine ev_loadR rfl rfl rfl hrW (by rfl) ?_)
          | (go_at_call 39; (with_reducible refine (hx.out _ hL.below).mono ?_); rintro e w3 ⟨rfl, hb3⟩; have hL := hL.call hb3; clear hb3)
          | ((with_reducible refine gAlloc rfl rfl ?_); (refine ev_allocL rfl hL rfl (by first | exact cells_agg _ rfl | exact cells_int _ _ | exact cells_str _ | exact cells_bool _ | exact cells_slice _ _ _ | exact cells_ptr _ | exact cells_map _ | exact cells_func _ _ _ | exact cells_nilFunc | exact cells_one (by assumption) (by assumption)) ?_; clear hL; intro gq wq hL)) | ((with_reducible refine gBox rfl rfl ?_); (refine ev_boxL rfl hL rfl rfl (by first | exact cells_agg _ rfl | exact cells_int _ _ | exact cells_str _ | exact cells_bool _ | exact cells_slice _ _ _ | exact cells_ptr _ | exact cells_map _ | exact cells_func _ _ _ | exact cells_nilFunc | exact cells_one (by assumption) (by assumption)) ?_; clear hL; intro gq wq hL)) | ((with_reducible refine gLoad rfl rfl ?_); (first | (refine ev_load1L rfl hL rfl rfl HasV.mem (by rfl) ?_) | (refine ev_loadAllL rfl hL rfl rfl HasV.mem (by rfl) ?_) | (refine ev_loadL rfl hL rfl rfl HasV.mem SegC.seg ?_))) | ((with_reducible refine gStore rfl rfl ?_); (first | (refine ev_storeC rfl hL rfl rfl rfl (by first | exact cells_agg _ rfl | exact cells_int _ _ | exact cells_str _ | exact cells_bool _ | exact cells_slice _ _ _ | exact cells_ptr _ | exact cells_map _ | exact cells_func _ _ _ | exact cells_nilFunc | exact cells_one (by assumption) (by assumption)) (by rfl) ?_) | (refine ev_storeAllC rfl hL rfl rfl rfl (by first | exact cells_agg _ rfl | exact cells_int _ _ | exact cells_str _ | exact cells_bool _ | exact cells_slice _ _ _ | exact cells_ptr _ | exact cells_map _ | exact cells_func _ _ _ | exact cells_nilFunc | exact cells_one (by assumption) (by assumption)) (by rfl) (by rfl) ?_)); clear hL; intro wq hL) | ((with_reducible refine gLoadG rfl rfl ?_ ?_); (exact wanted_some rfl rfl rfl (by with_reducible rfl)); (first | (refine ev_load1G (wanted_some rfl rfl rfl rfl) hL rfl rfl HasV.mem (by rfl) ?_) | (refine ev_loadAllG (wanted_some rfl rfl rfl rfl) hL rfl rfl HasV.mem (by rfl) ?_) | (refine ev_loadG_ (wanted_some rfl rfl rfl rfl) hL rfl rfl HasV.mem SegC.seg ?_))))
        go_roundw
        case rel => exact ⟨k + 1, by omega, by go_num, Lib.hid (by rw [HT.out]; intro y hy; rcases List.mem_append.1 hy with hy | hy; exact HN.out y hy; rw [List.mem_singleton.1 hy]; exact HPX.out), hL⟩
        case measure => simp [intOf]; omega
      · have HPX := Lib.hid hpx
        rw [hpx] at hx
        clear hpx
        generalize xs[k] = x at *
        go_wp2_with (first
          | ((with_reducible refine gIndex rfl rfl ?_); refine ev_indexL rfl rfl rfl rfl hlt ?_) | ((with_reducible refine gate (N := 15) rfl ?_); refine ev_loadR rfl rfl rfl hrW (by rfl) ?_)
          | (go_at_call 39; (with_reducible refine (hx.out _ hL.below).mono ?_); rintro e w3 ⟨rfl, hb3⟩; have hL := hL.call hb3; clear hb3)
          | ((with_reducible refine gAlloc rfl rfl ?_); (refine ev_allocL rfl hL rfl (by first | exact cells_agg _ rfl | exact cells_int _ _ | exact cells_str _ | exact cells_bool _ | exact cells_slice _ _ _ | exact cells_ptr _ | exact cells_map _ | exact cells_func _ _ _ | exact cells_nilFunc | exact cells_one (by assumption) (by assumption)) ?_; clear hL; intro gq wq hL)) | ((with_reducible refine gBox rfl rfl ?_); (refine ev_boxL rfl hL rfl rfl (by first | exact cells_agg _ rfl | exact cells_int _ _ | exact cells_str _ | exact cells_bool _ | exact cells_slice _ _ _ | exact cells_ptr _ | exact cells_map _ | exact cells_func _ _ _ | exact cells_nilFunc | exact cells_one (by assumption) (by assumption)) ?_; clear hL; intro gq wq hL)) | ((with_reducible refine gLoad rfl rfl ?_); (first | (refine ev_load1L rfl hL rfl rfl HasV.mem (by rfl) ?_) | (refine ev_loadAllL rfl hL rfl rfl HasV.mem (by rfl) ?_) | (refine ev_loadL rfl hL rfl rfl HasV.mem SegC.seg ?_))) | ((with_reducible refine gStore rfl rfl ?_); (first | (refine ev_storeC rfl hL rfl rfl rfl (by first | exact cells_agg _ rfl | exact cells_int _ _ | exact cells_str _ | exact cells_bool _ | exact cells_slice _ _ _ | exact cells_ptr _ | exact cells_map _ | exact cells_func _ _ _ | exact cells_nilFunc | exact cells_one (by assumption) (by assumption)) (by rfl) ?_) | (refine ev_storeAllC rfl hL rfl rfl rfl (by first | exact cells_agg _ rfl | exact cells_int _ _ | exact cells_str _ | exact cells_bool _ | exact cells_slice _ _ _ | exact cells_ptr _ | exact cells_map _ | exact cells_func _ _ _ | exact cells_nilFunc | exact cells_one (by assumption) (by assumption)) (by rfl) (by rfl) ?_)); clear hL; intro wq hL) | ((with_reducible refine gLoadG rfl rfl ?_ ?_); (exact wanted_some rfl rfl rfl (by with_reducible rfl)); (first | (refine ev_load1G (wanted_some rfl rfl rfl rfl) hL rfl rfl HasV.mem (by rfl) ?_) | (refine ev_loadAllG (wanted_some rfl rfl rfl rfl) hL rfl rfl HasV.mem (by rfl) ?_) | (refine ev_loadG_ (wanted_some rfl rfl rfl rfl) hL rfl rfl HasV.mem SegC.seg ?_))))
        go_ret
        exact ⟨⟨(k : Int), rfl, ⟨fun _ => List.any_eq_true.2 ⟨x, HM.out, HPX.out⟩, fun _ => by omega⟩⟩, hL.below⟩
    · obtain rfl : k = xs.length := by omega
      go_wp2
      go_ret
      refine ⟨⟨-1, rfl, ⟨fun h => by omega, fun h => ?_⟩⟩, hL.below⟩
      obtain ⟨x, hx, hpx⟩ := List.any_eq_true.1 h
      have := HN.out x (by rw [List.take_length]; exact hx)
      rw [this] at hpx
      cases hpx
theorem containsFunc (v : Value) (xs : List Nd) (p : Nd → Bool) (cap : Value) (w : World) (h : encN.R w v xs)
    (hp : ∀ x ∈ xs, ∀ w', Below w.heap.size w w' → Calls Tryd.prog 39 #[.agg (encN.cells x).toArray, cap] w' fun e w'' => e = .returned (.bool (p x)) ∧ Below w'.heap.size w' w'') :
    Calls Tryd.prog 38 #[v, .func (.func 39) #[] #[cap]] w fun e w' => e = .returned (.bool (xs.any p)) ∧ Below w.heap.size w w' := by
  have hL := Loc.nil w NoM
  have hq := Lib.hid (indexFunc v xs p cap w h hp)
  clear h hp
  generalize xs.any p = r at *
  go_enter Tryd.func38, Tryd.ntmps38
  go_wp2_with (first
    | (go_at_call 53; (with_reducible refine hq.out.mono ?_); rintro e w3 ⟨⟨i, rfl, hir⟩, hb3⟩; have HI := Lib.hid hir; clear hir; have hL := hL.call hb3; clear hb3)
    | ((with_reducible refine gAlloc rfl rfl ?_); (refine ev_allocL rfl hL rfl (by first | exact cells_agg _ rfl | exact cells_int _ _ | exact cells_str _ | exact cells_bool _ | exact cells_slice _ _ _ | exact cells_ptr _ | exact cells_map _ | exact cells_func _ _ _ | exact cells_nilFunc | exact cells_one (by assumption) (by assumption)) ?_; clear hL; intro gq wq hL)) | ((with_reducible refine gBox rfl rfl ?_); (refine ev_boxL rfl hL rfl rfl (by first | exact cells_agg _ rfl | exact cells_int _ _ | exact cells_str _ | exact cells_bool _ | exact cells_slice _ _ _ | exact cells_ptr _ | exact cells_map _ | exact cells_func _ _ _ | exact cells_nilFunc | exact cells_one (by assumption) (by assumption)) ?_; clear hL; intro gq wq hL)) | ((with_reducible refine gLoad rfl rfl ?_); (first | (refine ev_load1L rfl hL rfl rfl HasV.mem (by rfl) ?_) | (refine ev_loadAllL rfl hL rfl rfl HasV.mem (by rfl) ?_) | (refine ev_loadL rfl hL rfl rfl HasV.mem SegC.seg ?_))) | ((with_reducible refine gStore rfl rfl ?_); (first | (refine ev_storeC rfl hL rfl rfl rfl (by first | exact cells_agg _ rfl | exact cells_int _ _ | exact cells_str _ | exact cells_bool _ | exact cells_slice _ _ _ | exact cells_ptr _ | exact cells_map _ | exact cells_func _ _ _ | exact cells_nilFunc | exact cells_one (by assumption) (by assumption)) (by rfl) ?_) | (refine ev_storeAllC rfl hL rfl rfl rfl (by first | exact cells_agg _ rfl | exact cells_int _ _ | exact cells_str _ | exact cells_bool _ | exact cells_slice _ _ _ | exact cells_ptr _ | exact cells_map _ | exact cells_func _ _ _ | exact cells_nilFunc | exact cells_one (by assumption) (by assumption)) (by rfl) (by rfl) ?_)); clear hL; intro wq hL) | ((with_reducible refine gLoadG rfl rfl ?_ ?_); (exact wanted_some rfl rfl rfl (by with_reducible rfl)); (first | (refine ev_load1G (wanted_some rfl rfl rfl rfl) hL rfl rfl HasV.mem (by rfl) ?_) | (refine ev_loadAllG (wanted_some rfl rfl rfl rfl) hL rfl rfl HasV.mem (by rfl) ?_) | (refine ev_loadG_ (wanted_some rfl rfl rfl rfl) hL rfl rfl HasV.mem SegC.seg ?_))))
  go_ret
  refine ⟨ret_b ?_, hL.below⟩
  cases r
  · simpa using HI.out
  · simpa using HI.out
end Go.Proofs.YtebpacmhdkgfeaaDoor.IndexN
