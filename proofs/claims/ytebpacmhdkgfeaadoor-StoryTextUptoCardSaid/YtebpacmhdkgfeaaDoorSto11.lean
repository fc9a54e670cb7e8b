/- Chapter 29: a link's line, the document's side. -/
import Derived.Test.YtebpacmhdkgfeaaDoorSto9
namespace Go.Proofs.YtebpacmhdkgfeaaDoor
open Go.RowKit
set_option maxHeartbeats 1000000

theorem ref29_link111 (l : Lnk) (w : World) (hw : l.wf 100000000) (h1 : decide (l.at_ = Mk.zero) = true) (h2 : decide (l.alive = V8.zero) = true) (h3 : decide (l.dead = V8.zero) = true) :
    Calls Tryd.prog 30 #[.agg l.cells.toArray] w fun e w' => e = .returned (.string l.line) ∧ Below w.heap.size w w' := by
  have hL := (Loc.nil w NoM).rowNil encS w.heap.size 9
  obtain ⟨hib, hin⟩ := hw.id
  obtain ⟨hpb, hpn⟩ := hw.parent
  have hnm := hw.name
  have n1 := stamp_nz l.at_
  have n2 := vec_nz l.alive
  have n3 := vec_nz l.dead
  rw [h1] at n1
  rw [h2] at n2
  rw [h3] at n3
  simp only [Bool.not_true, Bool.not_false] at n1 n2 n3
  have hs1 := l.id.text_size hib hin
  have hs2 := l.parent.text_size hpb hpn
  obtain ⟨PW, hPW⟩ : ∃ PW, PW = (⟨#[112, 108, 97, 99, 101, 58]⟩ : ByteArray) ++ l.parent.text ++ ⟨#[47]⟩ ++ l.name := ⟨_, rfl⟩
  have hPs : PW.size ≤ 1000000000 := by rw [hPW]; simp only [ByteArray.size_append, ByteArray.size_mk']; simp; omega
  have hws : l.ws = [] := by
    unfold Lnk.ws
    rw [← hPW]
    simp only [decide_eq_true_eq, decide_eq_false_iff_not] at h1 h2 h3
    simp [h1, h2, h3]
  have HW : Hid (∀ x ∈ ([] : List ByteArray), x.size ≤ 1000000000) := Lib.hid (by
    intro x hx
    simp only [List.mem_cons, List.not_mem_nil, or_false] at hx
    )
  have hJ : (joinB []).size ≤ 10000000000 := by
    have := joinB_le 1000000000 _ HW.out
    simp only [List.length_cons, List.length_nil] at this
    omega
  have HE := Lib.hid (show Lnk.line l = ⟨#[108, 105, 110, 107, 32]⟩ ++ l.id.text ++ ⟨#[32]⟩ ++ joinB [] from by unfold Lnk.line; rw [hws])
  clear hws h1 h2 h3 hw
  have HP := Lib.hid hPW
  clear hPW
  unfold Lnk.cells
  go_enter Tryd.func30, Tryd.ntmps30
  go_wp2_with (first
    | (go_at_call 27; (with_reducible refine (ref29_stamp l.id _ hib hin).mono ?_); rintro e w3 ⟨rfl, hb3⟩; have hL := hL.call hb3; clear hb3)
    
    | ((with_reducible refine gCat rfl rfl ?_); refine ev_cat rfl rfl rfl rfl (by simp only [ByteArray.size_append, ByteArray.size_mk']; simp; omega) ?_)
    | (go_at_call 49; have hq := ref29_join _ _ _ (hL.own (E := encS) (by first | exact .head _ | exact .tail _ (.head _) | exact .tail _ (.tail _ (.head _)) | exact .tail _ (.tail _ (.tail _ (.head _))) | exact .tail _ (.tail _ (.tail _ (.tail _ (.head _)))) | exact .tail _ (.tail _ (.tail _ (.tail _ (.tail _ (.head _))))) | exact .tail _ (.tail _ (.tail _ (.tail _ (.tail _ (.tail _ (.head _)))))) | exact .tail _ (.tail _ (.tail _ (.tail _ (.tail _ (.tail _ (.tail _ (.head _))))))) | exact .tail _ (.tail _ (.tail _ (.tail _ (.tail _ (.tail _ (.tail _ (.tail _ (.head _)))))))))).read HW.out (by simp); (with_reducible refine hq.mono ?_); rintro e w3 ⟨rfl, hb3⟩; have hL := hL.call hb3; clear hb3 hq)
    | ((with_reducible refine gAlloc rfl rfl ?_); (refine ev_allocL rfl hL rfl (by first | exact cells_agg _ rfl | exact cells_int _ _ | exact cells_str _ | exact cells_bool _ | exact cells_slice _ _ _ | exact cells_ptr _ | exact cells_map _ | exact cells_func _ _ _ | exact cells_nilFunc | exact cells_one (by assumption) (by assumption)) ?_; clear hL; intro gq wq hL)) | ((with_reducible refine gBox rfl rfl ?_); (refine ev_boxL rfl hL rfl rfl (by first | exact cells_agg _ rfl | exact cells_int _ _ | exact cells_str _ | exact cells_bool _ | exact cells_slice _ _ _ | exact cells_ptr _ | exact cells_map _ | exact cells_func _ _ _ | exact cells_nilFunc | exact cells_one (by assumption) (by assumption)) ?_; clear hL; intro gq wq hL)) | ((with_reducible refine gLoad rfl rfl ?_); (first | (refine ev_load1L rfl hL rfl rfl HasV.mem (by rfl) ?_) | (refine ev_loadAllL rfl hL rfl rfl HasV.mem (by rfl) ?_) | (refine ev_loadL rfl hL rfl rfl HasV.mem SegC.seg ?_))) | ((with_reducible refine gStore rfl rfl ?_); (first | (refine ev_storeC rfl hL rfl rfl rfl (by first | exact cells_agg _ rfl | exact cells_int _ _ | exact cells_str _ | exact cells_bool _ | exact cells_slice _ _ _ | exact cells_ptr _ | exact cells_map _ | exact cells_func _ _ _ | exact cells_nilFunc | exact cells_one (by assumption) (by assumption)) (by rfl) ?_) | (refine ev_storeAllC rfl hL rfl rfl rfl (by first | exact cells_agg _ rfl | exact cells_int _ _ | exact cells_str _ | exact cells_bool _ | exact cells_slice _ _ _ | exact cells_ptr _ | exact cells_map _ | exact cells_func _ _ _ | exact cells_nilFunc | exact cells_one (by assumption) (by assumption)) (by rfl) (by rfl) ?_)); clear hL; intro wq hL) | ((with_reducible refine gLoadG rfl rfl ?_ ?_); (exact wanted_some rfl rfl rfl (by with_reducible rfl)); (first | (refine ev_load1G (wanted_some rfl rfl rfl rfl) hL rfl rfl HasV.mem (by rfl) ?_) | (refine ev_loadAllG (wanted_some rfl rfl rfl rfl) hL rfl rfl HasV.mem (by rfl) ?_) | (refine ev_loadG_ (wanted_some rfl rfl rfl rfl) hL rfl rfl HasV.mem SegC.seg ?_)))
    )
  go_ret
  exact ⟨ret_s HE.out.symm, hL.below⟩
theorem ref29_link110 (l : Lnk) (w : World) (hw : l.wf 100000000) (h1 : decide (l.at_ = Mk.zero) = true) (h2 : decide (l.alive = V8.zero) = true) (h3 : decide (l.dead = V8.zero) = false) :
    Calls Tryd.prog 30 #[.agg l.cells.toArray] w fun e w' => e = .returned (.string l.line) ∧ Below w.heap.size w w' := by
  have hL := (Loc.nil w NoM).rowNil encS w.heap.size 9
  obtain ⟨hib, hin⟩ := hw.id
  obtain ⟨hpb, hpn⟩ := hw.parent
  have hnm := hw.name
  have n1 := stamp_nz l.at_
  have n2 := vec_nz l.alive
  have n3 := vec_nz l.dead
  rw [h1] at n1
  rw [h2] at n2
  rw [h3] at n3
  simp only [Bool.not_true, Bool.not_false] at n1 n2 n3
  have hs1 := l.id.text_size hib hin
  have hs2 := l.parent.text_size hpb hpn
  obtain ⟨PW, hPW⟩ : ∃ PW, PW = (⟨#[112, 108, 97, 99, 101, 58]⟩ : ByteArray) ++ l.parent.text ++ ⟨#[47]⟩ ++ l.name := ⟨_, rfl⟩
  have hPs : PW.size ≤ 1000000000 := by rw [hPW]; simp only [ByteArray.size_append, ByteArray.size_mk']; simp; omega
  have hws : l.ws = [⟨#[100, 101, 97, 100]⟩] := by
    unfold Lnk.ws
    rw [← hPW]
    simp only [decide_eq_true_eq, decide_eq_false_iff_not] at h1 h2 h3
    simp [h1, h2, h3]
  have HW : Hid (∀ x ∈ ([⟨#[100, 101, 97, 100]⟩] : List ByteArray), x.size ≤ 1000000000) := Lib.hid (by
    intro x hx
    simp only [List.mem_cons, List.not_mem_nil, or_false] at hx
    rcases hx with rfl <;> first | exact hPs | (show _ ≤ (1000000000 : Nat); decide))
  have hJ : (joinB [⟨#[100, 101, 97, 100]⟩]).size ≤ 10000000000 := by
    have := joinB_le 1000000000 _ HW.out
    simp only [List.length_cons, List.length_nil] at this
    omega
  have HE := Lib.hid (show Lnk.line l = ⟨#[108, 105, 110, 107, 32]⟩ ++ l.id.text ++ ⟨#[32]⟩ ++ joinB [⟨#[100, 101, 97, 100]⟩] from by unfold Lnk.line; rw [hws])
  clear hws h1 h2 h3 hw
  have HP := Lib.hid hPW
  clear hPW
  unfold Lnk.cells
  go_enter Tryd.func30, Tryd.ntmps30
  go_wp2_with (first
    | (go_at_call 27; (with_reducible refine (ref29_stamp l.id _ hib hin).mono ?_); rintro e w3 ⟨rfl, hb3⟩; have hL := hL.call hb3; clear hb3)
    | ((with_reducible refine gate (N := 31) rfl ?_); refine ev_litL (cs := [.string ⟨#[100, 101, 97, 100]⟩]) rfl hL rfl rfl rfl (by kernel_rfl) ?_; clear hL; intro gq wq hL)
    | ((with_reducible refine gCat rfl rfl ?_); refine ev_cat rfl rfl rfl rfl (by simp only [ByteArray.size_append, ByteArray.size_mk']; simp; omega) ?_)
    | (go_at_call 49; have hq := ref29_join _ _ _ (hL.own (E := encS) (by first | exact .head _ | exact .tail _ (.head _) | exact .tail _ (.tail _ (.head _)) | exact .tail _ (.tail _ (.tail _ (.head _))) | exact .tail _ (.tail _ (.tail _ (.tail _ (.head _)))) | exact .tail _ (.tail _ (.tail _ (.tail _ (.tail _ (.head _))))) | exact .tail _ (.tail _ (.tail _ (.tail _ (.tail _ (.tail _ (.head _)))))) | exact .tail _ (.tail _ (.tail _ (.tail _ (.tail _ (.tail _ (.tail _ (.head _))))))) | exact .tail _ (.tail _ (.tail _ (.tail _ (.tail _ (.tail _ (.tail _ (.tail _ (.head _)))))))))).read HW.out (by simp); (with_reducible refine hq.mono ?_); rintro e w3 ⟨rfl, hb3⟩; have hL := hL.call hb3; clear hb3 hq)
    | ((with_reducible refine gAlloc rfl rfl ?_); (refine ev_allocL rfl hL rfl (by first | exact cells_agg _ rfl | exact cells_int _ _ | exact cells_str _ | exact cells_bool _ | exact cells_slice _ _ _ | exact cells_ptr _ | exact cells_map _ | exact cells_func _ _ _ | exact cells_nilFunc | exact cells_one (by assumption) (by assumption)) ?_; clear hL; intro gq wq hL)) | ((with_reducible refine gBox rfl rfl ?_); (refine ev_boxL rfl hL rfl rfl (by first | exact cells_agg _ rfl | exact cells_int _ _ | exact cells_str _ | exact cells_bool _ | exact cells_slice _ _ _ | exact cells_ptr _ | exact cells_map _ | exact cells_func _ _ _ | exact cells_nilFunc | exact cells_one (by assumption) (by assumption)) ?_; clear hL; intro gq wq hL)) | ((with_reducible refine gLoad rfl rfl ?_); (first | (refine ev_load1L rfl hL rfl rfl HasV.mem (by rfl) ?_) | (refine ev_loadAllL rfl hL rfl rfl HasV.mem (by rfl) ?_) | (refine ev_loadL rfl hL rfl rfl HasV.mem SegC.seg ?_))) | ((with_reducible refine gStore rfl rfl ?_); (first | (refine ev_storeC rfl hL rfl rfl rfl (by first | exact cells_agg _ rfl | exact cells_int _ _ | exact cells_str _ | exact cells_bool _ | exact cells_slice _ _ _ | exact cells_ptr _ | exact cells_map _ | exact cells_func _ _ _ | exact cells_nilFunc | exact cells_one (by assumption) (by assumption)) (by rfl) ?_) | (refine ev_storeAllC rfl hL rfl rfl rfl (by first | exact cells_agg _ rfl | exact cells_int _ _ | exact cells_str _ | exact cells_bool _ | exact cells_slice _ _ _ | exact cells_ptr _ | exact cells_map _ | exact cells_func _ _ _ | exact cells_nilFunc | exact cells_one (by assumption) (by assumption)) (by rfl) (by rfl) ?_)); clear hL; intro wq hL) | ((with_reducible refine gLoadG rfl rfl ?_ ?_); (exact wanted_some rfl rfl rfl (by with_reducible rfl)); (first | (refine ev_load1G (wanted_some rfl rfl rfl rfl) hL rfl rfl HasV.mem (by rfl) ?_) | (refine ev_loadAllG (wanted_some rfl rfl rfl rfl) hL rfl rfl HasV.mem (by rfl) ?_) | (refine ev_loadG_ (wanted_some rfl rfl rfl rfl) hL rfl rfl HasV.mem SegC.seg ?_)))
    | (at_builtin; refine ev_app1M (E := encS) (⟨#[100, 101, 97, 100]⟩) 1 [⟨#[100, 101, 97, 100]⟩] rfl hL rfl rfl rfl (by first | exact .head _ | exact .tail _ (.head _) | exact .tail _ (.tail _ (.head _)) | exact .tail _ (.tail _ (.tail _ (.head _))) | exact .tail _ (.tail _ (.tail _ (.tail _ (.head _)))) | exact .tail _ (.tail _ (.tail _ (.tail _ (.tail _ (.head _))))) | exact .tail _ (.tail _ (.tail _ (.tail _ (.tail _ (.tail _ (.head _)))))) | exact .tail _ (.tail _ (.tail _ (.tail _ (.tail _ (.tail _ (.tail _ (.head _))))))) | exact .tail _ (.tail _ (.tail _ (.tail _ (.tail _ (.tail _ (.tail _ (.tail _ (.head _))))))))) rfl rfl rfl (by first | exact fun _ => .here _ | exact fun _ => .there _ (.here _) | exact fun _ => .there _ (.there _ (.here _)) | exact fun _ => .there _ (.there _ (.there _ (.here _))) | exact fun _ => .there _ (.there _ (.there _ (.there _ (.here _)))) | exact fun _ => .there _ (.there _ (.there _ (.there _ (.there _ (.here _))))) | exact fun _ => .there _ (.there _ (.there _ (.there _ (.there _ (.there _ (.here _))))))) rfl rfl (by decide) hL.size ?_; clear hL; intro ao' c' wq hL))
  go_ret
  exact ⟨ret_s HE.out.symm, hL.below⟩
theorem ref29_link101 (l : Lnk) (w : World) (hw : l.wf 100000000) (h1 : decide (l.at_ = Mk.zero) = true) (h2 : decide (l.alive = V8.zero) = false) (h3 : decide (l.dead = V8.zero) = true) :
    Calls Tryd.prog 30 #[.agg l.cells.toArray] w fun e w' => e = .returned (.string l.line) ∧ Below w.heap.size w w' := by
  have hL := (Loc.nil w NoM).rowNil encS w.heap.size 9
  obtain ⟨hib, hin⟩ := hw.id
  obtain ⟨hpb, hpn⟩ := hw.parent
  have hnm := hw.name
  have n1 := stamp_nz l.at_
  have n2 := vec_nz l.alive
  have n3 := vec_nz l.dead
  rw [h1] at n1
  rw [h2] at n2
  rw [h3] at n3
  simp only [Bool.not_true, Bool.not_false] at n1 n2 n3
  have hs1 := l.id.text_size hib hin
  have hs2 := l.parent.text_size hpb hpn
  obtain ⟨PW, hPW⟩ : ∃ PW, PW = (⟨#[112, 108, 97, 99, 101, 58]⟩ : ByteArray) ++ l.parent.text ++ ⟨#[47]⟩ ++ l.name := ⟨_, rfl⟩
  have hPs : PW.size ≤ 1000000000 := by rw [hPW]; simp only [ByteArray.size_append, ByteArray.size_mk']; simp; omega
  have hws : l.ws = [⟨#[97, 108, 105, 118, 101]⟩] := by
    unfold Lnk.ws
    rw [← hPW]
    simp only [decide_eq_true_eq, decide_eq_false_iff_not] at h1 h2 h3
    simp [h1, h2, h3]
  have HW : Hid (∀ x ∈ ([⟨#[97, 108, 105, 118, 101]⟩] : List ByteArray), x.size ≤ 1000000000) := Lib.hid (by
    intro x hx
    simp only [List.mem_cons, List.not_mem_nil, or_false] at hx
    rcases hx with rfl <;> first | exact hPs | (show _ ≤ (1000000000 : Nat); decide))
  have hJ : (joinB [⟨#[97, 108, 105, 118, 101]⟩]).size ≤ 10000000000 := by
    have := joinB_le 1000000000 _ HW.out
    simp only [List.length_cons, List.length_nil] at this
    omega
  have HE := Lib.hid (show Lnk.line l = ⟨#[108, 105, 110, 107, 32]⟩ ++ l.id.text ++ ⟨#[32]⟩ ++ joinB [⟨#[97, 108, 105, 118, 101]⟩] from by unfold Lnk.line; rw [hws])
  clear hws h1 h2 h3 hw
  have HP := Lib.hid hPW
  clear hPW
  unfold Lnk.cells
  go_enter Tryd.func30, Tryd.ntmps30
  go_wp2_with (first
    | (go_at_call 27; (with_reducible refine (ref29_stamp l.id _ hib hin).mono ?_); rintro e w3 ⟨rfl, hb3⟩; have hL := hL.call hb3; clear hb3)
    | ((with_reducible refine gate (N := 24) rfl ?_); refine ev_litL (cs := [.string ⟨#[97, 108, 105, 118, 101]⟩]) rfl hL rfl rfl rfl (by kernel_rfl) ?_; clear hL; intro gq wq hL)
    | ((with_reducible refine gCat rfl rfl ?_); refine ev_cat rfl rfl rfl rfl (by simp only [ByteArray.size_append, ByteArray.size_mk']; simp; omega) ?_)
    | (go_at_call 49; have hq := ref29_join _ _ _ (hL.own (E := encS) (by first | exact .head _ | exact .tail _ (.head _) | exact .tail _ (.tail _ (.head _)) | exact .tail _ (.tail _ (.tail _ (.head _))) | exact .tail _ (.tail _ (.tail _ (.tail _ (.head _)))) | exact .tail _ (.tail _ (.tail _ (.tail _ (.tail _ (.head _))))) | exact .tail _ (.tail _ (.tail _ (.tail _ (.tail _ (.tail _ (.head _)))))) | exact .tail _ (.tail _ (.tail _ (.tail _ (.tail _ (.tail _ (.tail _ (.head _))))))) | exact .tail _ (.tail _ (.tail _ (.tail _ (.tail _ (.tail _ (.tail _ (.tail _ (.head _)))))))))).read HW.out (by simp); (with_reducible refine hq.mono ?_); rintro e w3 ⟨rfl, hb3⟩; have hL := hL.call hb3; clear hb3 hq)
    | ((with_reducible refine gAlloc rfl rfl ?_); (refine ev_allocL rfl hL rfl (by first | exact cells_agg _ rfl | exact cells_int _ _ | exact cells_str _ | exact cells_bool _ | exact cells_slice _ _ _ | exact cells_ptr _ | exact cells_map _ | exact cells_func _ _ _ | exact cells_nilFunc | exact cells_one (by assumption) (by assumption)) ?_; clear hL; intro gq wq hL)) | ((with_reducible refine gBox rfl rfl ?_); (refine ev_boxL rfl hL rfl rfl (by first | exact cells_agg _ rfl | exact cells_int _ _ | exact cells_str _ | exact cells_bool _ | exact cells_slice _ _ _ | exact cells_ptr _ | exact cells_map _ | exact cells_func _ _ _ | exact cells_nilFunc | exact cells_one (by assumption) (by assumption)) ?_; clear hL; intro gq wq hL)) | ((with_reducible refine gLoad rfl rfl ?_); (first | (refine ev_load1L rfl hL rfl rfl HasV.mem (by rfl) ?_) | (refine ev_loadAllL rfl hL rfl rfl HasV.mem (by rfl) ?_) | (refine ev_loadL rfl hL rfl rfl HasV.mem SegC.seg ?_))) | ((with_reducible refine gStore rfl rfl ?_); (first | (refine ev_storeC rfl hL rfl rfl rfl (by first | exact cells_agg _ rfl | exact cells_int _ _ | exact cells_str _ | exact cells_bool _ | exact cells_slice _ _ _ | exact cells_ptr _ | exact cells_map _ | exact cells_func _ _ _ | exact cells_nilFunc | exact cells_one (by assumption) (by assumption)) (by rfl) ?_) | (refine ev_storeAllC rfl hL rfl rfl rfl (by first | exact cells_agg _ rfl | exact cells_int _ _ | exact cells_str _ | exact cells_bool _ | exact cells_slice _ _ _ | exact cells_ptr _ | exact cells_map _ | exact cells_func _ _ _ | exact cells_nilFunc | exact cells_one (by assumption) (by assumption)) (by rfl) (by rfl) ?_)); clear hL; intro wq hL) | ((with_reducible refine gLoadG rfl rfl ?_ ?_); (exact wanted_some rfl rfl rfl (by with_reducible rfl)); (first | (refine ev_load1G (wanted_some rfl rfl rfl rfl) hL rfl rfl HasV.mem (by rfl) ?_) | (refine ev_loadAllG (wanted_some rfl rfl rfl rfl) hL rfl rfl HasV.mem (by rfl) ?_) | (refine ev_loadG_ (wanted_some rfl rfl rfl rfl) hL rfl rfl HasV.mem SegC.seg ?_)))
    | (at_builtin; refine ev_app1M (E := encS) (⟨#[97, 108, 105, 118, 101]⟩) 1 [⟨#[97, 108, 105, 118, 101]⟩] rfl hL rfl rfl rfl (by first | exact .head _ | exact .tail _ (.head _) | exact .tail _ (.tail _ (.head _)) | exact .tail _ (.tail _ (.tail _ (.head _))) | exact .tail _ (.tail _ (.tail _ (.tail _ (.head _)))) | exact .tail _ (.tail _ (.tail _ (.tail _ (.tail _ (.head _))))) | exact .tail _ (.tail _ (.tail _ (.tail _ (.tail _ (.tail _ (.head _)))))) | exact .tail _ (.tail _ (.tail _ (.tail _ (.tail _ (.tail _ (.tail _ (.head _))))))) | exact .tail _ (.tail _ (.tail _ (.tail _ (.tail _ (.tail _ (.tail _ (.tail _ (.head _))))))))) rfl rfl rfl (by first | exact fun _ => .here _ | exact fun _ => .there _ (.here _) | exact fun _ => .there _ (.there _ (.here _)) | exact fun _ => .there _ (.there _ (.there _ (.here _))) | exact fun _ => .there _ (.there _ (.there _ (.there _ (.here _)))) | exact fun _ => .there _ (.there _ (.there _ (.there _ (.there _ (.here _))))) | exact fun _ => .there _ (.there _ (.there _ (.there _ (.there _ (.there _ (.here _))))))) rfl rfl (by decide) hL.size ?_; clear hL; intro ao' c' wq hL))
  go_ret
  exact ⟨ret_s HE.out.symm, hL.below⟩
theorem ref29_link100 (l : Lnk) (w : World) (hw : l.wf 100000000) (h1 : decide (l.at_ = Mk.zero) = true) (h2 : decide (l.alive = V8.zero) = false) (h3 : decide (l.dead = V8.zero) = false) :
    Calls Tryd.prog 30 #[.agg l.cells.toArray] w fun e w' => e = .returned (.string l.line) ∧ Below w.heap.size w w' := by
  have hL := (Loc.nil w NoM).rowNil encS w.heap.size 9
  obtain ⟨hib, hin⟩ := hw.id
  obtain ⟨hpb, hpn⟩ := hw.parent
  have hnm := hw.name
  have n1 := stamp_nz l.at_
  have n2 := vec_nz l.alive
  have n3 := vec_nz l.dead
  rw [h1] at n1
  rw [h2] at n2
  rw [h3] at n3
  simp only [Bool.not_true, Bool.not_false] at n1 n2 n3
  have hs1 := l.id.text_size hib hin
  have hs2 := l.parent.text_size hpb hpn
  obtain ⟨PW, hPW⟩ : ∃ PW, PW = (⟨#[112, 108, 97, 99, 101, 58]⟩ : ByteArray) ++ l.parent.text ++ ⟨#[47]⟩ ++ l.name := ⟨_, rfl⟩
  have hPs : PW.size ≤ 1000000000 := by rw [hPW]; simp only [ByteArray.size_append, ByteArray.size_mk']; simp; omega
  have hws : l.ws = [⟨#[97, 108, 105, 118, 101]⟩, ⟨#[100, 101, 97, 100]⟩] := by
    unfold Lnk.ws
    rw [← hPW]
    simp only [decide_eq_true_eq, decide_eq_false_iff_not] at h1 h2 h3
    simp [h1, h2, h3]
  have HW : Hid (∀ x ∈ ([⟨#[97, 108, 105, 118, 101]⟩, ⟨#[100, 101, 97, 100]⟩] : List ByteArray), x.size ≤ 1000000000) := Lib.hid (by
    intro x hx
    simp only [List.mem_cons, List.not_mem_nil, or_false] at hx
    rcases hx with rfl | rfl <;> first | exact hPs | (show _ ≤ (1000000000 : Nat); decide))
  have hJ : (joinB [⟨#[97, 108, 105, 118, 101]⟩, ⟨#[100, 101, 97, 100]⟩]).size ≤ 10000000000 := by
    have := joinB_le 1000000000 _ HW.out
    simp only [List.length_cons, List.length_nil] at this
    omega
  have HE := Lib.hid (show Lnk.line l = ⟨#[108, 105, 110, 107, 32]⟩ ++ l.id.text ++ ⟨#[32]⟩ ++ joinB [⟨#[97, 108, 105, 118, 101]⟩, ⟨#[100, 101, 97, 100]⟩] from by unfold Lnk.line; rw [hws])
  clear hws h1 h2 h3 hw
  have HP := Lib.hid hPW
  clear hPW
  unfold Lnk.cells
  go_enter Tryd.func30, Tryd.ntmps30
  go_wp2_with (first
    | (go_at_call 27; (with_reducible refine (ref29_stamp l.id _ hib hin).mono ?_); rintro e w3 ⟨rfl, hb3⟩; have hL := hL.call hb3; clear hb3)
    | ((with_reducible refine gate (N := 24) rfl ?_); refine ev_litL (cs := [.string ⟨#[97, 108, 105, 118, 101]⟩]) rfl hL rfl rfl rfl (by kernel_rfl) ?_; clear hL; intro gq wq hL)
    | ((with_reducible refine gate (N := 31) rfl ?_); refine ev_litL (cs := [.string ⟨#[100, 101, 97, 100]⟩]) rfl hL rfl rfl rfl (by kernel_rfl) ?_; clear hL; intro gq wq hL)
    | ((with_reducible refine gCat rfl rfl ?_); refine ev_cat rfl rfl rfl rfl (by simp only [ByteArray.size_append, ByteArray.size_mk']; simp; omega) ?_)
    | (go_at_call 49; have hq := ref29_join _ _ _ (hL.own (E := encS) (by first | exact .head _ | exact .tail _ (.head _) | exact .tail _ (.tail _ (.head _)) | exact .tail _ (.tail _ (.tail _ (.head _))) | exact .tail _ (.tail _ (.tail _ (.tail _ (.head _)))) | exact .tail _ (.tail _ (.tail _ (.tail _ (.tail _ (.head _))))) | exact .tail _ (.tail _ (.tail _ (.tail _ (.tail _ (.tail _ (.head _)))))) | exact .tail _ (.tail _ (.tail _ (.tail _ (.tail _ (.tail _ (.tail _ (.head _))))))) | exact .tail _ (.tail _ (.tail _ (.tail _ (.tail _ (.tail _ (.tail _ (.tail _ (.head _)))))))))).read HW.out (by simp); (with_reducible refine hq.mono ?_); rintro e w3 ⟨rfl, hb3⟩; have hL := hL.call hb3; clear hb3 hq)
    | ((with_reducible refine gAlloc rfl rfl ?_); (refine ev_allocL rfl hL rfl (by first | exact cells_agg _ rfl | exact cells_int _ _ | exact cells_str _ | exact cells_bool _ | exact cells_slice _ _ _ | exact cells_ptr _ | exact cells_map _ | exact cells_func _ _ _ | exact cells_nilFunc | exact cells_one (by assumption) (by assumption)) ?_; clear hL; intro gq wq hL)) | ((with_reducible refine gBox rfl rfl ?_); (refine ev_boxL rfl hL rfl rfl (by first | exact cells_agg _ rfl | exact cells_int _ _ | exact cells_str _ | exact cells_bool _ | exact cells_slice _ _ _ | exact cells_ptr _ | exact cells_map _ | exact cells_func _ _ _ | exact cells_nilFunc | exact cells_one (by assumption) (by assumption)) ?_; clear hL; intro gq wq hL)) | ((with_reducible refine gLoad rfl rfl ?_); (first | (refine ev_load1L rfl hL rfl rfl HasV.mem (by rfl) ?_) | (refine ev_loadAllL rfl hL rfl rfl HasV.mem (by rfl) ?_) | (refine ev_loadL rfl hL rfl rfl HasV.mem SegC.seg ?_))) | ((with_reducible refine gStore rfl rfl ?_); (first | (refine ev_storeC rfl hL rfl rfl rfl (by first | exact cells_agg _ rfl | exact cells_int _ _ | exact cells_str _ | exact cells_bool _ | exact cells_slice _ _ _ | exact cells_ptr _ | exact cells_map _ | exact cells_func _ _ _ | exact cells_nilFunc | exact cells_one (by assumption) (by assumption)) (by rfl) ?_) | (refine ev_storeAllC rfl hL rfl rfl rfl (by first | exact cells_agg _ rfl | exact cells_int _ _ | exact cells_str _ | exact cells_bool _ | exact cells_slice _ _ _ | exact cells_ptr _ | exact cells_map _ | exact cells_func _ _ _ | exact cells_nilFunc | exact cells_one (by assumption) (by assumption)) (by rfl) (by rfl) ?_)); clear hL; intro wq hL) | ((with_reducible refine gLoadG rfl rfl ?_ ?_); (exact wanted_some rfl rfl rfl (by with_reducible rfl)); (first | (refine ev_load1G (wanted_some rfl rfl rfl rfl) hL rfl rfl HasV.mem (by rfl) ?_) | (refine ev_loadAllG (wanted_some rfl rfl rfl rfl) hL rfl rfl HasV.mem (by rfl) ?_) | (refine ev_loadG_ (wanted_some rfl rfl rfl rfl) hL rfl rfl HasV.mem SegC.seg ?_)))
    | (at_builtin; refine ev_app1M (E := encS) (⟨#[97, 108, 105, 118, 101]⟩) 1 [⟨#[97, 108, 105, 118, 101]⟩] rfl hL rfl rfl rfl (by first | exact .head _ | exact .tail _ (.head _) | exact .tail _ (.tail _ (.head _)) | exact .tail _ (.tail _ (.tail _ (.head _))) | exact .tail _ (.tail _ (.tail _ (.tail _ (.head _)))) | exact .tail _ (.tail _ (.tail _ (.tail _ (.tail _ (.head _))))) | exact .tail _ (.tail _ (.tail _ (.tail _ (.tail _ (.tail _ (.head _)))))) | exact .tail _ (.tail _ (.tail _ (.tail _ (.tail _ (.tail _ (.tail _ (.head _))))))) | exact .tail _ (.tail _ (.tail _ (.tail _ (.tail _ (.tail _ (.tail _ (.tail _ (.head _))))))))) rfl rfl rfl (by first | exact fun _ => .here _ | exact fun _ => .there _ (.here _) | exact fun _ => .there _ (.there _ (.here _)) | exact fun _ => .there _ (.there _ (.there _ (.here _))) | exact fun _ => .there _ (.there _ (.there _ (.there _ (.here _)))) | exact fun _ => .there _ (.there _ (.there _ (.there _ (.there _ (.here _))))) | exact fun _ => .there _ (.there _ (.there _ (.there _ (.there _ (.there _ (.here _))))))) rfl rfl (by decide) hL.size ?_; clear hL; intro ao' c' wq hL)
    | (at_builtin; refine ev_app1M (E := encS) (⟨#[100, 101, 97, 100]⟩) 2 [⟨#[97, 108, 105, 118, 101]⟩, ⟨#[100, 101, 97, 100]⟩] rfl hL rfl rfl rfl (by first | exact .head _ | exact .tail _ (.head _) | exact .tail _ (.tail _ (.head _)) | exact .tail _ (.tail _ (.tail _ (.head _))) | exact .tail _ (.tail _ (.tail _ (.tail _ (.head _)))) | exact .tail _ (.tail _ (.tail _ (.tail _ (.tail _ (.head _))))) | exact .tail _ (.tail _ (.tail _ (.tail _ (.tail _ (.tail _ (.head _)))))) | exact .tail _ (.tail _ (.tail _ (.tail _ (.tail _ (.tail _ (.tail _ (.head _))))))) | exact .tail _ (.tail _ (.tail _ (.tail _ (.tail _ (.tail _ (.tail _ (.tail _ (.head _))))))))) rfl rfl rfl (by first | exact fun _ => .here _ | exact fun _ => .there _ (.here _) | exact fun _ => .there _ (.there _ (.here _)) | exact fun _ => .there _ (.there _ (.there _ (.here _))) | exact fun _ => .there _ (.there _ (.there _ (.there _ (.here _)))) | exact fun _ => .there _ (.there _ (.there _ (.there _ (.there _ (.here _))))) | exact fun _ => .there _ (.there _ (.there _ (.there _ (.there _ (.there _ (.here _))))))) rfl rfl (by decide) hL.size ?_; clear hL; intro ao' c' wq hL))
  go_ret
  exact ⟨ret_s HE.out.symm, hL.below⟩
theorem ref29_link011 (l : Lnk) (w : World) (hw : l.wf 100000000) (h1 : decide (l.at_ = Mk.zero) = false) (h2 : decide (l.alive = V8.zero) = true) (h3 : decide (l.dead = V8.zero) = true) :
    Calls Tryd.prog 30 #[.agg l.cells.toArray] w fun e w' => e = .returned (.string l.line) ∧ Below w.heap.size w w' := by
  have hL := (Loc.nil w NoM).rowNil encS w.heap.size 9
  obtain ⟨hib, hin⟩ := hw.id
  obtain ⟨hpb, hpn⟩ := hw.parent
  have hnm := hw.name
  have n1 := stamp_nz l.at_
  have n2 := vec_nz l.alive
  have n3 := vec_nz l.dead
  rw [h1] at n1
  rw [h2] at n2
  rw [h3] at n3
  simp only [Bool.not_true, Bool.not_false] at n1 n2 n3
  have hs1 := l.id.text_size hib hin
  have hs2 := l.parent.text_size hpb hpn
  obtain ⟨PW, hPW⟩ : ∃ PW, PW = (⟨#[112, 108, 97, 99, 101, 58]⟩ : ByteArray) ++ l.parent.text ++ ⟨#[47]⟩ ++ l.name := ⟨_, rfl⟩
  have hPs : PW.size ≤ 1000000000 := by rw [hPW]; simp only [ByteArray.size_append, ByteArray.size_mk']; simp; omega
  have hws : l.ws = [PW] := by
    unfold Lnk.ws
    rw [← hPW]
    simp only [decide_eq_true_eq, decide_eq_false_iff_not] at h1 h2 h3
    simp [h1, h2, h3]
  have HW : Hid (∀ x ∈ ([PW] : List ByteArray), x.size ≤ 1000000000) := Lib.hid (by
    intro x hx
    simp only [List.mem_cons, List.not_mem_nil, or_false] at hx
    rcases hx with rfl <;> first | exact hPs | (show _ ≤ (1000000000 : Nat); decide))
  have hJ : (joinB [PW]).size ≤ 10000000000 := by
    have := joinB_le 1000000000 _ HW.out
    simp only [List.length_cons, List.length_nil] at this
    omega
  have HE := Lib.hid (show Lnk.line l = ⟨#[108, 105, 110, 107, 32]⟩ ++ l.id.text ++ ⟨#[32]⟩ ++ joinB [PW] from by unfold Lnk.line; rw [hws])
  clear hws h1 h2 h3 hw
  have HP := Lib.hid hPW
  clear hPW
  unfold Lnk.cells
  go_enter Tryd.func30, Tryd.ntmps30
  go_wp2_with (first | ((with_reducible refine gAlloc rfl rfl ?_); (refine ev_allocL rfl hL rfl (by first | exact cells_agg _ rfl | exact cells_int _ _ | exact cells_str _ | exact cells_bool _ | exact cells_slice _ _ _ | exact cells_ptr _ | exact cells_map _ | exact cells_func _ _ _ | exact cells_nilFunc | exact cells_one (by assumption) (by assumption)) ?_; clear hL; intro gq wq hL)) | ((with_reducible refine gBox rfl rfl ?_); (refine ev_boxL rfl hL rfl rfl (by first | exact cells_agg _ rfl | exact cells_int _ _ | exact cells_str _ | exact cells_bool _ | exact cells_slice _ _ _ | exact cells_ptr _ | exact cells_map _ | exact cells_func _ _ _ | exact cells_nilFunc | exact cells_one (by assumption) (by assumption)) ?_; clear hL; intro gq wq hL)) | ((with_reducible refine gLoad rfl rfl ?_); (first | (refine ev_load1L rfl hL rfl rfl HasV.mem (by rfl) ?_) | (refine ev_loadAllL rfl hL rfl rfl HasV.mem (by rfl) ?_) | (refine ev_loadL rfl hL rfl rfl HasV.mem SegC.seg ?_))) | ((with_reducible refine gStore rfl rfl ?_); (first | (refine ev_storeC rfl hL rfl rfl rfl (by first | exact cells_agg _ rfl | exact cells_int _ _ | exact cells_str _ | exact cells_bool _ | exact cells_slice _ _ _ | exact cells_ptr _ | exact cells_map _ | exact cells_func _ _ _ | exact cells_nilFunc | exact cells_one (by assumption) (by assumption)) (by rfl) ?_) | (refine ev_storeAllC rfl hL rfl rfl rfl (by first | exact cells_agg _ rfl | exact cells_int _ _ | exact cells_str _ | exact cells_bool _ | exact cells_slice _ _ _ | exact cells_ptr _ | exact cells_map _ | exact cells_func _ _ _ | exact cells_nilFunc | exact cells_one (by assumption) (by assumption)) (by rfl) (by rfl) ?_)); clear hL; intro wq hL) | ((with_reducible refine gLoadG rfl rfl ?_ ?_); (exact wanted_some rfl rfl rfl (by with_reducible rfl)); (first | (refine ev_load1G (wanted_some rfl rfl rfl rfl) hL rfl rfl HasV.mem (by rfl) ?_) | (refine ev_loadAllG (wanted_some rfl rfl rfl rfl) hL rfl rfl HasV.mem (by rfl) ?_) | (refine ev_loadG_ (wanted_some rfl rfl rfl rfl) hL rfl rfl HasV.mem SegC.seg ?_))))
  refine region_qtail1 9 (by kernel_rfl) hL (by rfl) (by rfl) (by kernel_rfl) (by kernel_rfl) (by kernel_rfl) (by kernel_rfl) (fun _ _ _ _ h => h) ?_
  clear hL
  intro w5 hL

  simp only [List.take_succ_cons, List.take_zero, List.drop_succ_cons, List.drop_zero, Act.put, List.setIfInBounds_toArray, List.set_cons_succ, List.set_cons_zero]
  repeat (first | (go_big_quiet_want; (first | refine quiet_load1L hL rfl rfl HasV.mem (by rfl) ?_ | refine quiet_loadAllL hL rfl rfl HasV.mem (by rfl) ?_ | refine quiet_loadL hL rfl rfl HasV.mem SegC.seg ?_); go_big_quiet_on; simp only [Act.put, List.setIfInBounds_toArray, List.set_cons_succ, List.set_cons_zero]) | (go_big_quiet_want; refine quiet_cat rfl rfl rfl (by simp only [ByteArray.size_append, ByteArray.size_mk']; simp; omega) ?_; go_big_quiet_on; simp only [Act.put, List.setIfInBounds_toArray, List.set_cons_succ, List.set_cons_zero]) | go_big_quiet_step (first
    | (go_at_call 27; with_reducible exact stamp29_ext l.parent hpb hpn)))
  refine wpQuiet_nil ?_
  rintro _ ⟨⟨w6, hb6⟩, rfl⟩
  have hL := hL.call hb6
  clear hb6
  rw [← HP.out]
  go_wp2_with (first
    | (go_at_call 27; (with_reducible refine (ref29_stamp l.id _ hib hin).mono ?_); rintro e w3 ⟨rfl, hb3⟩; have hL := hL.call hb3; clear hb3)
    | ((with_reducible refine gate (N := 17) rfl ?_); refine ev_litL (cs := [.string PW]) rfl hL rfl rfl rfl (by kernel_rfl) ?_; clear hL; intro gq wq hL)
    | ((with_reducible refine gCat rfl rfl ?_); refine ev_cat rfl rfl rfl rfl (by simp only [ByteArray.size_append, ByteArray.size_mk']; simp; omega) ?_)
    | (go_at_call 49; have hq := ref29_join _ _ _ (hL.own (E := encS) (by first | exact .head _ | exact .tail _ (.head _) | exact .tail _ (.tail _ (.head _)) | exact .tail _ (.tail _ (.tail _ (.head _))) | exact .tail _ (.tail _ (.tail _ (.tail _ (.head _)))) | exact .tail _ (.tail _ (.tail _ (.tail _ (.tail _ (.head _))))) | exact .tail _ (.tail _ (.tail _ (.tail _ (.tail _ (.tail _ (.head _)))))) | exact .tail _ (.tail _ (.tail _ (.tail _ (.tail _ (.tail _ (.tail _ (.head _))))))) | exact .tail _ (.tail _ (.tail _ (.tail _ (.tail _ (.tail _ (.tail _ (.tail _ (.head _)))))))))).read HW.out (by simp); (with_reducible refine hq.mono ?_); rintro e w3 ⟨rfl, hb3⟩; have hL := hL.call hb3; clear hb3 hq)
    | ((with_reducible refine gAlloc rfl rfl ?_); (refine ev_allocL rfl hL rfl (by first | exact cells_agg _ rfl | exact cells_int _ _ | exact cells_str _ | exact cells_bool _ | exact cells_slice _ _ _ | exact cells_ptr _ | exact cells_map _ | exact cells_func _ _ _ | exact cells_nilFunc | exact cells_one (by assumption) (by assumption)) ?_; clear hL; intro gq wq hL)) | ((with_reducible refine gBox rfl rfl ?_); (refine ev_boxL rfl hL rfl rfl (by first | exact cells_agg _ rfl | exact cells_int _ _ | exact cells_str _ | exact cells_bool _ | exact cells_slice _ _ _ | exact cells_ptr _ | exact cells_map _ | exact cells_func _ _ _ | exact cells_nilFunc | exact cells_one (by assumption) (by assumption)) ?_; clear hL; intro gq wq hL)) | ((with_reducible refine gLoad rfl rfl ?_); (first | (refine ev_load1L rfl hL rfl rfl HasV.mem (by rfl) ?_) | (refine ev_loadAllL rfl hL rfl rfl HasV.mem (by rfl) ?_) | (refine ev_loadL rfl hL rfl rfl HasV.mem SegC.seg ?_))) | ((with_reducible refine gStore rfl rfl ?_); (first | (refine ev_storeC rfl hL rfl rfl rfl (by first | exact cells_agg _ rfl | exact cells_int _ _ | exact cells_str _ | exact cells_bool _ | exact cells_slice _ _ _ | exact cells_ptr _ | exact cells_map _ | exact cells_func _ _ _ | exact cells_nilFunc | exact cells_one (by assumption) (by assumption)) (by rfl) ?_) | (refine ev_storeAllC rfl hL rfl rfl rfl (by first | exact cells_agg _ rfl | exact cells_int _ _ | exact cells_str _ | exact cells_bool _ | exact cells_slice _ _ _ | exact cells_ptr _ | exact cells_map _ | exact cells_func _ _ _ | exact cells_nilFunc | exact cells_one (by assumption) (by assumption)) (by rfl) (by rfl) ?_)); clear hL; intro wq hL) | ((with_reducible refine gLoadG rfl rfl ?_ ?_); (exact wanted_some rfl rfl rfl (by with_reducible rfl)); (first | (refine ev_load1G (wanted_some rfl rfl rfl rfl) hL rfl rfl HasV.mem (by rfl) ?_) | (refine ev_loadAllG (wanted_some rfl rfl rfl rfl) hL rfl rfl HasV.mem (by rfl) ?_) | (refine ev_loadG_ (wanted_some rfl rfl rfl rfl) hL rfl rfl HasV.mem SegC.seg ?_)))
    | (at_builtin; refine ev_app1M (E := encS) (PW) 1 [PW] rfl hL rfl rfl rfl (by first | exact .head _ | exact .tail _ (.head _) | exact .tail _ (.tail _ (.head _)) | exact .tail _ (.tail _ (.tail _ (.head _))) | exact .tail _ (.tail _ (.tail _ (.tail _ (.head _)))) | exact .tail _ (.tail _ (.tail _ (.tail _ (.tail _ (.head _))))) | exact .tail _ (.tail _ (.tail _ (.tail _ (.tail _ (.tail _ (.head _)))))) | exact .tail _ (.tail _ (.tail _ (.tail _ (.tail _ (.tail _ (.tail _ (.head _))))))) | exact .tail _ (.tail _ (.tail _ (.tail _ (.tail _ (.tail _ (.tail _ (.tail _ (.head _))))))))) rfl rfl rfl (by first | exact fun _ => .here _ | exact fun _ => .there _ (.here _) | exact fun _ => .there _ (.there _ (.here _)) | exact fun _ => .there _ (.there _ (.there _ (.here _))) | exact fun _ => .there _ (.there _ (.there _ (.there _ (.here _)))) | exact fun _ => .there _ (.there _ (.there _ (.there _ (.there _ (.here _))))) | exact fun _ => .there _ (.there _ (.there _ (.there _ (.there _ (.there _ (.here _))))))) rfl rfl (by decide) hL.size ?_; clear hL; intro ao' c' wq hL))
  go_ret
  exact ⟨ret_s HE.out.symm, hL.below⟩
theorem ref29_link010 (l : Lnk) (w : World) (hw : l.wf 100000000) (h1 : decide (l.at_ = Mk.zero) = false) (h2 : decide (l.alive = V8.zero) = true) (h3 : decide (l.dead = V8.zero) = false) :
    Calls Tryd.prog 30 #[.agg l.cells.toArray] w fun e w' => e = .returned (.string l.line) ∧ Below w.heap.size w w' := by
  have hL := (Loc.nil w NoM).rowNil encS w.heap.size 9
  obtain ⟨hib, hin⟩ := hw.id
  obtain ⟨hpb, hpn⟩ := hw.parent
  have hnm := hw.name
  have n1 := stamp_nz l.at_
  have n2 := vec_nz l.alive
  have n3 := vec_nz l.dead
  rw [h1] at n1
  rw [h2] at n2
  rw [h3] at n3
  simp only [Bool.not_true, Bool.not_false] at n1 n2 n3
  have hs1 := l.id.text_size hib hin
  have hs2 := l.parent.text_size hpb hpn
  obtain ⟨PW, hPW⟩ : ∃ PW, PW = (⟨#[112, 108, 97, 99, 101, 58]⟩ : ByteArray) ++ l.parent.text ++ ⟨#[47]⟩ ++ l.name := ⟨_, rfl⟩
  have hPs : PW.size ≤ 1000000000 := by rw [hPW]; simp only [ByteArray.size_append, ByteArray.size_mk']; simp; omega
  have hws : l.ws = [PW, ⟨#[100, 101, 97, 100]⟩] := by
    unfold Lnk.ws
    rw [← hPW]
    simp only [decide_eq_true_eq, decide_eq_false_iff_not] at h1 h2 h3
    simp [h1, h2, h3]
  have HW : Hid (∀ x ∈ ([PW, ⟨#[100, 101, 97, 100]⟩] : List ByteArray), x.size ≤ 1000000000) := Lib.hid (by
    intro x hx
    simp only [List.mem_cons, List.not_mem_nil, or_false] at hx
    rcases hx with rfl | rfl <;> first | exact hPs | (show _ ≤ (1000000000 : Nat); decide))
  have hJ : (joinB [PW, ⟨#[100, 101, 97, 100]⟩]).size ≤ 10000000000 := by
    have := joinB_le 1000000000 _ HW.out
    simp only [List.length_cons, List.length_nil] at this
    omega
  have HE := Lib.hid (show Lnk.line l = ⟨#[108, 105, 110, 107, 32]⟩ ++ l.id.text ++ ⟨#[32]⟩ ++ joinB [PW, ⟨#[100, 101, 97, 100]⟩] from by unfold Lnk.line; rw [hws])
  clear hws h1 h2 h3 hw
  have HP := Lib.hid hPW
  clear hPW
  unfold Lnk.cells
  go_enter Tryd.func30, Tryd.ntmps30
  go_wp2_with (first | ((with_reducible refine gAlloc rfl rfl ?_); (refine ev_allocL rfl hL rfl (by first | exact cells_agg _ rfl | exact cells_int _ _ | exact cells_str _ | exact cells_bool _ | exact cells_slice _ _ _ | exact cells_ptr _ | exact cells_map _ | exact cells_func _ _ _ | exact cells_nilFunc | exact cells_one (by assumption) (by assumption)) ?_; clear hL; intro gq wq hL)) | ((with_reducible refine gBox rfl rfl ?_); (refine ev_boxL rfl hL rfl rfl (by first | exact cells_agg _ rfl | exact cells_int _ _ | exact cells_str _ | exact cells_bool _ | exact cells_slice _ _ _ | exact cells_ptr _ | exact cells_map _ | exact cells_func _ _ _ | exact cells_nilFunc | exact cells_one (by assumption) (by assumption)) ?_; clear hL; intro gq wq hL)) | ((with_reducible refine gLoad rfl rfl ?_); (first | (refine ev_load1L rfl hL rfl rfl HasV.mem (by rfl) ?_) | (refine ev_loadAllL rfl hL rfl rfl HasV.mem (by rfl) ?_) | (refine ev_loadL rfl hL rfl rfl HasV.mem SegC.seg ?_))) | ((with_reducible refine gStore rfl rfl ?_); (first | (refine ev_storeC rfl hL rfl rfl rfl (by first | exact cells_agg _ rfl | exact cells_int _ _ | exact cells_str _ | exact cells_bool _ | exact cells_slice _ _ _ | exact cells_ptr _ | exact cells_map _ | exact cells_func _ _ _ | exact cells_nilFunc | exact cells_one (by assumption) (by assumption)) (by rfl) ?_) | (refine ev_storeAllC rfl hL rfl rfl rfl (by first | exact cells_agg _ rfl | exact cells_int _ _ | exact cells_str _ | exact cells_bool _ | exact cells_slice _ _ _ | exact cells_ptr _ | exact cells_map _ | exact cells_func _ _ _ | exact cells_nilFunc | exact cells_one (by assumption) (by assumption)) (by rfl) (by rfl) ?_)); clear hL; intro wq hL) | ((with_reducible refine gLoadG rfl rfl ?_ ?_); (exact wanted_some rfl rfl rfl (by with_reducible rfl)); (first | (refine ev_load1G (wanted_some rfl rfl rfl rfl) hL rfl rfl HasV.mem (by rfl) ?_) | (refine ev_loadAllG (wanted_some rfl rfl rfl rfl) hL rfl rfl HasV.mem (by rfl) ?_) | (refine ev_loadG_ (wanted_some rfl rfl rfl rfl) hL rfl rfl HasV.mem SegC.seg ?_))))
  refine region_qtail1 9 (by kernel_rfl) hL (by rfl) (by rfl) (by kernel_rfl) (by kernel_rfl) (by kernel_rfl) (by kernel_rfl) (fun _ _ _ _ h => h) ?_
  clear hL
  intro w5 hL

  simp only [List.take_succ_cons, List.take_zero, List.drop_succ_cons, List.drop_zero, Act.put, List.setIfInBounds_toArray, List.set_cons_succ, List.set_cons_zero]
  repeat (first | (go_big_quiet_want; (first | refine quiet_load1L hL rfl rfl HasV.mem (by rfl) ?_ | refine quiet_loadAllL hL rfl rfl HasV.mem (by rfl) ?_ | refine quiet_loadL hL rfl rfl HasV.mem SegC.seg ?_); go_big_quiet_on; simp only [Act.put, List.setIfInBounds_toArray, List.set_cons_succ, List.set_cons_zero]) | (go_big_quiet_want; refine quiet_cat rfl rfl rfl (by simp only [ByteArray.size_append, ByteArray.size_mk']; simp; omega) ?_; go_big_quiet_on; simp only [Act.put, List.setIfInBounds_toArray, List.set_cons_succ, List.set_cons_zero]) | go_big_quiet_step (first
    | (go_at_call 27; with_reducible exact stamp29_ext l.parent hpb hpn)))
  refine wpQuiet_nil ?_
  rintro _ ⟨⟨w6, hb6⟩, rfl⟩
  have hL := hL.call hb6
  clear hb6
  rw [← HP.out]
  go_wp2_with (first
    | (go_at_call 27; (with_reducible refine (ref29_stamp l.id _ hib hin).mono ?_); rintro e w3 ⟨rfl, hb3⟩; have hL := hL.call hb3; clear hb3)
    | ((with_reducible refine gate (N := 17) rfl ?_); refine ev_litL (cs := [.string PW]) rfl hL rfl rfl rfl (by kernel_rfl) ?_; clear hL; intro gq wq hL)
    | ((with_reducible refine gate (N := 31) rfl ?_); refine ev_litL (cs := [.string ⟨#[100, 101, 97, 100]⟩]) rfl hL rfl rfl rfl (by kernel_rfl) ?_; clear hL; intro gq wq hL)
    | ((with_reducible refine gCat rfl rfl ?_); refine ev_cat rfl rfl rfl rfl (by simp only [ByteArray.size_append, ByteArray.size_mk']; simp; omega) ?_)
    | (go_at_call 49; have hq := ref29_join _ _ _ (hL.own (E := encS) (by first | exact .head _ | exact .tail _ (.head _) | exact .tail _ (.tail _ (.head _)) | exact .tail _ (.tail _ (.tail _ (.head _))) | exact .tail _ (.tail _ (.tail _ (.tail _ (.head _)))) | exact .tail _ (.tail _ (.tail _ (.tail _ (.tail _ (.head _))))) | exact .tail _ (.tail _ (.tail _ (.tail _ (.tail _ (.tail _ (.head _)))))) | exact .tail _ (.tail _ (.tail _ (.tail _ (.tail _ (.tail _ (.tail _ (.head _))))))) | exact .tail _ (.tail _ (.tail _ (.tail _ (.tail _ (.tail _ (.tail _ (.tail _ (.head _)))))))))).read HW.out (by simp); (with_reducible refine hq.mono ?_); rintro e w3 ⟨rfl, hb3⟩; have hL := hL.call hb3; clear hb3 hq)
    | ((with_reducible refine gAlloc rfl rfl ?_); (refine ev_allocL rfl hL rfl (by first | exact cells_agg _ rfl | exact cells_int _ _ | exact cells_str _ | exact cells_bool _ | exact cells_slice _ _ _ | exact cells_ptr _ | exact cells_map _ | exact cells_func _ _ _ | exact cells_nilFunc | exact cells_one (by assumption) (by assumption)) ?_; clear hL; intro gq wq hL)) | ((with_reducible refine gBox rfl rfl ?_); (refine ev_boxL rfl hL rfl rfl (by first | exact cells_agg _ rfl | exact cells_int _ _ | exact cells_str _ | exact cells_bool _ | exact cells_slice _ _ _ | exact cells_ptr _ | exact cells_map _ | exact cells_func _ _ _ | exact cells_nilFunc | exact cells_one (by assumption) (by assumption)) ?_; clear hL; intro gq wq hL)) | ((with_reducible refine gLoad rfl rfl ?_); (first | (refine ev_load1L rfl hL rfl rfl HasV.mem (by rfl) ?_) | (refine ev_loadAllL rfl hL rfl rfl HasV.mem (by rfl) ?_) | (refine ev_loadL rfl hL rfl rfl HasV.mem SegC.seg ?_))) | ((with_reducible refine gStore rfl rfl ?_); (first | (refine ev_storeC rfl hL rfl rfl rfl (by first | exact cells_agg _ rfl | exact cells_int _ _ | exact cells_str _ | exact cells_bool _ | exact cells_slice _ _ _ | exact cells_ptr _ | exact cells_map _ | exact cells_func _ _ _ | exact cells_nilFunc | exact cells_one (by assumption) (by assumption)) (by rfl) ?_) | (refine ev_storeAllC rfl hL rfl rfl rfl (by first | exact cells_agg _ rfl | exact cells_int _ _ | exact cells_str _ | exact cells_bool _ | exact cells_slice _ _ _ | exact cells_ptr _ | exact cells_map _ | exact cells_func _ _ _ | exact cells_nilFunc | exact cells_one (by assumption) (by assumption)) (by rfl) (by rfl) ?_)); clear hL; intro wq hL) | ((with_reducible refine gLoadG rfl rfl ?_ ?_); (exact wanted_some rfl rfl rfl (by with_reducible rfl)); (first | (refine ev_load1G (wanted_some rfl rfl rfl rfl) hL rfl rfl HasV.mem (by rfl) ?_) | (refine ev_loadAllG (wanted_some rfl rfl rfl rfl) hL rfl rfl HasV.mem (by rfl) ?_) | (refine ev_loadG_ (wanted_some rfl rfl rfl rfl) hL rfl rfl HasV.mem SegC.seg ?_)))
    | (at_builtin; refine ev_app1M (E := encS) (PW) 1 [PW] rfl hL rfl rfl rfl (by first | exact .head _ | exact .tail _ (.head _) | exact .tail _ (.tail _ (.head _)) | exact .tail _ (.tail _ (.tail _ (.head _))) | exact .tail _ (.tail _ (.tail _ (.tail _ (.head _)))) | exact .tail _ (.tail _ (.tail _ (.tail _ (.tail _ (.head _))))) | exact .tail _ (.tail _ (.tail _ (.tail _ (.tail _ (.tail _ (.head _)))))) | exact .tail _ (.tail _ (.tail _ (.tail _ (.tail _ (.tail _ (.tail _ (.head _))))))) | exact .tail _ (.tail _ (.tail _ (.tail _ (.tail _ (.tail _ (.tail _ (.tail _ (.head _))))))))) rfl rfl rfl (by first | exact fun _ => .here _ | exact fun _ => .there _ (.here _) | exact fun _ => .there _ (.there _ (.here _)) | exact fun _ => .there _ (.there _ (.there _ (.here _))) | exact fun _ => .there _ (.there _ (.there _ (.there _ (.here _)))) | exact fun _ => .there _ (.there _ (.there _ (.there _ (.there _ (.here _))))) | exact fun _ => .there _ (.there _ (.there _ (.there _ (.there _ (.there _ (.here _))))))) rfl rfl (by decide) hL.size ?_; clear hL; intro ao' c' wq hL)
    | (at_builtin; refine ev_app1M (E := encS) (⟨#[100, 101, 97, 100]⟩) 2 [PW, ⟨#[100, 101, 97, 100]⟩] rfl hL rfl rfl rfl (by first | exact .head _ | exact .tail _ (.head _) | exact .tail _ (.tail _ (.head _)) | exact .tail _ (.tail _ (.tail _ (.head _))) | exact .tail _ (.tail _ (.tail _ (.tail _ (.head _)))) | exact .tail _ (.tail _ (.tail _ (.tail _ (.tail _ (.head _))))) | exact .tail _ (.tail _ (.tail _ (.tail _ (.tail _ (.tail _ (.head _)))))) | exact .tail _ (.tail _ (.tail _ (.tail _ (.tail _ (.tail _ (.tail _ (.head _))))))) | exact .tail _ (.tail _ (.tail _ (.tail _ (.tail _ (.tail _ (.tail _ (.tail _ (.head _))))))))) rfl rfl rfl (by first | exact fun _ => .here _ | exact fun _ => .there _ (.here _) | exact fun _ => .there _ (.there _ (.here _)) | exact fun _ => .there _ (.there _ (.there _ (.here _))) | exact fun _ => .there _ (.there _ (.there _ (.there _ (.here _)))) | exact fun _ => .there _ (.there _ (.there _ (.there _ (.there _ (.here _))))) | exact fun _ => .there _ (.there _ (.there _ (.there _ (.there _ (.there _ (.here _))))))) rfl rfl (by decide) hL.size ?_; clear hL; intro ao' c' wq hL))
  go_ret
  exact ⟨ret_s HE.out.symm, hL.below⟩
theorem ref29_link001 (l : Lnk) (w : World) (hw : l.wf 100000000) (h1 : decide (l.at_ = Mk.zero) = false) (h2 : decide (l.alive = V8.zero) = false) (h3 : decide (l.dead = V8.zero) = true) :
    Calls Tryd.prog 30 #[.agg l.cells.toArray] w fun e w' => e = .returned (.string l.line) ∧ Below w.heap.size w w' := by
  have hL := (Loc.nil w NoM).rowNil encS w.heap.size 9
  obtain ⟨hib, hin⟩ := hw.id
  obtain ⟨hpb, hpn⟩ := hw.parent
  have hnm := hw.name
  have n1 := stamp_nz l.at_
  have n2 := vec_nz l.alive
  have n3 := vec_nz l.dead
  rw [h1] at n1
  rw [h2] at n2
  rw [h3] at n3
  simp only [Bool.not_true, Bool.not_false] at n1 n2 n3
  have hs1 := l.id.text_size hib hin
  have hs2 := l.parent.text_size hpb hpn
  obtain ⟨PW, hPW⟩ : ∃ PW, PW = (⟨#[112, 108, 97, 99, 101, 58]⟩ : ByteArray) ++ l.parent.text ++ ⟨#[47]⟩ ++ l.name := ⟨_, rfl⟩
  have hPs : PW.size ≤ 1000000000 := by rw [hPW]; simp only [ByteArray.size_append, ByteArray.size_mk']; simp; omega
  have hws : l.ws = [PW, ⟨#[97, 108, 105, 118, 101]⟩] := by
    unfold Lnk.ws
    rw [← hPW]
    simp only [decide_eq_true_eq, decide_eq_false_iff_not] at h1 h2 h3
    simp [h1, h2, h3]
  have HW : Hid (∀ x ∈ ([PW, ⟨#[97, 108, 105, 118, 101]⟩] : List ByteArray), x.size ≤ 1000000000) := Lib.hid (by
    intro x hx
    simp only [List.mem_cons, List.not_mem_nil, or_false] at hx
    rcases hx with rfl | rfl <;> first | exact hPs | (show _ ≤ (1000000000 : Nat); decide))
  have hJ : (joinB [PW, ⟨#[97, 108, 105, 118, 101]⟩]).size ≤ 10000000000 := by
    have := joinB_le 1000000000 _ HW.out
    simp only [List.length_cons, List.length_nil] at this
    omega
  have HE := Lib.hid (show Lnk.line l = ⟨#[108, 105, 110, 107, 32]⟩ ++ l.id.text ++ ⟨#[32]⟩ ++ joinB [PW, ⟨#[97, 108, 105, 118, 101]⟩] from by unfold Lnk.line; rw [hws])
  clear hws h1 h2 h3 hw
  have HP := Lib.hid hPW
  clear hPW
  unfold Lnk.cells
  go_enter Tryd.func30, Tryd.ntmps30
  go_wp2_with (first | ((with_reducible refine gAlloc rfl rfl ?_); (refine ev_allocL rfl hL rfl (by first | exact cells_agg _ rfl | exact cells_int _ _ | exact cells_str _ | exact cells_bool _ | exact cells_slice _ _ _ | exact cells_ptr _ | exact cells_map _ | exact cells_func _ _ _ | exact cells_nilFunc | exact cells_one (by assumption) (by assumption)) ?_; clear hL; intro gq wq hL)) | ((with_reducible refine gBox rfl rfl ?_); (refine ev_boxL rfl hL rfl rfl (by first | exact cells_agg _ rfl | exact cells_int _ _ | exact cells_str _ | exact cells_bool _ | exact cells_slice _ _ _ | exact cells_ptr _ | exact cells_map _ | exact cells_func _ _ _ | exact cells_nilFunc | exact cells_one (by assumption) (by assumption)) ?_; clear hL; intro gq wq hL)) | ((with_reducible refine gLoad rfl rfl ?_); (first | (refine ev_load1L rfl hL rfl rfl HasV.mem (by rfl) ?_) | (refine ev_loadAllL rfl hL rfl rfl HasV.mem (by rfl) ?_) | (refine ev_loadL rfl hL rfl rfl HasV.mem SegC.seg ?_))) | ((with_reducible refine gStore rfl rfl ?_); (first | (refine ev_storeC rfl hL rfl rfl rfl (by first | exact cells_agg _ rfl | exact cells_int _ _ | exact cells_str _ | exact cells_bool _ | exact cells_slice _ _ _ | exact cells_ptr _ | exact cells_map _ | exact cells_func _ _ _ | exact cells_nilFunc | exact cells_one (by assumption) (by assumption)) (by rfl) ?_) | (refine ev_storeAllC rfl hL rfl rfl rfl (by first | exact cells_agg _ rfl | exact cells_int _ _ | exact cells_str _ | exact cells_bool _ | exact cells_slice _ _ _ | exact cells_ptr _ | exact cells_map _ | exact cells_func _ _ _ | exact cells_nilFunc | exact cells_one (by assumption) (by assumption)) (by rfl) (by rfl) ?_)); clear hL; intro wq hL) | ((with_reducible refine gLoadG rfl rfl ?_ ?_); (exact wanted_some rfl rfl rfl (by with_reducible rfl)); (first | (refine ev_load1G (wanted_some rfl rfl rfl rfl) hL rfl rfl HasV.mem (by rfl) ?_) | (refine ev_loadAllG (wanted_some rfl rfl rfl rfl) hL rfl rfl HasV.mem (by rfl) ?_) | (refine ev_loadG_ (wanted_some rfl rfl rfl rfl) hL rfl rfl HasV.mem SegC.seg ?_))))
  refine region_qtail1 9 (by kernel_rfl) hL (by rfl) (by rfl) (by kernel_rfl) (by kernel_rfl) (by kernel_rfl) (by kernel_rfl) (fun _ _ _ _ h => h) ?_
  clear hL
  intro w5 hL

  simp only [List.take_succ_cons, List.take_zero, List.drop_succ_cons, List.drop_zero, Act.put, List.setIfInBounds_toArray, List.set_cons_succ, List.set_cons_zero]
  repeat (first | (go_big_quiet_want; (first | refine quiet_load1L hL rfl rfl HasV.mem (by rfl) ?_ | refine quiet_loadAllL hL rfl rfl HasV.mem (by rfl) ?_ | refine quiet_loadL hL rfl rfl HasV.mem SegC.seg ?_); go_big_quiet_on; simp only [Act.put, List.setIfInBounds_toArray, List.set_cons_succ, List.set_cons_zero]) | (go_big_quiet_want; refine quiet_cat rfl rfl rfl (by simp only [ByteArray.size_append, ByteArray.size_mk']; simp; omega) ?_; go_big_quiet_on; simp only [Act.put, List.setIfInBounds_toArray, List.set_cons_succ, List.set_cons_zero]) | go_big_quiet_step (first
    | (go_at_call 27; with_reducible exact stamp29_ext l.parent hpb hpn)))
  refine wpQuiet_nil ?_
  rintro _ ⟨⟨w6, hb6⟩, rfl⟩
  have hL := hL.call hb6
  clear hb6
  rw [← HP.out]
  go_wp2_with (first
    | (go_at_call 27; (with_reducible refine (ref29_stamp l.id _ hib hin).mono ?_); rintro e w3 ⟨rfl, hb3⟩; have hL := hL.call hb3; clear hb3)
    | ((with_reducible refine gate (N := 17) rfl ?_); refine ev_litL (cs := [.string PW]) rfl hL rfl rfl rfl (by kernel_rfl) ?_; clear hL; intro gq wq hL)
    | ((with_reducible refine gate (N := 24) rfl ?_); refine ev_litL (cs := [.string ⟨#[97, 108, 105, 118, 101]⟩]) rfl hL rfl rfl rfl (by kernel_rfl) ?_; clear hL; intro gq wq hL)
    | ((with_reducible refine gCat rfl rfl ?_); refine ev_cat rfl rfl rfl rfl (by simp only [ByteArray.size_append, ByteArray.size_mk']; simp; omega) ?_)
    | (go_at_call 49; have hq := ref29_join _ _ _ (hL.own (E := encS) (by first | exact .head _ | exact .tail _ (.head _) | exact .tail _ (.tail _ (.head _)) | exact .tail _ (.tail _ (.tail _ (.head _))) | exact .tail _ (.tail _ (.tail _ (.tail _ (.head _)))) | exact .tail _ (.tail _ (.tail _ (.tail _ (.tail _ (.head _))))) | exact .tail _ (.tail _ (.tail _ (.tail _ (.tail _ (.tail _ (.head _)))))) | exact .tail _ (.tail _ (.tail _ (.tail _ (.tail _ (.tail _ (.tail _ (.head _))))))) | exact .tail _ (.tail _ (.tail _ (.tail _ (.tail _ (.tail _ (.tail _ (.tail _ (.head _)))))))))).read HW.out (by simp); (with_reducible refine hq.mono ?_); rintro e w3 ⟨rfl, hb3⟩; have hL := hL.call hb3; clear hb3 hq)
    | ((with_reducible refine gAlloc rfl rfl ?_); (refine ev_allocL rfl hL rfl (by first | exact cells_agg _ rfl | exact cells_int _ _ | exact cells_str _ | exact cells_bool _ | exact cells_slice _ _ _ | exact cells_ptr _ | exact cells_map _ | exact cells_func _ _ _ | exact cells_nilFunc | exact cells_one (by assumption) (by assumption)) ?_; clear hL; intro gq wq hL)) | ((with_reducible refine gBox rfl rfl ?_); (refine ev_boxL rfl hL rfl rfl (by first | exact cells_agg _ rfl | exact cells_int _ _ | exact cells_str _ | exact cells_bool _ | exact cells_slice _ _ _ | exact cells_ptr _ | exact cells_map _ | exact cells_func _ _ _ | exact cells_nilFunc | exact cells_one (by assumption) (by assumption)) ?_; clear hL; intro gq wq hL)) | ((with_reducible refine gLoad rfl rfl ?_); (first | (refine ev_load1L rfl hL rfl rfl HasV.mem (by rfl) ?_) | (refine ev_loadAllL rfl hL rfl rfl HasV.mem (by rfl) ?_) | (refine ev_loadL rfl hL rfl rfl HasV.mem SegC.seg ?_))) | ((with_reducible refine gStore rfl rfl ?_); (first | (refine ev_storeC rfl hL rfl rfl rfl (by first | exact cells_agg _ rfl | exact cells_int _ _ | exact cells_str _ | exact cells_bool _ | exact cells_slice _ _ _ | exact cells_ptr _ | exact cells_map _ | exact cells_func _ _ _ | exact cells_nilFunc | exact cells_one (by assumption) (by assumption)) (by rfl) ?_) | (refine ev_storeAllC rfl hL rfl rfl rfl (by first | exact cells_agg _ rfl | exact cells_int _ _ | exact cells_str _ | exact cells_bool _ | exact cells_slice _ _ _ | exact cells_ptr _ | exact cells_map _ | exact cells_func _ _ _ | exact cells_nilFunc | exact cells_one (by assumption) (by assumption)) (by rfl) (by rfl) ?_)); clear hL; intro wq hL) | ((with_reducible refine gLoadG rfl rfl ?_ ?_); (exact wanted_some rfl rfl rfl (by with_reducible rfl)); (first | (refine ev_load1G (wanted_some rfl rfl rfl rfl) hL rfl rfl HasV.mem (by rfl) ?_) | (refine ev_loadAllG (wanted_some rfl rfl rfl rfl) hL rfl rfl HasV.mem (by rfl) ?_) | (refine ev_loadG_ (wanted_some rfl rfl rfl rfl) hL rfl rfl HasV.mem SegC.seg ?_)))
    | (at_builtin; refine ev_app1M (E := encS) (PW) 1 [PW] rfl hL rfl rfl rfl (by first | exact .head _ | exact .tail _ (.head _) | exact .tail _ (.tail _ (.head _)) | exact .tail _ (.tail _ (.tail _ (.head _))) | exact .tail _ (.tail _ (.tail _ (.tail _ (.head _)))) | exact .tail _ (.tail _ (.tail _ (.tail _ (.tail _ (.head _))))) | exact .tail _ (.tail _ (.tail _ (.tail _ (.tail _ (.tail _ (.head _)))))) | exact .tail _ (.tail _ (.tail _ (.tail _ (.tail _ (.tail _ (.tail _ (.head _))))))) | exact .tail _ (.tail _ (.tail _ (.tail _ (.tail _ (.tail _ (.tail _ (.tail _ (.head _))))))))) rfl rfl rfl (by first | exact fun _ => .here _ | exact fun _ => .there _ (.here _) | exact fun _ => .there _ (.there _ (.here _)) | exact fun _ => .there _ (.there _ (.there _ (.here _))) | exact fun _ => .there _ (.there _ (.there _ (.there _ (.here _)))) | exact fun _ => .there _ (.there _ (.there _ (.there _ (.there _ (.here _))))) | exact fun _ => .there _ (.there _ (.there _ (.there _ (.there _ (.there _ (.here _))))))) rfl rfl (by decide) hL.size ?_; clear hL; intro ao' c' wq hL)
    | (at_builtin; refine ev_app1M (E := encS) (⟨#[97, 108, 105, 118, 101]⟩) 2 [PW, ⟨#[97, 108, 105, 118, 101]⟩] rfl hL rfl rfl rfl (by first | exact .head _ | exact .tail _ (.head _) | exact .tail _ (.tail _ (.head _)) | exact .tail _ (.tail _ (.tail _ (.head _))) | exact .tail _ (.tail _ (.tail _ (.tail _ (.head _)))) | exact .tail _ (.tail _ (.tail _ (.tail _ (.tail _ (.head _))))) | exact .tail _ (.tail _ (.tail _ (.tail _ (.tail _ (.tail _ (.head _)))))) | exact .tail _ (.tail _ (.tail _ (.tail _ (.tail _ (.tail _ (.tail _ (.head _))))))) | exact .tail _ (.tail _ (.tail _ (.tail _ (.tail _ (.tail _ (.tail _ (.tail _ (.head _))))))))) rfl rfl rfl (by first | exact fun _ => .here _ | exact fun _ => .there _ (.here _) | exact fun _ => .there _ (.there _ (.here _)) | exact fun _ => .there _ (.there _ (.there _ (.here _))) | exact fun _ => .there _ (.there _ (.there _ (.there _ (.here _)))) | exact fun _ => .there _ (.there _ (.there _ (.there _ (.there _ (.here _))))) | exact fun _ => .there _ (.there _ (.there _ (.there _ (.there _ (.there _ (.here _))))))) rfl rfl (by decide) hL.size ?_; clear hL; intro ao' c' wq hL))
  go_ret
  exact ⟨ret_s HE.out.symm, hL.below⟩
theorem ref29_link000 (l : Lnk) (w : World) (hw : l.wf 100000000) (h1 : decide (l.at_ = Mk.zero) = false) (h2 : decide (l.alive = V8.zero) = false) (h3 : decide (l.dead = V8.zero) = false) :
    Calls Tryd.prog 30 #[.agg l.cells.toArray] w fun e w' => e = .returned (.string l.line) ∧ Below w.heap.size w w' := by
  have hL := (Loc.nil w NoM).rowNil encS w.heap.size 9
  obtain ⟨hib, hin⟩ := hw.id
  obtain ⟨hpb, hpn⟩ := hw.parent
  have hnm := hw.name
  have n1 := stamp_nz l.at_
  have n2 := vec_nz l.alive
  have n3 := vec_nz l.dead
  rw [h1] at n1
  rw [h2] at n2
  rw [h3] at n3
  simp only [Bool.not_true, Bool.not_false] at n1 n2 n3
  have hs1 := l.id.text_size hib hin
  have hs2 := l.parent.text_size hpb hpn
  obtain ⟨PW, hPW⟩ : ∃ PW, PW = (⟨#[112, 108, 97, 99, 101, 58]⟩ : ByteArray) ++ l.parent.text ++ ⟨#[47]⟩ ++ l.name := ⟨_, rfl⟩
  have hPs : PW.size ≤ 1000000000 := by rw [hPW]; simp only [ByteArray.size_append, ByteArray.size_mk']; simp; omega
  have hws : l.ws = [PW, ⟨#[97, 108, 105, 118, 101]⟩, ⟨#[100, 101, 97, 100]⟩] := by
    unfold Lnk.ws
    rw [← hPW]
    simp only [decide_eq_true_eq, decide_eq_false_iff_not] at h1 h2 h3
    simp [h1, h2, h3]
  have HW : Hid (∀ x ∈ ([PW, ⟨#[97, 108, 105, 118, 101]⟩, ⟨#[100, 101, 97, 100]⟩] : List ByteArray), x.size ≤ 1000000000) := Lib.hid (by
    intro x hx
    simp only [List.mem_cons, List.not_mem_nil, or_false] at hx
    rcases hx with rfl | rfl | rfl <;> first | exact hPs | (show _ ≤ (1000000000 : Nat); decide))
  have hJ : (joinB [PW, ⟨#[97, 108, 105, 118, 101]⟩, ⟨#[100, 101, 97, 100]⟩]).size ≤ 10000000000 := by
    have := joinB_le 1000000000 _ HW.out
    simp only [List.length_cons, List.length_nil] at this
    omega
  have HE := Lib.hid (show Lnk.line l = ⟨#[108, 105, 110, 107, 32]⟩ ++ l.id.text ++ ⟨#[32]⟩ ++ joinB [PW, ⟨#[97, 108, 105, 118, 101]⟩, ⟨#[100, 101, 97, 100]⟩] from by unfold Lnk.line; rw [hws])
  clear hws h1 h2 h3 hw
  have HP := Lib.hid hPW
  clear hPW
  unfold Lnk.cells
  go_enter Tryd.func30, Tryd.ntmps30
  go_wp2_with (first | ((with_reducible refine gAlloc rfl rfl ?_); (refine ev_allocL rfl hL rfl (by first | exact cells_agg _ rfl | exact cells_int _ _ | exact cells_str _ | exact cells_bool _ | exact cells_slice _ _ _ | exact cells_ptr _ | exact cells_map _ | exact cells_func _ _ _ | exact cells_nilFunc | exact cells_one (by assumption) (by assumption)) ?_; clear hL; intro gq wq hL)) | ((with_reducible refine gBox rfl rfl ?_); (refine ev_boxL rfl hL rfl rfl (by first | exact cells_agg _ rfl | exact cells_int _ _ | exact cells_str _ | exact cells_bool _ | exact cells_slice _ _ _ | exact cells_ptr _ | exact cells_map _ | exact cells_func _ _ _ | exact cells_nilFunc | exact cells_one (by assumption) (by assumption)) ?_; clear hL; intro gq wq hL)) | ((with_reducible refine gLoad rfl rfl ?_); (first | (refine ev_load1L rfl hL rfl rfl HasV.mem (by rfl) ?_) | (refine ev_loadAllL rfl hL rfl rfl HasV.mem (by rfl) ?_) | (refine ev_loadL rfl hL rfl rfl HasV.mem SegC.seg ?_))) | ((with_reducible refine gStore rfl rfl ?_); (first | (refine ev_storeC rfl hL rfl rfl rfl (by first | exact cells_agg _ rfl | exact cells_int _ _ | exact cells_str _ | exact cells_bool _ | exact cells_slice _ _ _ | exact cells_ptr _ | exact cells_map _ | exact cells_func _ _ _ | exact cells_nilFunc | exact cells_one (by assumption) (by assumption)) (by rfl) ?_) | (refine ev_storeAllC rfl hL rfl rfl rfl (by first | exact cells_agg _ rfl | exact cells_int _ _ | exact cells_str _ | exact cells_bool _ | exact cells_slice _ _ _ | exact cells_ptr _ | exact cells_map _ | exact cells_func _ _ _ | exact cells_nilFunc | exact cells_one (by assumption) (by assumption)) (by rfl) (by rfl) ?_)); clear hL; intro wq hL) | ((with_reducible refine gLoadG rfl rfl ?_ ?_); (exact wanted_some rfl rfl rfl (by with_reducible rfl)); (first | (refine ev_load1G (wanted_some rfl rfl rfl rfl) hL rfl rfl HasV.mem (by rfl) ?_) | (refine ev_loadAllG (wanted_some rfl rfl rfl rfl) hL rfl rfl HasV.mem (by rfl) ?_) | (refine ev_loadG_ (wanted_some rfl rfl rfl rfl) hL rfl rfl HasV.mem SegC.seg ?_))))
  refine region_qtail1 9 (by kernel_rfl) hL (by rfl) (by rfl) (by kernel_rfl) (by kernel_rfl) (by kernel_rfl) (by kernel_rfl) (fun _ _ _ _ h => h) ?_
  clear hL
  intro w5 hL

  simp only [List.take_succ_cons, List.take_zero, List.drop_succ_cons, List.drop_zero, Act.put, List.setIfInBounds_toArray, List.set_cons_succ, List.set_cons_zero]
  repeat (first | (go_big_quiet_want; (first | refine quiet_load1L hL rfl rfl HasV.mem (by rfl) ?_ | refine quiet_loadAllL hL rfl rfl HasV.mem (by rfl) ?_ | refine quiet_loadL hL rfl rfl HasV.mem SegC.seg ?_); go_big_quiet_on; simp only [Act.put, List.setIfInBounds_toArray, List.set_cons_succ, List.set_cons_zero]) | (go_big_quiet_want; refine quiet_cat rfl rfl rfl (by simp only [ByteArray.size_append, ByteArray.size_mk']; simp; omega) ?_; go_big_quiet_on; simp only [Act.put, List.setIfInBounds_toArray, List.set_cons_succ, List.set_cons_zero]) | go_big_quiet_step (first
    | (go_at_call 27; with_reducible exact stamp29_ext l.parent hpb hpn)))
  refine wpQuiet_nil ?_
  rintro _ ⟨⟨w6, hb6⟩, rfl⟩
  have hL := hL.call hb6
  clear hb6
  rw [← HP.out]
  go_wp2_with (first
    | (go_at_call 27; (with_reducible refine (ref29_stamp l.id _ hib hin).mono ?_); rintro e w3 ⟨rfl, hb3⟩; have hL := hL.call hb3; clear hb3)
    | ((with_reducible refine gate (N := 17) rfl ?_); refine ev_litL (cs := [.string PW]) rfl hL rfl rfl rfl (by kernel_rfl) ?_; clear hL; intro gq wq hL)
    | ((with_reducible refine gate (N := 24) rfl ?_); refine ev_litL (cs := [.string ⟨#[97, 108, 105, 118, 101]⟩]) rfl hL rfl rfl rfl (by kernel_rfl) ?_; clear hL; intro gq wq hL)
    | ((with_reducible refine gate (N := 31) rfl ?_); refine ev_litL (cs := [.string ⟨#[100, 101, 97, 100]⟩]) rfl hL rfl rfl rfl (by kernel_rfl) ?_; clear hL; intro gq wq hL)
    | ((with_reducible refine gCat rfl rfl ?_); refine ev_cat rfl rfl rfl rfl (by simp only [ByteArray.size_append, ByteArray.size_mk']; simp; omega) ?_)
    | (go_at_call 49; have hq := ref29_join _ _ _ (hL.own (E := encS) (by first | exact .head _ | exact .tail _ (.head _) | exact .tail _ (.tail _ (.head _)) | exact .tail _ (.tail _ (.tail _ (.head _))) | exact .tail _ (.tail _ (.tail _ (.tail _ (.head _)))) | exact .tail _ (.tail _ (.tail _ (.tail _ (.tail _ (.head _))))) | exact .tail _ (.tail _ (.tail _ (.tail _ (.tail _ (.tail _ (.head _)))))) | exact .tail _ (.tail _ (.tail _ (.tail _ (.tail _ (.tail _ (.tail _ (.head _))))))) | exact .tail _ (.tail _ (.tail _ (.tail _ (.tail _ (.tail _ (.tail _ (.tail _ (.head _)))))))))).read HW.out (by simp); (with_reducible refine hq.mono ?_); rintro e w3 ⟨rfl, hb3⟩; have hL := hL.call hb3; clear hb3 hq)
    | ((with_reducible refine gAlloc rfl rfl ?_); (refine ev_allocL rfl hL rfl (by first | exact cells_agg _ rfl | exact cells_int _ _ | exact cells_str _ | exact cells_bool _ | exact cells_slice _ _ _ | exact cells_ptr _ | exact cells_map _ | exact cells_func _ _ _ | exact cells_nilFunc | exact cells_one (by assumption) (by assumption)) ?_; clear hL; intro gq wq hL)) | ((with_reducible refine gBox rfl rfl ?_); (refine ev_boxL rfl hL rfl rfl (by first | exact cells_agg _ rfl | exact cells_int _ _ | exact cells_str _ | exact cells_bool _ | exact cells_slice _ _ _ | exact cells_ptr _ | exact cells_map _ | exact cells_func _ _ _ | exact cells_nilFunc | exact cells_one (by assumption) (by assumption)) ?_; clear hL; intro gq wq hL)) | ((with_reducible refine gLoad rfl rfl ?_); (first | (refine ev_load1L rfl hL rfl rfl HasV.mem (by rfl) ?_) | (refine ev_loadAllL rfl hL rfl rfl HasV.mem (by rfl) ?_) | (refine ev_loadL rfl hL rfl rfl HasV.mem SegC.seg ?_))) | ((with_reducible refine gStore rfl rfl ?_); (first | (refine ev_storeC rfl hL rfl rfl rfl (by first | exact cells_agg _ rfl | exact cells_int _ _ | exact cells_str _ | exact cells_bool _ | exact cells_slice _ _ _ | exact cells_ptr _ | exact cells_map _ | exact cells_func _ _ _ | exact cells_nilFunc | exact cells_one (by assumption) (by assumption)) (by rfl) ?_) | (refine ev_storeAllC rfl hL rfl rfl rfl (by first | exact cells_agg _ rfl | exact cells_int _ _ | exact cells_str _ | exact cells_bool _ | exact cells_slice _ _ _ | exact cells_ptr _ | exact cells_map _ | exact cells_func _ _ _ | exact cells_nilFunc | exact cells_one (by assumption) (by assumption)) (by rfl) (by rfl) ?_)); clear hL; intro wq hL) | ((with_reducible refine gLoadG rfl rfl ?_ ?_); (exact wanted_some rfl rfl rfl (by with_reducible rfl)); (first | (refine ev_load1G (wanted_some rfl rfl rfl rfl) hL rfl rfl HasV.mem (by rfl) ?_) | (refine ev_loadAllG (wanted_some rfl rfl rfl rfl) hL rfl rfl HasV.mem (by rfl) ?_) | (refine ev_loadG_ (wanted_some rfl rfl rfl rfl) hL rfl rfl HasV.mem SegC.seg ?_)))
    | (at_builtin; refine ev_app1M (E := encS) (PW) 1 [PW] rfl hL rfl rfl rfl (by first | exact .head _ | exact .tail _ (.head _) | exact .tail _ (.tail _ (.head _)) | exact .tail _ (.tail _ (.tail _ (.head _))) | exact .tail _ (.tail _ (.tail _ (.tail _ (.head _)))) | exact .tail _ (.tail _ (.tail _ (.tail _ (.tail _ (.head _))))) | exact .tail _ (.tail _ (.tail _ (.tail _ (.tail _ (.tail _ (.head _)))))) | exact .tail _ (.tail _ (.tail _ (.tail _ (.tail _ (.tail _ (.tail _ (.head _))))))) | exact .tail _ (.tail _ (.tail _ (.tail _ (.tail _ (.tail _ (.tail _ (.tail _ (.head _))))))))) rfl rfl rfl (by first | exact fun _ => .here _ | exact fun _ => .there _ (.here _) | exact fun _ => .there _ (.there _ (.here _)) | exact fun _ => .there _ (.there _ (.there _ (.here _))) | exact fun _ => .there _ (.there _ (.there _ (.there _ (.here _)))) | exact fun _ => .there _ (.there _ (.there _ (.there _ (.there _ (.here _))))) | exact fun _ => .there _ (.there _ (.there _ (.there _ (.there _ (.there _ (.here _))))))) rfl rfl (by decide) hL.size ?_; clear hL; intro ao' c' wq hL)
    | (at_builtin; refine ev_app1M (E := encS) (⟨#[97, 108, 105, 118, 101]⟩) 2 [PW, ⟨#[97, 108, 105, 118, 101]⟩] rfl hL rfl rfl rfl (by first | exact .head _ | exact .tail _ (.head _) | exact .tail _ (.tail _ (.head _)) | exact .tail _ (.tail _ (.tail _ (.head _))) | exact .tail _ (.tail _ (.tail _ (.tail _ (.head _)))) | exact .tail _ (.tail _ (.tail _ (.tail _ (.tail _ (.head _))))) | exact .tail _ (.tail _ (.tail _ (.tail _ (.tail _ (.tail _ (.head _)))))) | exact .tail _ (.tail _ (.tail _ (.tail _ (.tail _ (.tail _ (.tail _ (.head _))))))) | exact .tail _ (.tail _ (.tail _ (.tail _ (.tail _ (.tail _ (.tail _ (.tail _ (.head _))))))))) rfl rfl rfl (by first | exact fun _ => .here _ | exact fun _ => .there _ (.here _) | exact fun _ => .there _ (.there _ (.here _)) | exact fun _ => .there _ (.there _ (.there _ (.here _))) | exact fun _ => .there _ (.there _ (.there _ (.there _ (.here _)))) | exact fun _ => .there _ (.there _ (.there _ (.there _ (.there _ (.here _))))) | exact fun _ => .there _ (.there _ (.there _ (.there _ (.there _ (.there _ (.here _))))))) rfl rfl (by decide) hL.size ?_; clear hL; intro ao' c' wq hL)
    | (at_builtin; refine ev_app1M (E := encS) (⟨#[100, 101, 97, 100]⟩) 3 [PW, ⟨#[97, 108, 105, 118, 101]⟩, ⟨#[100, 101, 97, 100]⟩] rfl hL rfl rfl rfl (by first | exact .head _ | exact .tail _ (.head _) | exact .tail _ (.tail _ (.head _)) | exact .tail _ (.tail _ (.tail _ (.head _))) | exact .tail _ (.tail _ (.tail _ (.tail _ (.head _)))) | exact .tail _ (.tail _ (.tail _ (.tail _ (.tail _ (.head _))))) | exact .tail _ (.tail _ (.tail _ (.tail _ (.tail _ (.tail _ (.head _)))))) | exact .tail _ (.tail _ (.tail _ (.tail _ (.tail _ (.tail _ (.tail _ (.head _))))))) | exact .tail _ (.tail _ (.tail _ (.tail _ (.tail _ (.tail _ (.tail _ (.tail _ (.head _))))))))) rfl rfl rfl (by first | exact fun _ => .here _ | exact fun _ => .there _ (.here _) | exact fun _ => .there _ (.there _ (.here _)) | exact fun _ => .there _ (.there _ (.there _ (.here _))) | exact fun _ => .there _ (.there _ (.there _ (.there _ (.here _)))) | exact fun _ => .there _ (.there _ (.there _ (.there _ (.there _ (.here _))))) | exact fun _ => .there _ (.there _ (.there _ (.there _ (.there _ (.there _ (.here _))))))) rfl rfl (by decide) hL.size ?_; clear hL; intro ao' c' wq hL))
  go_ret
  exact ⟨ret_s HE.out.symm, hL.below⟩
theorem ref29_link (l : Lnk) (w : World) (hw : l.wf 100000000) :
    Calls Tryd.prog 30 #[.agg l.cells.toArray] w fun e w' => e = .returned (.string l.line) ∧ Below w.heap.size w w' := by
  cases h1 : decide (l.at_ = Mk.zero) <;> cases h2 : decide (l.alive = V8.zero) <;> cases h3 : decide (l.dead = V8.zero)
  · exact ref29_link000 l w hw h1 h2 h3
  · exact ref29_link001 l w hw h1 h2 h3
  · exact ref29_link010 l w hw h1 h2 h3
  · exact ref29_link011 l w hw h1 h2 h3
  · exact ref29_link100 l w hw h1 h2 h3
  · exact ref29_link101 l w hw h1 h2 h3
  · exact ref29_link110 l w hw h1 h2 h3
  · exact ref29_link111 l w hw h1 h2 h3
end Go.Proofs.YtebpacmhdkgfeaaDoor
