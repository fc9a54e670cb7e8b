/- A message as a line: the document's. -/
import Derived.Test.YtbkffeabikjnhaaDoorTex2
namespace Go.Proofs.YtbkffeabikjnhaaDoor
open Go.RowKit

set_option maxHeartbeats 2000000 in
set_option maxRecDepth 100000 in
theorem ref_text1 (m : Msg) (w : World) (h : m.wf) (hk : m.kind = 1) :
    Calls Tryd.prog 22 #[m.val] w fun e w' => e = .returned (.string m.textB) ∧ Below w.heap.size w w' := by
  have hL := Loc.nil w NoM
  have s1 := h.src.size
  have s2 := h.dst.size
  have s3 := h.vol.size
  have s4 := h.index.size
  have s5 := h.total.size
  have s6 := m.seen.seenB_size h.seen
  have s7 := m.base.text_size h.bb h.bn
  have s8 := m.mark.text_size h.mb h.mn
  have s9 := wordB_size m.kind
  have i10 : I64 (m.data.size : Int) := by have := h.data; unfold I64; omega
  have s10 := i10.size
  obtain ⟨i0, i1, i2, i3, i4, i5, i6, i7, i8, i9, hv, -⟩ := h
  have b1 : (m.kind == 1) = true := by simp [hk]
  have b2 : (m.kind == 2) = false := by simp [hk]
  have b3 : (m.kind == 3) = false := by simp [hk]
  have b4 : (m.kind == 4) = false := by simp [hk]
  have HK := Lib.hid hk
  clear hk
  go_enter Tryd.func22, Tryd.ntmps22
  go_wp2_with (first | ((with_reducible refine gAlloc rfl rfl ?_); (refine ev_allocL rfl hL rfl (by first | exact cells_agg _ rfl | exact cells_int _ _ | exact cells_str _ | exact cells_bool _ | exact cells_slice _ _ _ | exact cells_ptr _ | exact cells_map _ | exact cells_func _ _ _ | exact cells_nilFunc | exact cells_one (by assumption) (by assumption)) ?_; clear hL; intro gq wq hL)) | ((with_reducible refine gBox rfl rfl ?_); (refine ev_boxL rfl hL rfl rfl (by first | exact cells_agg _ rfl | exact cells_int _ _ | exact cells_str _ | exact cells_bool _ | exact cells_slice _ _ _ | exact cells_ptr _ | exact cells_map _ | exact cells_func _ _ _ | exact cells_nilFunc | exact cells_one (by assumption) (by assumption)) ?_; clear hL; intro gq wq hL)) | ((with_reducible refine gLoad rfl rfl ?_); (first | (refine ev_load1L rfl hL rfl rfl HasV.mem (by rfl) ?_) | (refine ev_loadAllL rfl hL rfl rfl HasV.mem (by rfl) ?_) | (refine ev_loadL rfl hL rfl rfl HasV.mem SegC.seg ?_))) | ((with_reducible refine gStore rfl rfl ?_); (first | (refine ev_storeC rfl hL rfl rfl rfl (by first | exact cells_agg _ rfl | exact cells_int _ _ | exact cells_str _ | exact cells_bool _ | exact cells_slice _ _ _ | exact cells_ptr _ | exact cells_map _ | exact cells_func _ _ _ | exact cells_nilFunc | exact cells_one (by assumption) (by assumption)) (by rfl) ?_) | (refine ev_storeAllC rfl hL rfl rfl rfl (by first | exact cells_agg _ rfl | exact cells_int _ _ | exact cells_str _ | exact cells_bool _ | exact cells_slice _ _ _ | exact cells_ptr _ | exact cells_map _ | exact cells_func _ _ _ | exact cells_nilFunc | exact cells_one (by assumption) (by assumption)) (by rfl) (by rfl) ?_)); clear hL; intro wq hL) | ((with_reducible refine gLoadG rfl rfl ?_ ?_); (exact wanted_some rfl rfl rfl (by with_reducible rfl)); (first | (refine ev_load1G (wanted_some rfl rfl rfl rfl) hL rfl rfl HasV.mem (by rfl) ?_) | (refine ev_loadAllG (wanted_some rfl rfl rfl rfl) hL rfl rfl HasV.mem (by rfl) ?_) | (refine ev_loadG_ (wanted_some rfl rfl rfl rfl) hL rfl rfl HasV.mem SegC.seg ?_))))
  refine wp_region_ext (by kernel_rfl) (by kernel_rfl) ?_
  repeat (first | (go_big_quiet_want; (first | refine quiet_load1L hL rfl rfl HasV.mem (by rfl) ?_ | refine quiet_loadAllL hL rfl rfl HasV.mem (by rfl) ?_ | refine quiet_loadL hL rfl rfl HasV.mem SegC.seg ?_); go_big_quiet_on; simp only [Act.put, List.setIfInBounds_toArray, List.set_cons_succ, List.set_cons_zero]) | (go_big_quiet_want; refine quiet_cat rfl rfl rfl (by simp only [ByteArray.size_append, ByteArray.size_mk']; simp; omega) ?_; go_big_quiet_on; simp only [Act.put, List.setIfInBounds_toArray, List.set_cons_succ, List.set_cons_zero]) | go_big_quiet_step (first
    | (go_at_call 24; with_reducible exact rseen_ext _ hv)
    | (go_at_call 57; with_reducible exact digits_ext _ (by assumption))))
  refine wpQuiet_nil ?_
  rintro _ ⟨⟨w2, hb2⟩, rfl⟩
  have hL := hL.call hb2
  clear hb2
  go_wp2_with (first
    | (go_at_call 58; have hq := fun w => ref_text m.base w i4 i5; (with_reducible refine (hq _).mono ?_); rintro e w3 ⟨rfl, hb3⟩; have hL := hL.call hb3; clear hb3 hq)
    | (go_at_call 58; have hq := fun w => ref_text m.mark w i6 i7; (with_reducible refine (hq _).mono ?_); rintro e w3 ⟨rfl, hb3⟩; have hL := hL.call hb3; clear hb3 hq)
    | (go_at_call 57; have hq := fun w => ref_digits m.index w i8.1 i8.2; (with_reducible refine (hq _).mono ?_); rintro e w3 ⟨rfl, hb3⟩; have hL := hL.call hb3; clear hb3 hq)
    | ((with_reducible refine gCat rfl rfl ?_); refine ev_cat rfl rfl rfl rfl (by simp only [ByteArray.size_append, ByteArray.size_mk']; simp; omega) ?_)
    | ((with_reducible refine gAlloc rfl rfl ?_); (refine ev_allocL rfl hL rfl (by first | exact cells_agg _ rfl | exact cells_int _ _ | exact cells_str _ | exact cells_bool _ | exact cells_slice _ _ _ | exact cells_ptr _ | exact cells_map _ | exact cells_func _ _ _ | exact cells_nilFunc | exact cells_one (by assumption) (by assumption)) ?_; clear hL; intro gq wq hL)) | ((with_reducible refine gBox rfl rfl ?_); (refine ev_boxL rfl hL rfl rfl (by first | exact cells_agg _ rfl | exact cells_int _ _ | exact cells_str _ | exact cells_bool _ | exact cells_slice _ _ _ | exact cells_ptr _ | exact cells_map _ | exact cells_func _ _ _ | exact cells_nilFunc | exact cells_one (by assumption) (by assumption)) ?_; clear hL; intro gq wq hL)) | ((with_reducible refine gLoad rfl rfl ?_); (first | (refine ev_load1L rfl hL rfl rfl HasV.mem (by rfl) ?_) | (refine ev_loadAllL rfl hL rfl rfl HasV.mem (by rfl) ?_) | (refine ev_loadL rfl hL rfl rfl HasV.mem SegC.seg ?_))) | ((with_reducible refine gStore rfl rfl ?_); (first | (refine ev_storeC rfl hL rfl rfl rfl (by first | exact cells_agg _ rfl | exact cells_int _ _ | exact cells_str _ | exact cells_bool _ | exact cells_slice _ _ _ | exact cells_ptr _ | exact cells_map _ | exact cells_func _ _ _ | exact cells_nilFunc | exact cells_one (by assumption) (by assumption)) (by rfl) ?_) | (refine ev_storeAllC rfl hL rfl rfl rfl (by first | exact cells_agg _ rfl | exact cells_int _ _ | exact cells_str _ | exact cells_bool _ | exact cells_slice _ _ _ | exact cells_ptr _ | exact cells_map _ | exact cells_func _ _ _ | exact cells_nilFunc | exact cells_one (by assumption) (by assumption)) (by rfl) (by rfl) ?_)); clear hL; intro wq hL) | ((with_reducible refine gLoadG rfl rfl ?_ ?_); (exact wanted_some rfl rfl rfl (by with_reducible rfl)); (first | (refine ev_load1G (wanted_some rfl rfl rfl rfl) hL rfl rfl HasV.mem (by rfl) ?_) | (refine ev_loadAllG (wanted_some rfl rfl rfl rfl) hL rfl rfl HasV.mem (by rfl) ?_) | (refine ev_loadG_ (wanted_some rfl rfl rfl rfl) hL rfl rfl HasV.mem SegC.seg ?_))))
  go_ret
  refine ⟨ret_s ?_, hL.below⟩
  unfold Msg.textB Msg.headT
  rw [if_pos HK.out]
  unfold wordB
  rw [if_pos HK.out]
set_option maxHeartbeats 2000000 in
set_option maxRecDepth 100000 in
theorem ref_text2 (m : Msg) (w : World) (h : m.wf) (hk : m.kind = 2) :
    Calls Tryd.prog 22 #[m.val] w fun e w' => e = .returned (.string m.textB) ∧ Below w.heap.size w w' := by
  have hL := Loc.nil w NoM
  have s1 := h.src.size
  have s2 := h.dst.size
  have s3 := h.vol.size
  have s4 := h.index.size
  have s5 := h.total.size
  have s6 := m.seen.seenB_size h.seen
  have s7 := m.base.text_size h.bb h.bn
  have s8 := m.mark.text_size h.mb h.mn
  have s9 := wordB_size m.kind
  have i10 : I64 (m.data.size : Int) := by have := h.data; unfold I64; omega
  have s10 := i10.size
  obtain ⟨i0, i1, i2, i3, i4, i5, i6, i7, i8, i9, hv, -⟩ := h
  have b1 : (m.kind == 1) = false := by simp [hk]
  have b2 : (m.kind == 2) = true := by simp [hk]
  have b3 : (m.kind == 3) = false := by simp [hk]
  have b4 : (m.kind == 4) = false := by simp [hk]
  have HK := Lib.hid hk
  clear hk
  go_enter Tryd.func22, Tryd.ntmps22
  go_wp2_with (first | ((with_reducible refine gAlloc rfl rfl ?_); (refine ev_allocL rfl hL rfl (by first | exact cells_agg _ rfl | exact cells_int _ _ | exact cells_str _ | exact cells_bool _ | exact cells_slice _ _ _ | exact cells_ptr _ | exact cells_map _ | exact cells_func _ _ _ | exact cells_nilFunc | exact cells_one (by assumption) (by assumption)) ?_; clear hL; intro gq wq hL)) | ((with_reducible refine gBox rfl rfl ?_); (refine ev_boxL rfl hL rfl rfl (by first | exact cells_agg _ rfl | exact cells_int _ _ | exact cells_str _ | exact cells_bool _ | exact cells_slice _ _ _ | exact cells_ptr _ | exact cells_map _ | exact cells_func _ _ _ | exact cells_nilFunc | exact cells_one (by assumption) (by assumption)) ?_; clear hL; intro gq wq hL)) | ((with_reducible refine gLoad rfl rfl ?_); (first | (refine ev_load1L rfl hL rfl rfl HasV.mem (by rfl) ?_) | (refine ev_loadAllL rfl hL rfl rfl HasV.mem (by rfl) ?_) | (refine ev_loadL rfl hL rfl rfl HasV.mem SegC.seg ?_))) | ((with_reducible refine gStore rfl rfl ?_); (first | (refine ev_storeC rfl hL rfl rfl rfl (by first | exact cells_agg _ rfl | exact cells_int _ _ | exact cells_str _ | exact cells_bool _ | exact cells_slice _ _ _ | exact cells_ptr _ | exact cells_map _ | exact cells_func _ _ _ | exact cells_nilFunc | exact cells_one (by assumption) (by assumption)) (by rfl) ?_) | (refine ev_storeAllC rfl hL rfl rfl rfl (by first | exact cells_agg _ rfl | exact cells_int _ _ | exact cells_str _ | exact cells_bool _ | exact cells_slice _ _ _ | exact cells_ptr _ | exact cells_map _ | exact cells_func _ _ _ | exact cells_nilFunc | exact cells_one (by assumption) (by assumption)) (by rfl) (by rfl) ?_)); clear hL; intro wq hL) | ((with_reducible refine gLoadG rfl rfl ?_ ?_); (exact wanted_some rfl rfl rfl (by with_reducible rfl)); (first | (refine ev_load1G (wanted_some rfl rfl rfl rfl) hL rfl rfl HasV.mem (by rfl) ?_) | (refine ev_loadAllG (wanted_some rfl rfl rfl rfl) hL rfl rfl HasV.mem (by rfl) ?_) | (refine ev_loadG_ (wanted_some rfl rfl rfl rfl) hL rfl rfl HasV.mem SegC.seg ?_))))
  refine wp_region_ext (by kernel_rfl) (by kernel_rfl) ?_
  repeat (first | (go_big_quiet_want; (first | refine quiet_load1L hL rfl rfl HasV.mem (by rfl) ?_ | refine quiet_loadAllL hL rfl rfl HasV.mem (by rfl) ?_ | refine quiet_loadL hL rfl rfl HasV.mem SegC.seg ?_); go_big_quiet_on; simp only [Act.put, List.setIfInBounds_toArray, List.set_cons_succ, List.set_cons_zero]) | (go_big_quiet_want; refine quiet_cat rfl rfl rfl (by simp only [ByteArray.size_append, ByteArray.size_mk']; simp; omega) ?_; go_big_quiet_on; simp only [Act.put, List.setIfInBounds_toArray, List.set_cons_succ, List.set_cons_zero]) | go_big_quiet_step (first
    | (go_at_call 24; with_reducible exact rseen_ext _ hv)
    | (go_at_call 57; with_reducible exact digits_ext _ (by assumption))))
  refine wpQuiet_nil ?_
  rintro _ ⟨⟨w2, hb2⟩, rfl⟩
  have hL := hL.call hb2
  clear hb2
  go_wp2_with (first
    | (go_at_call 58; have hq := fun w => ref_text m.base w i4 i5; (with_reducible refine (hq _).mono ?_); rintro e w3 ⟨rfl, hb3⟩; have hL := hL.call hb3; clear hb3 hq)
    | (go_at_call 58; have hq := fun w => ref_text m.mark w i6 i7; (with_reducible refine (hq _).mono ?_); rintro e w3 ⟨rfl, hb3⟩; have hL := hL.call hb3; clear hb3 hq)
    | (go_at_call 57; have hq := fun w => ref_digits m.index w i8.1 i8.2; (with_reducible refine (hq _).mono ?_); rintro e w3 ⟨rfl, hb3⟩; have hL := hL.call hb3; clear hb3 hq)
    | ((with_reducible refine gCat rfl rfl ?_); refine ev_cat rfl rfl rfl rfl (by simp only [ByteArray.size_append, ByteArray.size_mk']; simp; omega) ?_)
    | ((with_reducible refine gAlloc rfl rfl ?_); (refine ev_allocL rfl hL rfl (by first | exact cells_agg _ rfl | exact cells_int _ _ | exact cells_str _ | exact cells_bool _ | exact cells_slice _ _ _ | exact cells_ptr _ | exact cells_map _ | exact cells_func _ _ _ | exact cells_nilFunc | exact cells_one (by assumption) (by assumption)) ?_; clear hL; intro gq wq hL)) | ((with_reducible refine gBox rfl rfl ?_); (refine ev_boxL rfl hL rfl rfl (by first | exact cells_agg _ rfl | exact cells_int _ _ | exact cells_str _ | exact cells_bool _ | exact cells_slice _ _ _ | exact cells_ptr _ | exact cells_map _ | exact cells_func _ _ _ | exact cells_nilFunc | exact cells_one (by assumption) (by assumption)) ?_; clear hL; intro gq wq hL)) | ((with_reducible refine gLoad rfl rfl ?_); (first | (refine ev_load1L rfl hL rfl rfl HasV.mem (by rfl) ?_) | (refine ev_loadAllL rfl hL rfl rfl HasV.mem (by rfl) ?_) | (refine ev_loadL rfl hL rfl rfl HasV.mem SegC.seg ?_))) | ((with_reducible refine gStore rfl rfl ?_); (first | (refine ev_storeC rfl hL rfl rfl rfl (by first | exact cells_agg _ rfl | exact cells_int _ _ | exact cells_str _ | exact cells_bool _ | exact cells_slice _ _ _ | exact cells_ptr _ | exact cells_map _ | exact cells_func _ _ _ | exact cells_nilFunc | exact cells_one (by assumption) (by assumption)) (by rfl) ?_) | (refine ev_storeAllC rfl hL rfl rfl rfl (by first | exact cells_agg _ rfl | exact cells_int _ _ | exact cells_str _ | exact cells_bool _ | exact cells_slice _ _ _ | exact cells_ptr _ | exact cells_map _ | exact cells_func _ _ _ | exact cells_nilFunc | exact cells_one (by assumption) (by assumption)) (by rfl) (by rfl) ?_)); clear hL; intro wq hL) | ((with_reducible refine gLoadG rfl rfl ?_ ?_); (exact wanted_some rfl rfl rfl (by with_reducible rfl)); (first | (refine ev_load1G (wanted_some rfl rfl rfl rfl) hL rfl rfl HasV.mem (by rfl) ?_) | (refine ev_loadAllG (wanted_some rfl rfl rfl rfl) hL rfl rfl HasV.mem (by rfl) ?_) | (refine ev_loadG_ (wanted_some rfl rfl rfl rfl) hL rfl rfl HasV.mem SegC.seg ?_))))
  refine wp_region_ext (by kernel_rfl) (by kernel_rfl) ?_
  repeat (first | (go_big_quiet_want; (first | refine quiet_load1L hL rfl rfl HasV.mem (by rfl) ?_ | refine quiet_loadAllL hL rfl rfl HasV.mem (by rfl) ?_ | refine quiet_loadL hL rfl rfl HasV.mem SegC.seg ?_); go_big_quiet_on; simp only [Act.put, List.setIfInBounds_toArray, List.set_cons_succ, List.set_cons_zero]) | (go_big_quiet_want; refine quiet_cat rfl rfl rfl (by simp only [ByteArray.size_append, ByteArray.size_mk']; simp; omega) ?_; go_big_quiet_on; simp only [Act.put, List.setIfInBounds_toArray, List.set_cons_succ, List.set_cons_zero]) | go_big_quiet_step (first
    | (go_at_call 24; with_reducible exact rseen_ext _ hv)
    | (go_at_call 57; with_reducible exact digits_ext _ (by assumption))))
  refine wpQuiet_nil ?_
  rintro _ ⟨⟨w4, hb4⟩, rfl⟩
  have hL := hL.call hb4
  clear hb4
  go_wp2_with (first | ((with_reducible refine gAlloc rfl rfl ?_); (refine ev_allocL rfl hL rfl (by first | exact cells_agg _ rfl | exact cells_int _ _ | exact cells_str _ | exact cells_bool _ | exact cells_slice _ _ _ | exact cells_ptr _ | exact cells_map _ | exact cells_func _ _ _ | exact cells_nilFunc | exact cells_one (by assumption) (by assumption)) ?_; clear hL; intro gq wq hL)) | ((with_reducible refine gBox rfl rfl ?_); (refine ev_boxL rfl hL rfl rfl (by first | exact cells_agg _ rfl | exact cells_int _ _ | exact cells_str _ | exact cells_bool _ | exact cells_slice _ _ _ | exact cells_ptr _ | exact cells_map _ | exact cells_func _ _ _ | exact cells_nilFunc | exact cells_one (by assumption) (by assumption)) ?_; clear hL; intro gq wq hL)) | ((with_reducible refine gLoad rfl rfl ?_); (first | (refine ev_load1L rfl hL rfl rfl HasV.mem (by rfl) ?_) | (refine ev_loadAllL rfl hL rfl rfl HasV.mem (by rfl) ?_) | (refine ev_loadL rfl hL rfl rfl HasV.mem SegC.seg ?_))) | ((with_reducible refine gStore rfl rfl ?_); (first | (refine ev_storeC rfl hL rfl rfl rfl (by first | exact cells_agg _ rfl | exact cells_int _ _ | exact cells_str _ | exact cells_bool _ | exact cells_slice _ _ _ | exact cells_ptr _ | exact cells_map _ | exact cells_func _ _ _ | exact cells_nilFunc | exact cells_one (by assumption) (by assumption)) (by rfl) ?_) | (refine ev_storeAllC rfl hL rfl rfl rfl (by first | exact cells_agg _ rfl | exact cells_int _ _ | exact cells_str _ | exact cells_bool _ | exact cells_slice _ _ _ | exact cells_ptr _ | exact cells_map _ | exact cells_func _ _ _ | exact cells_nilFunc | exact cells_one (by assumption) (by assumption)) (by rfl) (by rfl) ?_)); clear hL; intro wq hL) | ((with_reducible refine gLoadG rfl rfl ?_ ?_); (exact wanted_some rfl rfl rfl (by with_reducible rfl)); (first | (refine ev_load1G (wanted_some rfl rfl rfl rfl) hL rfl rfl HasV.mem (by rfl) ?_) | (refine ev_loadAllG (wanted_some rfl rfl rfl rfl) hL rfl rfl HasV.mem (by rfl) ?_) | (refine ev_loadG_ (wanted_some rfl rfl rfl rfl) hL rfl rfl HasV.mem SegC.seg ?_))))
  go_ret
  refine ⟨ret_s ?_, hL.below⟩
  unfold Msg.textB Msg.headT
  rw [if_neg (by rw [HK.out]; decide), if_pos HK.out]
  unfold wordB
  rw [if_neg (by rw [HK.out]; decide), if_pos HK.out]
set_option maxHeartbeats 2000000 in
set_option maxRecDepth 100000 in
theorem ref_text3 (m : Msg) (w : World) (h : m.wf) (hk : m.kind = 3) :
    Calls Tryd.prog 22 #[m.val] w fun e w' => e = .returned (.string m.textB) ∧ Below w.heap.size w w' := by
  have hL := Loc.nil w NoM
  have s1 := h.src.size
  have s2 := h.dst.size
  have s3 := h.vol.size
  have s4 := h.index.size
  have s5 := h.total.size
  have s6 := m.seen.seenB_size h.seen
  have s7 := m.base.text_size h.bb h.bn
  have s8 := m.mark.text_size h.mb h.mn
  have s9 := wordB_size m.kind
  have i10 : I64 (m.data.size : Int) := by have := h.data; unfold I64; omega
  have s10 := i10.size
  obtain ⟨i0, i1, i2, i3, i4, i5, i6, i7, i8, i9, hv, -⟩ := h
  have b1 : (m.kind == 1) = false := by simp [hk]
  have b2 : (m.kind == 2) = false := by simp [hk]
  have b3 : (m.kind == 3) = true := by simp [hk]
  have b4 : (m.kind == 4) = false := by simp [hk]
  have HK := Lib.hid hk
  clear hk
  go_enter Tryd.func22, Tryd.ntmps22
  go_wp2_with (first | ((with_reducible refine gAlloc rfl rfl ?_); (refine ev_allocL rfl hL rfl (by first | exact cells_agg _ rfl | exact cells_int _ _ | exact cells_str _ | exact cells_bool _ | exact cells_slice _ _ _ | exact cells_ptr _ | exact cells_map _ | exact cells_func _ _ _ | exact cells_nilFunc | exact cells_one (by assumption) (by assumption)) ?_; clear hL; intro gq wq hL)) | ((with_reducible refine gBox rfl rfl ?_); (refine ev_boxL rfl hL rfl rfl (by first | exact cells_agg _ rfl | exact cells_int _ _ | exact cells_str _ | exact cells_bool _ | exact cells_slice _ _ _ | exact cells_ptr _ | exact cells_map _ | exact cells_func _ _ _ | exact cells_nilFunc | exact cells_one (by assumption) (by assumption)) ?_; clear hL; intro gq wq hL)) | ((with_reducible refine gLoad rfl rfl ?_); (first | (refine ev_load1L rfl hL rfl rfl HasV.mem (by rfl) ?_) | (refine ev_loadAllL rfl hL rfl rfl HasV.mem (by rfl) ?_) | (refine ev_loadL rfl hL rfl rfl HasV.mem SegC.seg ?_))) | ((with_reducible refine gStore rfl rfl ?_); (first | (refine ev_storeC rfl hL rfl rfl rfl (by first | exact cells_agg _ rfl | exact cells_int _ _ | exact cells_str _ | exact cells_bool _ | exact cells_slice _ _ _ | exact cells_ptr _ | exact cells_map _ | exact cells_func _ _ _ | exact cells_nilFunc | exact cells_one (by assumption) (by assumption)) (by rfl) ?_) | (refine ev_storeAllC rfl hL rfl rfl rfl (by first | exact cells_agg _ rfl | exact cells_int _ _ | exact cells_str _ | exact cells_bool _ | exact cells_slice _ _ _ | exact cells_ptr _ | exact cells_map _ | exact cells_func _ _ _ | exact cells_nilFunc | exact cells_one (by assumption) (by assumption)) (by rfl) (by rfl) ?_)); clear hL; intro wq hL) | ((with_reducible refine gLoadG rfl rfl ?_ ?_); (exact wanted_some rfl rfl rfl (by with_reducible rfl)); (first | (refine ev_load1G (wanted_some rfl rfl rfl rfl) hL rfl rfl HasV.mem (by rfl) ?_) | (refine ev_loadAllG (wanted_some rfl rfl rfl rfl) hL rfl rfl HasV.mem (by rfl) ?_) | (refine ev_loadG_ (wanted_some rfl rfl rfl rfl) hL rfl rfl HasV.mem SegC.seg ?_))))
  refine wp_region_ext (by kernel_rfl) (by kernel_rfl) ?_
  repeat (first | (go_big_quiet_want; (first | refine quiet_load1L hL rfl rfl HasV.mem (by rfl) ?_ | refine quiet_loadAllL hL rfl rfl HasV.mem (by rfl) ?_ | refine quiet_loadL hL rfl rfl HasV.mem SegC.seg ?_); go_big_quiet_on; simp only [Act.put, List.setIfInBounds_toArray, List.set_cons_succ, List.set_cons_zero]) | (go_big_quiet_want; refine quiet_cat rfl rfl rfl (by simp only [ByteArray.size_append, ByteArray.size_mk']; simp; omega) ?_; go_big_quiet_on; simp only [Act.put, List.setIfInBounds_toArray, List.set_cons_succ, List.set_cons_zero]) | go_big_quiet_step (first
    | (go_at_call 24; with_reducible exact rseen_ext _ hv)
    | (go_at_call 57; with_reducible exact digits_ext _ (by assumption))))
  refine wpQuiet_nil ?_
  rintro _ ⟨⟨w2, hb2⟩, rfl⟩
  have hL := hL.call hb2
  clear hb2
  go_wp2_with (first
    | (go_at_call 58; have hq := fun w => ref_text m.base w i4 i5; (with_reducible refine (hq _).mono ?_); rintro e w3 ⟨rfl, hb3⟩; have hL := hL.call hb3; clear hb3 hq)
    | (go_at_call 58; have hq := fun w => ref_text m.mark w i6 i7; (with_reducible refine (hq _).mono ?_); rintro e w3 ⟨rfl, hb3⟩; have hL := hL.call hb3; clear hb3 hq)
    | (go_at_call 57; have hq := fun w => ref_digits m.index w i8.1 i8.2; (with_reducible refine (hq _).mono ?_); rintro e w3 ⟨rfl, hb3⟩; have hL := hL.call hb3; clear hb3 hq)
    | ((with_reducible refine gCat rfl rfl ?_); refine ev_cat rfl rfl rfl rfl (by simp only [ByteArray.size_append, ByteArray.size_mk']; simp; omega) ?_)
    | ((with_reducible refine gAlloc rfl rfl ?_); (refine ev_allocL rfl hL rfl (by first | exact cells_agg _ rfl | exact cells_int _ _ | exact cells_str _ | exact cells_bool _ | exact cells_slice _ _ _ | exact cells_ptr _ | exact cells_map _ | exact cells_func _ _ _ | exact cells_nilFunc | exact cells_one (by assumption) (by assumption)) ?_; clear hL; intro gq wq hL)) | ((with_reducible refine gBox rfl rfl ?_); (refine ev_boxL rfl hL rfl rfl (by first | exact cells_agg _ rfl | exact cells_int _ _ | exact cells_str _ | exact cells_bool _ | exact cells_slice _ _ _ | exact cells_ptr _ | exact cells_map _ | exact cells_func _ _ _ | exact cells_nilFunc | exact cells_one (by assumption) (by assumption)) ?_; clear hL; intro gq wq hL)) | ((with_reducible refine gLoad rfl rfl ?_); (first | (refine ev_load1L rfl hL rfl rfl HasV.mem (by rfl) ?_) | (refine ev_loadAllL rfl hL rfl rfl HasV.mem (by rfl) ?_) | (refine ev_loadL rfl hL rfl rfl HasV.mem SegC.seg ?_))) | ((with_reducible refine gStore rfl rfl ?_); (first | (refine ev_storeC rfl hL rfl rfl rfl (by first | exact cells_agg _ rfl | exact cells_int _ _ | exact cells_str _ | exact cells_bool _ | exact cells_slice _ _ _ | exact cells_ptr _ | exact cells_map _ | exact cells_func _ _ _ | exact cells_nilFunc | exact cells_one (by assumption) (by assumption)) (by rfl) ?_) | (refine ev_storeAllC rfl hL rfl rfl rfl (by first | exact cells_agg _ rfl | exact cells_int _ _ | exact cells_str _ | exact cells_bool _ | exact cells_slice _ _ _ | exact cells_ptr _ | exact cells_map _ | exact cells_func _ _ _ | exact cells_nilFunc | exact cells_one (by assumption) (by assumption)) (by rfl) (by rfl) ?_)); clear hL; intro wq hL) | ((with_reducible refine gLoadG rfl rfl ?_ ?_); (exact wanted_some rfl rfl rfl (by with_reducible rfl)); (first | (refine ev_load1G (wanted_some rfl rfl rfl rfl) hL rfl rfl HasV.mem (by rfl) ?_) | (refine ev_loadAllG (wanted_some rfl rfl rfl rfl) hL rfl rfl HasV.mem (by rfl) ?_) | (refine ev_loadG_ (wanted_some rfl rfl rfl rfl) hL rfl rfl HasV.mem SegC.seg ?_))))
  go_ret
  refine ⟨ret_s ?_, hL.below⟩
  unfold Msg.textB Msg.headT
  rw [if_neg (by rw [HK.out]; decide), if_neg (by rw [HK.out]; decide), if_neg (by rw [HK.out]; decide)]
  unfold wordB
  rw [if_neg (by rw [HK.out]; decide), if_neg (by rw [HK.out]; decide), if_pos HK.out]
set_option maxHeartbeats 2000000 in
set_option maxRecDepth 100000 in
theorem ref_text4 (m : Msg) (w : World) (h : m.wf) (hk : m.kind = 4) :
    Calls Tryd.prog 22 #[m.val] w fun e w' => e = .returned (.string m.textB) ∧ Below w.heap.size w w' := by
  have hL := Loc.nil w NoM
  have s1 := h.src.size
  have s2 := h.dst.size
  have s3 := h.vol.size
  have s4 := h.index.size
  have s5 := h.total.size
  have s6 := m.seen.seenB_size h.seen
  have s7 := m.base.text_size h.bb h.bn
  have s8 := m.mark.text_size h.mb h.mn
  have s9 := wordB_size m.kind
  have i10 : I64 (m.data.size : Int) := by have := h.data; unfold I64; omega
  have s10 := i10.size
  obtain ⟨i0, i1, i2, i3, i4, i5, i6, i7, i8, i9, hv, -⟩ := h
  have b1 : (m.kind == 1) = false := by simp [hk]
  have b2 : (m.kind == 2) = false := by simp [hk]
  have b3 : (m.kind == 3) = false := by simp [hk]
  have b4 : (m.kind == 4) = true := by simp [hk]
  have HK := Lib.hid hk
  clear hk
  go_enter Tryd.func22, Tryd.ntmps22
  go_wp2_with (first | ((with_reducible refine gAlloc rfl rfl ?_); (refine ev_allocL rfl hL rfl (by first | exact cells_agg _ rfl | exact cells_int _ _ | exact cells_str _ | exact cells_bool _ | exact cells_slice _ _ _ | exact cells_ptr _ | exact cells_map _ | exact cells_func _ _ _ | exact cells_nilFunc | exact cells_one (by assumption) (by assumption)) ?_; clear hL; intro gq wq hL)) | ((with_reducible refine gBox rfl rfl ?_); (refine ev_boxL rfl hL rfl rfl (by first | exact cells_agg _ rfl | exact cells_int _ _ | exact cells_str _ | exact cells_bool _ | exact cells_slice _ _ _ | exact cells_ptr _ | exact cells_map _ | exact cells_func _ _ _ | exact cells_nilFunc | exact cells_one (by assumption) (by assumption)) ?_; clear hL; intro gq wq hL)) | ((with_reducible refine gLoad rfl rfl ?_); (first | (refine ev_load1L rfl hL rfl rfl HasV.mem (by rfl) ?_) | (refine ev_loadAllL rfl hL rfl rfl HasV.mem (by rfl) ?_) | (refine ev_loadL rfl hL rfl rfl HasV.mem SegC.seg ?_))) | ((with_reducible refine gStore rfl rfl ?_); (first | (refine ev_storeC rfl hL rfl rfl rfl (by first | exact cells_agg _ rfl | exact cells_int _ _ | exact cells_str _ | exact cells_bool _ | exact cells_slice _ _ _ | exact cells_ptr _ | exact cells_map _ | exact cells_func _ _ _ | exact cells_nilFunc | exact cells_one (by assumption) (by assumption)) (by rfl) ?_) | (refine ev_storeAllC rfl hL rfl rfl rfl (by first | exact cells_agg _ rfl | exact cells_int _ _ | exact cells_str _ | exact cells_bool _ | exact cells_slice _ _ _ | exact cells_ptr _ | exact cells_map _ | exact cells_func _ _ _ | exact cells_nilFunc | exact cells_one (by assumption) (by assumption)) (by rfl) (by rfl) ?_)); clear hL; intro wq hL) | ((with_reducible refine gLoadG rfl rfl ?_ ?_); (exact wanted_some rfl rfl rfl (by with_reducible rfl)); (first | (refine ev_load1G (wanted_some rfl rfl rfl rfl) hL rfl rfl HasV.mem (by rfl) ?_) | (refine ev_loadAllG (wanted_some rfl rfl rfl rfl) hL rfl rfl HasV.mem (by rfl) ?_) | (refine ev_loadG_ (wanted_some rfl rfl rfl rfl) hL rfl rfl HasV.mem SegC.seg ?_))))
  refine wp_region_ext (by kernel_rfl) (by kernel_rfl) ?_
  repeat (first | (go_big_quiet_want; (first | refine quiet_load1L hL rfl rfl HasV.mem (by rfl) ?_ | refine quiet_loadAllL hL rfl rfl HasV.mem (by rfl) ?_ | refine quiet_loadL hL rfl rfl HasV.mem SegC.seg ?_); go_big_quiet_on; simp only [Act.put, List.setIfInBounds_toArray, List.set_cons_succ, List.set_cons_zero]) | (go_big_quiet_want; refine quiet_cat rfl rfl rfl (by simp only [ByteArray.size_append, ByteArray.size_mk']; simp; omega) ?_; go_big_quiet_on; simp only [Act.put, List.setIfInBounds_toArray, List.set_cons_succ, List.set_cons_zero]) | go_big_quiet_step (first
    | (go_at_call 24; with_reducible exact rseen_ext _ hv)
    | (go_at_call 57; with_reducible exact digits_ext _ (by assumption))))
  refine wpQuiet_nil ?_
  rintro _ ⟨⟨w2, hb2⟩, rfl⟩
  have hL := hL.call hb2
  clear hb2
  go_wp2_with (first
    | (go_at_call 58; have hq := fun w => ref_text m.base w i4 i5; (with_reducible refine (hq _).mono ?_); rintro e w3 ⟨rfl, hb3⟩; have hL := hL.call hb3; clear hb3 hq)
    | (go_at_call 58; have hq := fun w => ref_text m.mark w i6 i7; (with_reducible refine (hq _).mono ?_); rintro e w3 ⟨rfl, hb3⟩; have hL := hL.call hb3; clear hb3 hq)
    | (go_at_call 57; have hq := fun w => ref_digits m.index w i8.1 i8.2; (with_reducible refine (hq _).mono ?_); rintro e w3 ⟨rfl, hb3⟩; have hL := hL.call hb3; clear hb3 hq)
    | ((with_reducible refine gCat rfl rfl ?_); refine ev_cat rfl rfl rfl rfl (by simp only [ByteArray.size_append, ByteArray.size_mk']; simp; omega) ?_)
    | ((with_reducible refine gAlloc rfl rfl ?_); (refine ev_allocL rfl hL rfl (by first | exact cells_agg _ rfl | exact cells_int _ _ | exact cells_str _ | exact cells_bool _ | exact cells_slice _ _ _ | exact cells_ptr _ | exact cells_map _ | exact cells_func _ _ _ | exact cells_nilFunc | exact cells_one (by assumption) (by assumption)) ?_; clear hL; intro gq wq hL)) | ((with_reducible refine gBox rfl rfl ?_); (refine ev_boxL rfl hL rfl rfl (by first | exact cells_agg _ rfl | exact cells_int _ _ | exact cells_str _ | exact cells_bool _ | exact cells_slice _ _ _ | exact cells_ptr _ | exact cells_map _ | exact cells_func _ _ _ | exact cells_nilFunc | exact cells_one (by assumption) (by assumption)) ?_; clear hL; intro gq wq hL)) | ((with_reducible refine gLoad rfl rfl ?_); (first | (refine ev_load1L rfl hL rfl rfl HasV.mem (by rfl) ?_) | (refine ev_loadAllL rfl hL rfl rfl HasV.mem (by rfl) ?_) | (refine ev_loadL rfl hL rfl rfl HasV.mem SegC.seg ?_))) | ((with_reducible refine gStore rfl rfl ?_); (first | (refine ev_storeC rfl hL rfl rfl rfl (by first | exact cells_agg _ rfl | exact cells_int _ _ | exact cells_str _ | exact cells_bool _ | exact cells_slice _ _ _ | exact cells_ptr _ | exact cells_map _ | exact cells_func _ _ _ | exact cells_nilFunc | exact cells_one (by assumption) (by assumption)) (by rfl) ?_) | (refine ev_storeAllC rfl hL rfl rfl rfl (by first | exact cells_agg _ rfl | exact cells_int _ _ | exact cells_str _ | exact cells_bool _ | exact cells_slice _ _ _ | exact cells_ptr _ | exact cells_map _ | exact cells_func _ _ _ | exact cells_nilFunc | exact cells_one (by assumption) (by assumption)) (by rfl) (by rfl) ?_)); clear hL; intro wq hL) | ((with_reducible refine gLoadG rfl rfl ?_ ?_); (exact wanted_some rfl rfl rfl (by with_reducible rfl)); (first | (refine ev_load1G (wanted_some rfl rfl rfl rfl) hL rfl rfl HasV.mem (by rfl) ?_) | (refine ev_loadAllG (wanted_some rfl rfl rfl rfl) hL rfl rfl HasV.mem (by rfl) ?_) | (refine ev_loadG_ (wanted_some rfl rfl rfl rfl) hL rfl rfl HasV.mem SegC.seg ?_))))
  go_ret
  refine ⟨ret_s ?_, hL.below⟩
  unfold Msg.textB Msg.headT
  rw [if_neg (by rw [HK.out]; decide), if_neg (by rw [HK.out]; decide), if_pos HK.out]
  unfold wordB
  rw [if_neg (by rw [HK.out]; decide), if_neg (by rw [HK.out]; decide), if_neg (by rw [HK.out]; decide), if_pos HK.out]
set_option maxHeartbeats 2000000 in
set_option maxRecDepth 100000 in
theorem ref_text0 (m : Msg) (w : World) (h : m.wf) (h1 : ¬ m.kind = 1) (h2 : ¬ m.kind = 2) (h3 : ¬ m.kind = 3) (h4 : ¬ m.kind = 4) :
    Calls Tryd.prog 22 #[m.val] w fun e w' => e = .returned (.string m.textB) ∧ Below w.heap.size w w' := by
  have hL := Loc.nil w NoM
  have s1 := h.src.size
  have s2 := h.dst.size
  have s3 := h.vol.size
  have s4 := h.index.size
  have s5 := h.total.size
  have s6 := m.seen.seenB_size h.seen
  have s7 := m.base.text_size h.bb h.bn
  have s8 := m.mark.text_size h.mb h.mn
  have s9 := wordB_size m.kind
  have i10 : I64 (m.data.size : Int) := by have := h.data; unfold I64; omega
  have s10 := i10.size
  obtain ⟨i0, i1, i2, i3, i4, i5, i6, i7, i8, i9, hv, -⟩ := h
  have b1 : (m.kind == 1) = false := by simp [h1]
  have b2 : (m.kind == 2) = false := by simp [h2]
  have b3 : (m.kind == 3) = false := by simp [h3]
  have b4 : (m.kind == 4) = false := by simp [h4]
  have HK := Lib.hid (show m.kind ≠ 1 ∧ m.kind ≠ 2 ∧ m.kind ≠ 3 ∧ m.kind ≠ 4 from ⟨h1, h2, h3, h4⟩)
  clear h1 h2 h3 h4
  go_enter Tryd.func22, Tryd.ntmps22
  go_wp2_with (first | ((with_reducible refine gAlloc rfl rfl ?_); (refine ev_allocL rfl hL rfl (by first | exact cells_agg _ rfl | exact cells_int _ _ | exact cells_str _ | exact cells_bool _ | exact cells_slice _ _ _ | exact cells_ptr _ | exact cells_map _ | exact cells_func _ _ _ | exact cells_nilFunc | exact cells_one (by assumption) (by assumption)) ?_; clear hL; intro gq wq hL)) | ((with_reducible refine gBox rfl rfl ?_); (refine ev_boxL rfl hL rfl rfl (by first | exact cells_agg _ rfl | exact cells_int _ _ | exact cells_str _ | exact cells_bool _ | exact cells_slice _ _ _ | exact cells_ptr _ | exact cells_map _ | exact cells_func _ _ _ | exact cells_nilFunc | exact cells_one (by assumption) (by assumption)) ?_; clear hL; intro gq wq hL)) | ((with_reducible refine gLoad rfl rfl ?_); (first | (refine ev_load1L rfl hL rfl rfl HasV.mem (by rfl) ?_) | (refine ev_loadAllL rfl hL rfl rfl HasV.mem (by rfl) ?_) | (refine ev_loadL rfl hL rfl rfl HasV.mem SegC.seg ?_))) | ((with_reducible refine gStore rfl rfl ?_); (first | (refine ev_storeC rfl hL rfl rfl rfl (by first | exact cells_agg _ rfl | exact cells_int _ _ | exact cells_str _ | exact cells_bool _ | exact cells_slice _ _ _ | exact cells_ptr _ | exact cells_map _ | exact cells_func _ _ _ | exact cells_nilFunc | exact cells_one (by assumption) (by assumption)) (by rfl) ?_) | (refine ev_storeAllC rfl hL rfl rfl rfl (by first | exact cells_agg _ rfl | exact cells_int _ _ | exact cells_str _ | exact cells_bool _ | exact cells_slice _ _ _ | exact cells_ptr _ | exact cells_map _ | exact cells_func _ _ _ | exact cells_nilFunc | exact cells_one (by assumption) (by assumption)) (by rfl) (by rfl) ?_)); clear hL; intro wq hL) | ((with_reducible refine gLoadG rfl rfl ?_ ?_); (exact wanted_some rfl rfl rfl (by with_reducible rfl)); (first | (refine ev_load1G (wanted_some rfl rfl rfl rfl) hL rfl rfl HasV.mem (by rfl) ?_) | (refine ev_loadAllG (wanted_some rfl rfl rfl rfl) hL rfl rfl HasV.mem (by rfl) ?_) | (refine ev_loadG_ (wanted_some rfl rfl rfl rfl) hL rfl rfl HasV.mem SegC.seg ?_))))
  refine wp_region_ext (by kernel_rfl) (by kernel_rfl) ?_
  repeat (first | (go_big_quiet_want; (first | refine quiet_load1L hL rfl rfl HasV.mem (by rfl) ?_ | refine quiet_loadAllL hL rfl rfl HasV.mem (by rfl) ?_ | refine quiet_loadL hL rfl rfl HasV.mem SegC.seg ?_); go_big_quiet_on; simp only [Act.put, List.setIfInBounds_toArray, List.set_cons_succ, List.set_cons_zero]) | (go_big_quiet_want; refine quiet_cat rfl rfl rfl (by simp only [ByteArray.size_append, ByteArray.size_mk']; simp; omega) ?_; go_big_quiet_on; simp only [Act.put, List.setIfInBounds_toArray, List.set_cons_succ, List.set_cons_zero]) | go_big_quiet_step (first
    | (go_at_call 24; with_reducible exact rseen_ext _ hv)
    | (go_at_call 57; with_reducible exact digits_ext _ (by assumption))))
  refine wpQuiet_nil ?_
  rintro _ ⟨⟨w2, hb2⟩, rfl⟩
  have hL := hL.call hb2
  clear hb2
  go_wp2_with (first
    | (go_at_call 58; have hq := fun w => ref_text m.base w i4 i5; (with_reducible refine (hq _).mono ?_); rintro e w3 ⟨rfl, hb3⟩; have hL := hL.call hb3; clear hb3 hq)
    | (go_at_call 58; have hq := fun w => ref_text m.mark w i6 i7; (with_reducible refine (hq _).mono ?_); rintro e w3 ⟨rfl, hb3⟩; have hL := hL.call hb3; clear hb3 hq)
    | (go_at_call 57; have hq := fun w => ref_digits m.index w i8.1 i8.2; (with_reducible refine (hq _).mono ?_); rintro e w3 ⟨rfl, hb3⟩; have hL := hL.call hb3; clear hb3 hq)
    | ((with_reducible refine gCat rfl rfl ?_); refine ev_cat rfl rfl rfl rfl (by simp only [ByteArray.size_append, ByteArray.size_mk']; simp; omega) ?_)
    | ((with_reducible refine gAlloc rfl rfl ?_); (refine ev_allocL rfl hL rfl (by first | exact cells_agg _ rfl | exact cells_int _ _ | exact cells_str _ | exact cells_bool _ | exact cells_slice _ _ _ | exact cells_ptr _ | exact cells_map _ | exact cells_func _ _ _ | exact cells_nilFunc | exact cells_one (by assumption) (by assumption)) ?_; clear hL; intro gq wq hL)) | ((with_reducible refine gBox rfl rfl ?_); (refine ev_boxL rfl hL rfl rfl (by first | exact cells_agg _ rfl | exact cells_int _ _ | exact cells_str _ | exact cells_bool _ | exact cells_slice _ _ _ | exact cells_ptr _ | exact cells_map _ | exact cells_func _ _ _ | exact cells_nilFunc | exact cells_one (by assumption) (by assumption)) ?_; clear hL; intro gq wq hL)) | ((with_reducible refine gLoad rfl rfl ?_); (first | (refine ev_load1L rfl hL rfl rfl HasV.mem (by rfl) ?_) | (refine ev_loadAllL rfl hL rfl rfl HasV.mem (by rfl) ?_) | (refine ev_loadL rfl hL rfl rfl HasV.mem SegC.seg ?_))) | ((with_reducible refine gStore rfl rfl ?_); (first | (refine ev_storeC rfl hL rfl rfl rfl (by first | exact cells_agg _ rfl | exact cells_int _ _ | exact cells_str _ | exact cells_bool _ | exact cells_slice _ _ _ | exact cells_ptr _ | exact cells_map _ | exact cells_func _ _ _ | exact cells_nilFunc | exact cells_one (by assumption) (by assumption)) (by rfl) ?_) | (refine ev_storeAllC rfl hL rfl rfl rfl (by first | exact cells_agg _ rfl | exact cells_int _ _ | exact cells_str _ | exact cells_bool _ | exact cells_slice _ _ _ | exact cells_ptr _ | exact cells_map _ | exact cells_func _ _ _ | exact cells_nilFunc | exact cells_one (by assumption) (by assumption)) (by rfl) (by rfl) ?_)); clear hL; intro wq hL) | ((with_reducible refine gLoadG rfl rfl ?_ ?_); (exact wanted_some rfl rfl rfl (by with_reducible rfl)); (first | (refine ev_load1G (wanted_some rfl rfl rfl rfl) hL rfl rfl HasV.mem (by rfl) ?_) | (refine ev_loadAllG (wanted_some rfl rfl rfl rfl) hL rfl rfl HasV.mem (by rfl) ?_) | (refine ev_loadG_ (wanted_some rfl rfl rfl rfl) hL rfl rfl HasV.mem SegC.seg ?_))))
  go_ret
  refine ⟨ret_s ?_, hL.below⟩
  unfold Msg.textB Msg.headT
  rw [if_neg HK.out.1, if_neg HK.out.2.1, if_neg HK.out.2.2.2]
  unfold wordB
  rw [if_neg HK.out.1, if_neg HK.out.2.1, if_neg HK.out.2.2.1, if_neg HK.out.2.2.2]
theorem msg_text (m : Msg) (w : World) (h : m.wf) (ht : Tb w) :
    Calls Tryd.prog 21 #[m.val] w fun e w' => e = .returned (.string m.textB) ∧ Below w.heap.size w w' := by
  by_cases h1 : m.kind = 1
  · exact msg_text1 m w h ht h1
  by_cases h2 : m.kind = 2
  · exact msg_text2 m w h ht h2
  by_cases h3 : m.kind = 3
  · exact msg_text3 m w h ht h3
  by_cases h4 : m.kind = 4
  · exact msg_text4 m w h ht h4
  exact msg_text0 m w h ht h1 h2 h3 h4
theorem ref_Text (m : Msg) (w : World) (h : m.wf) :
    Calls Tryd.prog 22 #[m.val] w fun e w' => e = .returned (.string m.textB) ∧ Below w.heap.size w w' := by
  by_cases h1 : m.kind = 1
  · exact ref_text1 m w h h1
  by_cases h2 : m.kind = 2
  · exact ref_text2 m w h h2
  by_cases h3 : m.kind = 3
  · exact ref_text3 m w h h3
  by_cases h4 : m.kind = 4
  · exact ref_text4 m w h h4
  exact ref_text0 m w h h1 h2 h3 h4
end Go.Proofs.YtbkffeabikjnhaaDoor
