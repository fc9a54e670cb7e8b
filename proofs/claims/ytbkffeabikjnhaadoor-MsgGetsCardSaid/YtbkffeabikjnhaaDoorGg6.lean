/- Texts laid together: Tex2, MArg, Eye, See, Body, Read, Wire, Rd. -/
import Derived.Test.YtbkffeabikjnhaaDoorGg5
import Derived.Test.YtbkffeabikjnhaaDoorRows
import Derived.MakeChecks
import Derived.LaidMore
import Derived.Lay
import Derived.Lib.LaidTab
import Derived.Stop.Joined
import Derived.Recover
/- A message as a line: msg.Text and the document's. -/
namespace Go.Proofs.YtbkffeabikjnhaaDoor
open Go.RowKit

structure Msg.wf (m : Msg) : Prop where
  (kind : I64 m.kind) (src : I64 m.src) (dst : I64 m.dst) (vol : I64 m.vol)
  (bb : I64 m.base.boot) (bn : I64 m.base.n) (mb : I64 m.mark.boot) (mn : I64 m.mark.n)
  (index : I64 m.index) (total : I64 m.total)
  seen : m.seen.wf
  data : m.data.size ≤ 4096
def wordB (k : Int) : ByteArray := if k = 1 then (⟨#[97, 115, 107]⟩ : ByteArray) else if k = 2 then (⟨#[112, 97, 114, 116]⟩ : ByteArray) else if k = 3 then (⟨#[115, 97, 109, 101]⟩ : ByteArray) else if k = 4 then (⟨#[103, 111, 110, 101]⟩ : ByteArray) else (⟨#[110, 111, 110, 101]⟩ : ByteArray)
theorem wordB_size (k : Int) : (wordB k).size ≤ 4 := by
  unfold wordB
  split
  · decide
  split
  · decide
  split
  · decide
  split <;> decide
def Msg.headT (m : Msg) : ByteArray := wordB m.kind ++ (⟨#[32]⟩ : ByteArray) ++ itoaB m.src ++ (⟨#[62]⟩ : ByteArray) ++ itoaB m.dst ++ (⟨#[32, 118]⟩ : ByteArray) ++ itoaB m.vol ++ (⟨#[32, 115, 101, 101, 110, 61]⟩ : ByteArray) ++ m.seen.seenB
def Msg.textB (m : Msg) : ByteArray :=
  if m.kind = 1 then m.headT ++ (⟨#[32, 98, 97, 115, 101, 61]⟩ : ByteArray) ++ m.base.text ++ (⟨#[32, 109, 97, 114, 107, 61]⟩ : ByteArray) ++ m.mark.text ++ (⟨#[32, 102, 114, 111, 109, 61]⟩ : ByteArray) ++ itoaB m.index
  else if m.kind = 2 then m.headT ++ (⟨#[32, 98, 97, 115, 101, 61]⟩ : ByteArray) ++ m.base.text ++ (⟨#[32, 109, 97, 114, 107, 61]⟩ : ByteArray) ++ m.mark.text ++ (⟨#[32, 112, 97, 114, 116, 61]⟩ : ByteArray) ++ itoaB m.index ++ (⟨#[47]⟩ : ByteArray) ++ itoaB m.total ++ (⟨#[32, 98, 121, 116, 101, 115, 61]⟩ : ByteArray) ++ itoaB m.data.size
  else if m.kind = 4 then m.headT ++ (⟨#[32, 109, 97, 114, 107, 61]⟩ : ByteArray) ++ m.mark.text
  else m.headT
theorem V8.seenB_size (v : V8) (hv : v.wf) : v.seenB.size ≤ 300 := by
  have := v.line_len hv v.last v.last_le
  have h8 := v.last_le
  show (v.line v.last).toArray.size ≤ 300
  rw [List.size_toArray]
  omega
theorem seen_ext {W : World} {e : Ext W} (ht : Tb W) (v : V8) (h : v.wf) : Calls Tryd.prog 23 #[v.val] e.w fun en w'' => en = .returned (.string v.seenB) ∧ ∃ m : Ext W, w'' = m.w :=
  calls_ext (msg_seen v _ h (ht.below e.ok))
theorem rseen_ext {W : World} {e : Ext W} (v : V8) (h : v.wf) : Calls Tryd.prog 24 #[v.val] e.w fun en w'' => en = .returned (.string v.seenB) ∧ ∃ m : Ext W, w'' = m.w :=
  calls_ext (ref_seen v _ h)
theorem marks_ext {W : World} {e : Ext W} (ht : Tb W) (m : Mk) (h1 : I64 m.boot) (h2 : I64 m.n) : Calls Tryd.prog 56 #[m.val] e.w fun en w'' => en = .returned (.string m.text) ∧ ∃ m : Ext W, w'' = m.w :=
  calls_ext (msg_marks m _ h1 h2 (ht.below e.ok))
theorem rtext_ext {W : World} {e : Ext W} (m : Mk) (h1 : I64 m.boot) (h2 : I64 m.n) : Calls Tryd.prog 58 #[m.val] e.w fun en w'' => en = .returned (.string m.text) ∧ ∃ m : Ext W, w'' = m.w :=
  calls_ext (ref_text m _ h1 h2)
theorem word_1 (k : Int) (w : World) (hk : k = 1) :
    Calls Tryd.prog 55 #[.int .i64 k] w fun e w' => e = .returned (.string (wordB k)) ∧ Below w.heap.size w w' := by
  have hL := Loc.nil w NoM
  subst hk
  go_enter Tryd.func55, Tryd.ntmps55
  go_wp2_with (first | ((with_reducible refine gAlloc rfl rfl ?_); (refine ev_allocL rfl hL rfl (by first | exact cells_agg _ rfl | exact cells_int _ _ | exact cells_str _ | exact cells_bool _ | exact cells_slice _ _ _ | exact cells_ptr _ | exact cells_map _ | exact cells_func _ _ _ | exact cells_nilFunc | exact cells_one (by assumption) (by assumption)) ?_; clear hL; intro gq wq hL)) | ((with_reducible refine gBox rfl rfl ?_); (refine ev_boxL rfl hL rfl rfl (by first | exact cells_agg _ rfl | exact cells_int _ _ | exact cells_str _ | exact cells_bool _ | exact cells_slice _ _ _ | exact cells_ptr _ | exact cells_map _ | exact cells_func _ _ _ | exact cells_nilFunc | exact cells_one (by assumption) (by assumption)) ?_; clear hL; intro gq wq hL)) | ((with_reducible refine gLoad rfl rfl ?_); (first | (refine ev_load1L rfl hL rfl rfl HasV.mem (by rfl) ?_) | (refine ev_loadAllL rfl hL rfl rfl HasV.mem (by rfl) ?_) | (refine ev_loadL rfl hL rfl rfl HasV.mem SegC.seg ?_))) | ((with_reducible refine gStore rfl rfl ?_); (first | (refine ev_storeC rfl hL rfl rfl rfl (by first | exact cells_agg _ rfl | exact cells_int _ _ | exact cells_str _ | exact cells_bool _ | exact cells_slice _ _ _ | exact cells_ptr _ | exact cells_map _ | exact cells_func _ _ _ | exact cells_nilFunc | exact cells_one (by assumption) (by assumption)) (by rfl) ?_) | (refine ev_storeAllC rfl hL rfl rfl rfl (by first | exact cells_agg _ rfl | exact cells_int _ _ | exact cells_str _ | exact cells_bool _ | exact cells_slice _ _ _ | exact cells_ptr _ | exact cells_map _ | exact cells_func _ _ _ | exact cells_nilFunc | exact cells_one (by assumption) (by assumption)) (by rfl) (by rfl) ?_)); clear hL; intro wq hL) | ((with_reducible refine gLoadG rfl rfl ?_ ?_); (exact wanted_some rfl rfl rfl (by with_reducible rfl)); (first | (refine ev_load1G (wanted_some rfl rfl rfl rfl) hL rfl rfl HasV.mem (by rfl) ?_) | (refine ev_loadAllG (wanted_some rfl rfl rfl rfl) hL rfl rfl HasV.mem (by rfl) ?_) | (refine ev_loadG_ (wanted_some rfl rfl rfl rfl) hL rfl rfl HasV.mem SegC.seg ?_))))
  go_ret
  exact ⟨rfl, hL.below⟩
theorem word_2 (k : Int) (w : World) (hk : k = 2) :
    Calls Tryd.prog 55 #[.int .i64 k] w fun e w' => e = .returned (.string (wordB k)) ∧ Below w.heap.size w w' := by
  have hL := Loc.nil w NoM
  subst hk
  go_enter Tryd.func55, Tryd.ntmps55
  go_wp2_with (first | ((with_reducible refine gAlloc rfl rfl ?_); (refine ev_allocL rfl hL rfl (by first | exact cells_agg _ rfl | exact cells_int _ _ | exact cells_str _ | exact cells_bool _ | exact cells_slice _ _ _ | exact cells_ptr _ | exact cells_map _ | exact cells_func _ _ _ | exact cells_nilFunc | exact cells_one (by assumption) (by assumption)) ?_; clear hL; intro gq wq hL)) | ((with_reducible refine gBox rfl rfl ?_); (refine ev_boxL rfl hL rfl rfl (by first | exact cells_agg _ rfl | exact cells_int _ _ | exact cells_str _ | exact cells_bool _ | exact cells_slice _ _ _ | exact cells_ptr _ | exact cells_map _ | exact cells_func _ _ _ | exact cells_nilFunc | exact cells_one (by assumption) (by assumption)) ?_; clear hL; intro gq wq hL)) | ((with_reducible refine gLoad rfl rfl ?_); (first | (refine ev_load1L rfl hL rfl rfl HasV.mem (by rfl) ?_) | (refine ev_loadAllL rfl hL rfl rfl HasV.mem (by rfl) ?_) | (refine ev_loadL rfl hL rfl rfl HasV.mem SegC.seg ?_))) | ((with_reducible refine gStore rfl rfl ?_); (first | (refine ev_storeC rfl hL rfl rfl rfl (by first | exact cells_agg _ rfl | exact cells_int _ _ | exact cells_str _ | exact cells_bool _ | exact cells_slice _ _ _ | exact cells_ptr _ | exact cells_map _ | exact cells_func _ _ _ | exact cells_nilFunc | exact cells_one (by assumption) (by assumption)) (by rfl) ?_) | (refine ev_storeAllC rfl hL rfl rfl rfl (by first | exact cells_agg _ rfl | exact cells_int _ _ | exact cells_str _ | exact cells_bool _ | exact cells_slice _ _ _ | exact cells_ptr _ | exact cells_map _ | exact cells_func _ _ _ | exact cells_nilFunc | exact cells_one (by assumption) (by assumption)) (by rfl) (by rfl) ?_)); clear hL; intro wq hL) | ((with_reducible refine gLoadG rfl rfl ?_ ?_); (exact wanted_some rfl rfl rfl (by with_reducible rfl)); (first | (refine ev_load1G (wanted_some rfl rfl rfl rfl) hL rfl rfl HasV.mem (by rfl) ?_) | (refine ev_loadAllG (wanted_some rfl rfl rfl rfl) hL rfl rfl HasV.mem (by rfl) ?_) | (refine ev_loadG_ (wanted_some rfl rfl rfl rfl) hL rfl rfl HasV.mem SegC.seg ?_))))
  go_ret
  exact ⟨rfl, hL.below⟩
theorem word_3 (k : Int) (w : World) (hk : k = 3) :
    Calls Tryd.prog 55 #[.int .i64 k] w fun e w' => e = .returned (.string (wordB k)) ∧ Below w.heap.size w w' := by
  have hL := Loc.nil w NoM
  subst hk
  go_enter Tryd.func55, Tryd.ntmps55
  go_wp2_with (first | ((with_reducible refine gAlloc rfl rfl ?_); (refine ev_allocL rfl hL rfl (by first | exact cells_agg _ rfl | exact cells_int _ _ | exact cells_str _ | exact cells_bool _ | exact cells_slice _ _ _ | exact cells_ptr _ | exact cells_map _ | exact cells_func _ _ _ | exact cells_nilFunc | exact cells_one (by assumption) (by assumption)) ?_; clear hL; intro gq wq hL)) | ((with_reducible refine gBox rfl rfl ?_); (refine ev_boxL rfl hL rfl rfl (by first | exact cells_agg _ rfl | exact cells_int _ _ | exact cells_str _ | exact cells_bool _ | exact cells_slice _ _ _ | exact cells_ptr _ | exact cells_map _ | exact cells_func _ _ _ | exact cells_nilFunc | exact cells_one (by assumption) (by assumption)) ?_; clear hL; intro gq wq hL)) | ((with_reducible refine gLoad rfl rfl ?_); (first | (refine ev_load1L rfl hL rfl rfl HasV.mem (by rfl) ?_) | (refine ev_loadAllL rfl hL rfl rfl HasV.mem (by rfl) ?_) | (refine ev_loadL rfl hL rfl rfl HasV.mem SegC.seg ?_))) | ((with_reducible refine gStore rfl rfl ?_); (first | (refine ev_storeC rfl hL rfl rfl rfl (by first | exact cells_agg _ rfl | exact cells_int _ _ | exact cells_str _ | exact cells_bool _ | exact cells_slice _ _ _ | exact cells_ptr _ | exact cells_map _ | exact cells_func _ _ _ | exact cells_nilFunc | exact cells_one (by assumption) (by assumption)) (by rfl) ?_) | (refine ev_storeAllC rfl hL rfl rfl rfl (by first | exact cells_agg _ rfl | exact cells_int _ _ | exact cells_str _ | exact cells_bool _ | exact cells_slice _ _ _ | exact cells_ptr _ | exact cells_map _ | exact cells_func _ _ _ | exact cells_nilFunc | exact cells_one (by assumption) (by assumption)) (by rfl) (by rfl) ?_)); clear hL; intro wq hL) | ((with_reducible refine gLoadG rfl rfl ?_ ?_); (exact wanted_some rfl rfl rfl (by with_reducible rfl)); (first | (refine ev_load1G (wanted_some rfl rfl rfl rfl) hL rfl rfl HasV.mem (by rfl) ?_) | (refine ev_loadAllG (wanted_some rfl rfl rfl rfl) hL rfl rfl HasV.mem (by rfl) ?_) | (refine ev_loadG_ (wanted_some rfl rfl rfl rfl) hL rfl rfl HasV.mem SegC.seg ?_))))
  go_ret
  exact ⟨rfl, hL.below⟩
theorem word_4 (k : Int) (w : World) (hk : k = 4) :
    Calls Tryd.prog 55 #[.int .i64 k] w fun e w' => e = .returned (.string (wordB k)) ∧ Below w.heap.size w w' := by
  have hL := Loc.nil w NoM
  subst hk
  go_enter Tryd.func55, Tryd.ntmps55
  go_wp2_with (first | ((with_reducible refine gAlloc rfl rfl ?_); (refine ev_allocL rfl hL rfl (by first | exact cells_agg _ rfl | exact cells_int _ _ | exact cells_str _ | exact cells_bool _ | exact cells_slice _ _ _ | exact cells_ptr _ | exact cells_map _ | exact cells_func _ _ _ | exact cells_nilFunc | exact cells_one (by assumption) (by assumption)) ?_; clear hL; intro gq wq hL)) | ((with_reducible refine gBox rfl rfl ?_); (refine ev_boxL rfl hL rfl rfl (by first | exact cells_agg _ rfl | exact cells_int _ _ | exact cells_str _ | exact cells_bool _ | exact cells_slice _ _ _ | exact cells_ptr _ | exact cells_map _ | exact cells_func _ _ _ | exact cells_nilFunc | exact cells_one (by assumption) (by assumption)) ?_; clear hL; intro gq wq hL)) | ((with_reducible refine gLoad rfl rfl ?_); (first | (refine ev_load1L rfl hL rfl rfl HasV.mem (by rfl) ?_) | (refine ev_loadAllL rfl hL rfl rfl HasV.mem (by rfl) ?_) | (refine ev_loadL rfl hL rfl rfl HasV.mem SegC.seg ?_))) | ((with_reducible refine gStore rfl rfl ?_); (first | (refine ev_storeC rfl hL rfl rfl rfl (by first | exact cells_agg _ rfl | exact cells_int _ _ | exact cells_str _ | exact cells_bool _ | exact cells_slice _ _ _ | exact cells_ptr _ | exact cells_map _ | exact cells_func _ _ _ | exact cells_nilFunc | exact cells_one (by assumption) (by assumption)) (by rfl) ?_) | (refine ev_storeAllC rfl hL rfl rfl rfl (by first | exact cells_agg _ rfl | exact cells_int _ _ | exact cells_str _ | exact cells_bool _ | exact cells_slice _ _ _ | exact cells_ptr _ | exact cells_map _ | exact cells_func _ _ _ | exact cells_nilFunc | exact cells_one (by assumption) (by assumption)) (by rfl) (by rfl) ?_)); clear hL; intro wq hL) | ((with_reducible refine gLoadG rfl rfl ?_ ?_); (exact wanted_some rfl rfl rfl (by with_reducible rfl)); (first | (refine ev_load1G (wanted_some rfl rfl rfl rfl) hL rfl rfl HasV.mem (by rfl) ?_) | (refine ev_loadAllG (wanted_some rfl rfl rfl rfl) hL rfl rfl HasV.mem (by rfl) ?_) | (refine ev_loadG_ (wanted_some rfl rfl rfl rfl) hL rfl rfl HasV.mem SegC.seg ?_))))
  go_ret
  exact ⟨rfl, hL.below⟩
theorem word_0 (k : Int) (w : World) (h1 : ¬ k = 1) (h2 : ¬ k = 2) (h3 : ¬ k = 3) (h4 : ¬ k = 4) :
    Calls Tryd.prog 55 #[.int .i64 k] w fun e w' => e = .returned (.string (wordB k)) ∧ Below w.heap.size w w' := by
  have hL := Loc.nil w NoM
  have b1 : (k == 1) = false := by simp [h1]
  have b2 : (k == 2) = false := by simp [h2]
  have b3 : (k == 3) = false := by simp [h3]
  have b4 : (k == 4) = false := by simp [h4]
  have HW := Lib.hid (show (⟨#[110, 111, 110, 101]⟩ : ByteArray) = wordB k by simp [wordB, h1, h2, h3, h4])
  clear h1 h2 h3 h4
  go_enter Tryd.func55, Tryd.ntmps55
  go_wp2_with (first | ((with_reducible refine gAlloc rfl rfl ?_); (refine ev_allocL rfl hL rfl (by first | exact cells_agg _ rfl | exact cells_int _ _ | exact cells_str _ | exact cells_bool _ | exact cells_slice _ _ _ | exact cells_ptr _ | exact cells_map _ | exact cells_func _ _ _ | exact cells_nilFunc | exact cells_one (by assumption) (by assumption)) ?_; clear hL; intro gq wq hL)) | ((with_reducible refine gBox rfl rfl ?_); (refine ev_boxL rfl hL rfl rfl (by first | exact cells_agg _ rfl | exact cells_int _ _ | exact cells_str _ | exact cells_bool _ | exact cells_slice _ _ _ | exact cells_ptr _ | exact cells_map _ | exact cells_func _ _ _ | exact cells_nilFunc | exact cells_one (by assumption) (by assumption)) ?_; clear hL; intro gq wq hL)) | ((with_reducible refine gLoad rfl rfl ?_); (first | (refine ev_load1L rfl hL rfl rfl HasV.mem (by rfl) ?_) | (refine ev_loadAllL rfl hL rfl rfl HasV.mem (by rfl) ?_) | (refine ev_loadL rfl hL rfl rfl HasV.mem SegC.seg ?_))) | ((with_reducible refine gStore rfl rfl ?_); (first | (refine ev_storeC rfl hL rfl rfl rfl (by first | exact cells_agg _ rfl | exact cells_int _ _ | exact cells_str _ | exact cells_bool _ | exact cells_slice _ _ _ | exact cells_ptr _ | exact cells_map _ | exact cells_func _ _ _ | exact cells_nilFunc | exact cells_one (by assumption) (by assumption)) (by rfl) ?_) | (refine ev_storeAllC rfl hL rfl rfl rfl (by first | exact cells_agg _ rfl | exact cells_int _ _ | exact cells_str _ | exact cells_bool _ | exact cells_slice _ _ _ | exact cells_ptr _ | exact cells_map _ | exact cells_func _ _ _ | exact cells_nilFunc | exact cells_one (by assumption) (by assumption)) (by rfl) (by rfl) ?_)); clear hL; intro wq hL) | ((with_reducible refine gLoadG rfl rfl ?_ ?_); (exact wanted_some rfl rfl rfl (by with_reducible rfl)); (first | (refine ev_load1G (wanted_some rfl rfl rfl rfl) hL rfl rfl HasV.mem (by rfl) ?_) | (refine ev_loadAllG (wanted_some rfl rfl rfl rfl) hL rfl rfl HasV.mem (by rfl) ?_) | (refine ev_loadG_ (wanted_some rfl rfl rfl rfl) hL rfl rfl HasV.mem SegC.seg ?_))))
  go_ret
  exact ⟨ret_s HW.out, hL.below⟩
theorem word_c (k : Int) (w : World) :
    Calls Tryd.prog 55 #[.int .i64 k] w fun e w' => e = .returned (.string (wordB k)) ∧ Below w.heap.size w w' := by
  by_cases h1 : k = 1
  · exact word_1 k w h1
  by_cases h2 : k = 2
  · exact word_2 k w h2
  by_cases h3 : k = 3
  · exact word_3 k w h3
  by_cases h4 : k = 4
  · exact word_4 k w h4
  exact word_0 k w h1 h2 h3 h4
theorem word_ext {W : World} {e : Ext W} (k : Int) : Calls Tryd.prog 55 #[.int .i64 k] e.w fun en w'' => en = .returned (.string (wordB k)) ∧ ∃ m : Ext W, w'' = m.w :=
  calls_ext (word_c k _)
set_option maxHeartbeats 2000000 in
set_option maxRecDepth 100000 in
theorem msg_text1 (m : Msg) (w : World) (h : m.wf) (ht0 : Tb w) (hk : m.kind = 1) :
    Calls Tryd.prog 21 #[m.val] w fun e w' => e = .returned (.string m.textB) ∧ Below w.heap.size w w' := by
  have hL := Loc.nil w NoM
  have s1 := h.src.size
  have s2 := h.dst.size
  have s3 := h.vol.size
  have s4 := h.index.size
  have s5 := h.total.size
  have s6 := m.seen.seenB_size h.seen
  have s7 := m.base.text_size h.bb h.bn
  have s8 := m.mark.text_size h.mb h.mn
  have s9 := wordB_size m.kind
  have i10 : I64 (m.data.size : Int) := by have := h.data; unfold I64; omega
  have s10 := i10.size
  obtain ⟨i0, i1, i2, i3, i4, i5, i6, i7, i8, i9, hv, -⟩ := h
  have b1 : (m.kind == 1) = true := by simp [hk]
  have b2 : (m.kind == 2) = false := by simp [hk]
  have b3 : (m.kind == 3) = false := by simp [hk]
  have b4 : (m.kind == 4) = false := by simp [hk]
  have HK := Lib.hid hk
  clear hk
  go_enter Tryd.func21, Tryd.ntmps21
  go_wp2_with (first | ((with_reducible refine gAlloc rfl rfl ?_); (refine ev_allocL rfl hL rfl (by first | exact cells_agg _ rfl | exact cells_int _ _ | exact cells_str _ | exact cells_bool _ | exact cells_slice _ _ _ | exact cells_ptr _ | exact cells_map _ | exact cells_func _ _ _ | exact cells_nilFunc | exact cells_one (by assumption) (by assumption)) ?_; clear hL; intro gq wq hL)) | ((with_reducible refine gBox rfl rfl ?_); (refine ev_boxL rfl hL rfl rfl (by first | exact cells_agg _ rfl | exact cells_int _ _ | exact cells_str _ | exact cells_bool _ | exact cells_slice _ _ _ | exact cells_ptr _ | exact cells_map _ | exact cells_func _ _ _ | exact cells_nilFunc | exact cells_one (by assumption) (by assumption)) ?_; clear hL; intro gq wq hL)) | ((with_reducible refine gLoad rfl rfl ?_); (first | (refine ev_load1L rfl hL rfl rfl HasV.mem (by rfl) ?_) | (refine ev_loadAllL rfl hL rfl rfl HasV.mem (by rfl) ?_) | (refine ev_loadL rfl hL rfl rfl HasV.mem SegC.seg ?_))) | ((with_reducible refine gStore rfl rfl ?_); (first | (refine ev_storeC rfl hL rfl rfl rfl (by first | exact cells_agg _ rfl | exact cells_int _ _ | exact cells_str _ | exact cells_bool _ | exact cells_slice _ _ _ | exact cells_ptr _ | exact cells_map _ | exact cells_func _ _ _ | exact cells_nilFunc | exact cells_one (by assumption) (by assumption)) (by rfl) ?_) | (refine ev_storeAllC rfl hL rfl rfl rfl (by first | exact cells_agg _ rfl | exact cells_int _ _ | exact cells_str _ | exact cells_bool _ | exact cells_slice _ _ _ | exact cells_ptr _ | exact cells_map _ | exact cells_func _ _ _ | exact cells_nilFunc | exact cells_one (by assumption) (by assumption)) (by rfl) (by rfl) ?_)); clear hL; intro wq hL) | ((with_reducible refine gLoadG rfl rfl ?_ ?_); (exact wanted_some rfl rfl rfl (by with_reducible rfl)); (first | (refine ev_load1G (wanted_some rfl rfl rfl rfl) hL rfl rfl HasV.mem (by rfl) ?_) | (refine ev_loadAllG (wanted_some rfl rfl rfl rfl) hL rfl rfl HasV.mem (by rfl) ?_) | (refine ev_loadG_ (wanted_some rfl rfl rfl rfl) hL rfl rfl HasV.mem SegC.seg ?_))))
  have ht := ht0.below hL.below
  refine wp_region_ext (by kernel_rfl) (by kernel_rfl) ?_
  repeat (first | (go_big_quiet_want; (first | refine quiet_load1L hL rfl rfl HasV.mem (by rfl) ?_ | refine quiet_loadAllL hL rfl rfl HasV.mem (by rfl) ?_ | refine quiet_loadL hL rfl rfl HasV.mem SegC.seg ?_); go_big_quiet_on; simp only [Act.put, List.setIfInBounds_toArray, List.set_cons_succ, List.set_cons_zero]) | (go_big_quiet_want; refine quiet_cat rfl rfl rfl (by simp only [ByteArray.size_append, ByteArray.size_mk']; simp; omega) ?_; go_big_quiet_on; simp only [Act.put, List.setIfInBounds_toArray, List.set_cons_succ, List.set_cons_zero]) | go_big_quiet_step (first
    | (go_at_call 55; with_reducible exact word_ext _)
    | (go_at_call 23; with_reducible exact seen_ext ht _ hv)
    | (go_at_call 56; with_reducible exact marks_ext ht _ i4 i5)
    | (go_at_call 56; with_reducible exact marks_ext ht _ i6 i7)
    | (go_at_call 42; with_reducible exact itoa_ext ht _ (by assumption))))
  refine wpQuiet_nil ?_
  rintro _ ⟨⟨w2, hb2⟩, rfl⟩
  have hL := hL.call hb2
  clear hb2
  go_wp2_with (first | ((with_reducible refine gAlloc rfl rfl ?_); (refine ev_allocL rfl hL rfl (by first | exact cells_agg _ rfl | exact cells_int _ _ | exact cells_str _ | exact cells_bool _ | exact cells_slice _ _ _ | exact cells_ptr _ | exact cells_map _ | exact cells_func _ _ _ | exact cells_nilFunc | exact cells_one (by assumption) (by assumption)) ?_; clear hL; intro gq wq hL)) | ((with_reducible refine gBox rfl rfl ?_); (refine ev_boxL rfl hL rfl rfl (by first | exact cells_agg _ rfl | exact cells_int _ _ | exact cells_str _ | exact cells_bool _ | exact cells_slice _ _ _ | exact cells_ptr _ | exact cells_map _ | exact cells_func _ _ _ | exact cells_nilFunc | exact cells_one (by assumption) (by assumption)) ?_; clear hL; intro gq wq hL)) | ((with_reducible refine gLoad rfl rfl ?_); (first | (refine ev_load1L rfl hL rfl rfl HasV.mem (by rfl) ?_) | (refine ev_loadAllL rfl hL rfl rfl HasV.mem (by rfl) ?_) | (refine ev_loadL rfl hL rfl rfl HasV.mem SegC.seg ?_))) | ((with_reducible refine gStore rfl rfl ?_); (first | (refine ev_storeC rfl hL rfl rfl rfl (by first | exact cells_agg _ rfl | exact cells_int _ _ | exact cells_str _ | exact cells_bool _ | exact cells_slice _ _ _ | exact cells_ptr _ | exact cells_map _ | exact cells_func _ _ _ | exact cells_nilFunc | exact cells_one (by assumption) (by assumption)) (by rfl) ?_) | (refine ev_storeAllC rfl hL rfl rfl rfl (by first | exact cells_agg _ rfl | exact cells_int _ _ | exact cells_str _ | exact cells_bool _ | exact cells_slice _ _ _ | exact cells_ptr _ | exact cells_map _ | exact cells_func _ _ _ | exact cells_nilFunc | exact cells_one (by assumption) (by assumption)) (by rfl) (by rfl) ?_)); clear hL; intro wq hL) | ((with_reducible refine gLoadG rfl rfl ?_ ?_); (exact wanted_some rfl rfl rfl (by with_reducible rfl)); (first | (refine ev_load1G (wanted_some rfl rfl rfl rfl) hL rfl rfl HasV.mem (by rfl) ?_) | (refine ev_loadAllG (wanted_some rfl rfl rfl rfl) hL rfl rfl HasV.mem (by rfl) ?_) | (refine ev_loadG_ (wanted_some rfl rfl rfl rfl) hL rfl rfl HasV.mem SegC.seg ?_))))
  have ht := ht0.below hL.below
  refine wp_region_ext (by kernel_rfl) (by kernel_rfl) ?_
  repeat (first | (go_big_quiet_want; (first | refine quiet_load1L hL rfl rfl HasV.mem (by rfl) ?_ | refine quiet_loadAllL hL rfl rfl HasV.mem (by rfl) ?_ | refine quiet_loadL hL rfl rfl HasV.mem SegC.seg ?_); go_big_quiet_on; simp only [Act.put, List.setIfInBounds_toArray, List.set_cons_succ, List.set_cons_zero]) | (go_big_quiet_want; refine quiet_cat rfl rfl rfl (by simp only [ByteArray.size_append, ByteArray.size_mk']; simp; omega) ?_; go_big_quiet_on; simp only [Act.put, List.setIfInBounds_toArray, List.set_cons_succ, List.set_cons_zero]) | go_big_quiet_step (first
    | (go_at_call 55; with_reducible exact word_ext _)
    | (go_at_call 23; with_reducible exact seen_ext ht _ hv)
    | (go_at_call 56; with_reducible exact marks_ext ht _ i4 i5)
    | (go_at_call 56; with_reducible exact marks_ext ht _ i6 i7)
    | (go_at_call 42; with_reducible exact itoa_ext ht _ (by assumption))))
  refine wpQuiet_nil ?_
  rintro _ ⟨⟨w3, hb3⟩, rfl⟩
  have hL := hL.call hb3
  clear hb3
  go_wp2_with (first | ((with_reducible refine gAlloc rfl rfl ?_); (refine ev_allocL rfl hL rfl (by first | exact cells_agg _ rfl | exact cells_int _ _ | exact cells_str _ | exact cells_bool _ | exact cells_slice _ _ _ | exact cells_ptr _ | exact cells_map _ | exact cells_func _ _ _ | exact cells_nilFunc | exact cells_one (by assumption) (by assumption)) ?_; clear hL; intro gq wq hL)) | ((with_reducible refine gBox rfl rfl ?_); (refine ev_boxL rfl hL rfl rfl (by first | exact cells_agg _ rfl | exact cells_int _ _ | exact cells_str _ | exact cells_bool _ | exact cells_slice _ _ _ | exact cells_ptr _ | exact cells_map _ | exact cells_func _ _ _ | exact cells_nilFunc | exact cells_one (by assumption) (by assumption)) ?_; clear hL; intro gq wq hL)) | ((with_reducible refine gLoad rfl rfl ?_); (first | (refine ev_load1L rfl hL rfl rfl HasV.mem (by rfl) ?_) | (refine ev_loadAllL rfl hL rfl rfl HasV.mem (by rfl) ?_) | (refine ev_loadL rfl hL rfl rfl HasV.mem SegC.seg ?_))) | ((with_reducible refine gStore rfl rfl ?_); (first | (refine ev_storeC rfl hL rfl rfl rfl (by first | exact cells_agg _ rfl | exact cells_int _ _ | exact cells_str _ | exact cells_bool _ | exact cells_slice _ _ _ | exact cells_ptr _ | exact cells_map _ | exact cells_func _ _ _ | exact cells_nilFunc | exact cells_one (by assumption) (by assumption)) (by rfl) ?_) | (refine ev_storeAllC rfl hL rfl rfl rfl (by first | exact cells_agg _ rfl | exact cells_int _ _ | exact cells_str _ | exact cells_bool _ | exact cells_slice _ _ _ | exact cells_ptr _ | exact cells_map _ | exact cells_func _ _ _ | exact cells_nilFunc | exact cells_one (by assumption) (by assumption)) (by rfl) (by rfl) ?_)); clear hL; intro wq hL) | ((with_reducible refine gLoadG rfl rfl ?_ ?_); (exact wanted_some rfl rfl rfl (by with_reducible rfl)); (first | (refine ev_load1G (wanted_some rfl rfl rfl rfl) hL rfl rfl HasV.mem (by rfl) ?_) | (refine ev_loadAllG (wanted_some rfl rfl rfl rfl) hL rfl rfl HasV.mem (by rfl) ?_) | (refine ev_loadG_ (wanted_some rfl rfl rfl rfl) hL rfl rfl HasV.mem SegC.seg ?_))))
  go_ret
  refine ⟨ret_s ?_, hL.below⟩
  unfold Msg.textB Msg.headT
  rw [if_pos HK.out]
set_option maxHeartbeats 2000000 in
set_option maxRecDepth 100000 in
theorem msg_text2 (m : Msg) (w : World) (h : m.wf) (ht0 : Tb w) (hk : m.kind = 2) :
    Calls Tryd.prog 21 #[m.val] w fun e w' => e = .returned (.string m.textB) ∧ Below w.heap.size w w' := by
  have hL := Loc.nil w NoM
  have s1 := h.src.size
  have s2 := h.dst.size
  have s3 := h.vol.size
  have s4 := h.index.size
  have s5 := h.total.size
  have s6 := m.seen.seenB_size h.seen
  have s7 := m.base.text_size h.bb h.bn
  have s8 := m.mark.text_size h.mb h.mn
  have s9 := wordB_size m.kind
  have i10 : I64 (m.data.size : Int) := by have := h.data; unfold I64; omega
  have s10 := i10.size
  obtain ⟨i0, i1, i2, i3, i4, i5, i6, i7, i8, i9, hv, -⟩ := h
  have b1 : (m.kind == 1) = false := by simp [hk]
  have b2 : (m.kind == 2) = true := by simp [hk]
  have b3 : (m.kind == 3) = false := by simp [hk]
  have b4 : (m.kind == 4) = false := by simp [hk]
  have HK := Lib.hid hk
  clear hk
  go_enter Tryd.func21, Tryd.ntmps21
  go_wp2_with (first | ((with_reducible refine gAlloc rfl rfl ?_); (refine ev_allocL rfl hL rfl (by first | exact cells_agg _ rfl | exact cells_int _ _ | exact cells_str _ | exact cells_bool _ | exact cells_slice _ _ _ | exact cells_ptr _ | exact cells_map _ | exact cells_func _ _ _ | exact cells_nilFunc | exact cells_one (by assumption) (by assumption)) ?_; clear hL; intro gq wq hL)) | ((with_reducible refine gBox rfl rfl ?_); (refine ev_boxL rfl hL rfl rfl (by first | exact cells_agg _ rfl | exact cells_int _ _ | exact cells_str _ | exact cells_bool _ | exact cells_slice _ _ _ | exact cells_ptr _ | exact cells_map _ | exact cells_func _ _ _ | exact cells_nilFunc | exact cells_one (by assumption) (by assumption)) ?_; clear hL; intro gq wq hL)) | ((with_reducible refine gLoad rfl rfl ?_); (first | (refine ev_load1L rfl hL rfl rfl HasV.mem (by rfl) ?_) | (refine ev_loadAllL rfl hL rfl rfl HasV.mem (by rfl) ?_) | (refine ev_loadL rfl hL rfl rfl HasV.mem SegC.seg ?_))) | ((with_reducible refine gStore rfl rfl ?_); (first | (refine ev_storeC rfl hL rfl rfl rfl (by first | exact cells_agg _ rfl | exact cells_int _ _ | exact cells_str _ | exact cells_bool _ | exact cells_slice _ _ _ | exact cells_ptr _ | exact cells_map _ | exact cells_func _ _ _ | exact cells_nilFunc | exact cells_one (by assumption) (by assumption)) (by rfl) ?_) | (refine ev_storeAllC rfl hL rfl rfl rfl (by first | exact cells_agg _ rfl | exact cells_int _ _ | exact cells_str _ | exact cells_bool _ | exact cells_slice _ _ _ | exact cells_ptr _ | exact cells_map _ | exact cells_func _ _ _ | exact cells_nilFunc | exact cells_one (by assumption) (by assumption)) (by rfl) (by rfl) ?_)); clear hL; intro wq hL) | ((with_reducible refine gLoadG rfl rfl ?_ ?_); (exact wanted_some rfl rfl rfl (by with_reducible rfl)); (first | (refine ev_load1G (wanted_some rfl rfl rfl rfl) hL rfl rfl HasV.mem (by rfl) ?_) | (refine ev_loadAllG (wanted_some rfl rfl rfl rfl) hL rfl rfl HasV.mem (by rfl) ?_) | (refine ev_loadG_ (wanted_some rfl rfl rfl rfl) hL rfl rfl HasV.mem SegC.seg ?_))))
  have ht := ht0.below hL.below
  refine wp_region_ext (by kernel_rfl) (by kernel_rfl) ?_
  repeat (first | (go_big_quiet_want; (first | refine quiet_load1L hL rfl rfl HasV.mem (by rfl) ?_ | refine quiet_loadAllL hL rfl rfl HasV.mem (by rfl) ?_ | refine quiet_loadL hL rfl rfl HasV.mem SegC.seg ?_); go_big_quiet_on; simp only [Act.put, List.setIfInBounds_toArray, List.set_cons_succ, List.set_cons_zero]) | (go_big_quiet_want; refine quiet_cat rfl rfl rfl (by simp only [ByteArray.size_append, ByteArray.size_mk']; simp; omega) ?_; go_big_quiet_on; simp only [Act.put, List.setIfInBounds_toArray, List.set_cons_succ, List.set_cons_zero]) | go_big_quiet_step (first
    | (go_at_call 55; with_reducible exact word_ext _)
    | (go_at_call 23; with_reducible exact seen_ext ht _ hv)
    | (go_at_call 56; with_reducible exact marks_ext ht _ i4 i5)
    | (go_at_call 56; with_reducible exact marks_ext ht _ i6 i7)
    | (go_at_call 42; with_reducible exact itoa_ext ht _ (by assumption))))
  refine wpQuiet_nil ?_
  rintro _ ⟨⟨w2, hb2⟩, rfl⟩
  have hL := hL.call hb2
  clear hb2
  go_wp2_with (first | ((with_reducible refine gAlloc rfl rfl ?_); (refine ev_allocL rfl hL rfl (by first | exact cells_agg _ rfl | exact cells_int _ _ | exact cells_str _ | exact cells_bool _ | exact cells_slice _ _ _ | exact cells_ptr _ | exact cells_map _ | exact cells_func _ _ _ | exact cells_nilFunc | exact cells_one (by assumption) (by assumption)) ?_; clear hL; intro gq wq hL)) | ((with_reducible refine gBox rfl rfl ?_); (refine ev_boxL rfl hL rfl rfl (by first | exact cells_agg _ rfl | exact cells_int _ _ | exact cells_str _ | exact cells_bool _ | exact cells_slice _ _ _ | exact cells_ptr _ | exact cells_map _ | exact cells_func _ _ _ | exact cells_nilFunc | exact cells_one (by assumption) (by assumption)) ?_; clear hL; intro gq wq hL)) | ((with_reducible refine gLoad rfl rfl ?_); (first | (refine ev_load1L rfl hL rfl rfl HasV.mem (by rfl) ?_) | (refine ev_loadAllL rfl hL rfl rfl HasV.mem (by rfl) ?_) | (refine ev_loadL rfl hL rfl rfl HasV.mem SegC.seg ?_))) | ((with_reducible refine gStore rfl rfl ?_); (first | (refine ev_storeC rfl hL rfl rfl rfl (by first | exact cells_agg _ rfl | exact cells_int _ _ | exact cells_str _ | exact cells_bool _ | exact cells_slice _ _ _ | exact cells_ptr _ | exact cells_map _ | exact cells_func _ _ _ | exact cells_nilFunc | exact cells_one (by assumption) (by assumption)) (by rfl) ?_) | (refine ev_storeAllC rfl hL rfl rfl rfl (by first | exact cells_agg _ rfl | exact cells_int _ _ | exact cells_str _ | exact cells_bool _ | exact cells_slice _ _ _ | exact cells_ptr _ | exact cells_map _ | exact cells_func _ _ _ | exact cells_nilFunc | exact cells_one (by assumption) (by assumption)) (by rfl) (by rfl) ?_)); clear hL; intro wq hL) | ((with_reducible refine gLoadG rfl rfl ?_ ?_); (exact wanted_some rfl rfl rfl (by with_reducible rfl)); (first | (refine ev_load1G (wanted_some rfl rfl rfl rfl) hL rfl rfl HasV.mem (by rfl) ?_) | (refine ev_loadAllG (wanted_some rfl rfl rfl rfl) hL rfl rfl HasV.mem (by rfl) ?_) | (refine ev_loadG_ (wanted_some rfl rfl rfl rfl) hL rfl rfl HasV.mem SegC.seg ?_))))
  have ht := ht0.below hL.below
  refine wp_region_ext (by kernel_rfl) (by kernel_rfl) ?_
  repeat (first | (go_big_quiet_want; (first | refine quiet_load1L hL rfl rfl HasV.mem (by rfl) ?_ | refine quiet_loadAllL hL rfl rfl HasV.mem (by rfl) ?_ | refine quiet_loadL hL rfl rfl HasV.mem SegC.seg ?_); go_big_quiet_on; simp only [Act.put, List.setIfInBounds_toArray, List.set_cons_succ, List.set_cons_zero]) | (go_big_quiet_want; refine quiet_cat rfl rfl rfl (by simp only [ByteArray.size_append, ByteArray.size_mk']; simp; omega) ?_; go_big_quiet_on; simp only [Act.put, List.setIfInBounds_toArray, List.set_cons_succ, List.set_cons_zero]) | go_big_quiet_step (first
    | (go_at_call 55; with_reducible exact word_ext _)
    | (go_at_call 23; with_reducible exact seen_ext ht _ hv)
    | (go_at_call 56; with_reducible exact marks_ext ht _ i4 i5)
    | (go_at_call 56; with_reducible exact marks_ext ht _ i6 i7)
    | (go_at_call 42; with_reducible exact itoa_ext ht _ (by assumption))))
  refine wpQuiet_nil ?_
  rintro _ ⟨⟨w3, hb3⟩, rfl⟩
  have hL := hL.call hb3
  clear hb3
  go_wp2_with (first | ((with_reducible refine gAlloc rfl rfl ?_); (refine ev_allocL rfl hL rfl (by first | exact cells_agg _ rfl | exact cells_int _ _ | exact cells_str _ | exact cells_bool _ | exact cells_slice _ _ _ | exact cells_ptr _ | exact cells_map _ | exact cells_func _ _ _ | exact cells_nilFunc | exact cells_one (by assumption) (by assumption)) ?_; clear hL; intro gq wq hL)) | ((with_reducible refine gBox rfl rfl ?_); (refine ev_boxL rfl hL rfl rfl (by first | exact cells_agg _ rfl | exact cells_int _ _ | exact cells_str _ | exact cells_bool _ | exact cells_slice _ _ _ | exact cells_ptr _ | exact cells_map _ | exact cells_func _ _ _ | exact cells_nilFunc | exact cells_one (by assumption) (by assumption)) ?_; clear hL; intro gq wq hL)) | ((with_reducible refine gLoad rfl rfl ?_); (first | (refine ev_load1L rfl hL rfl rfl HasV.mem (by rfl) ?_) | (refine ev_loadAllL rfl hL rfl rfl HasV.mem (by rfl) ?_) | (refine ev_loadL rfl hL rfl rfl HasV.mem SegC.seg ?_))) | ((with_reducible refine gStore rfl rfl ?_); (first | (refine ev_storeC rfl hL rfl rfl rfl (by first | exact cells_agg _ rfl | exact cells_int _ _ | exact cells_str _ | exact cells_bool _ | exact cells_slice _ _ _ | exact cells_ptr _ | exact cells_map _ | exact cells_func _ _ _ | exact cells_nilFunc | exact cells_one (by assumption) (by assumption)) (by rfl) ?_) | (refine ev_storeAllC rfl hL rfl rfl rfl (by first | exact cells_agg _ rfl | exact cells_int _ _ | exact cells_str _ | exact cells_bool _ | exact cells_slice _ _ _ | exact cells_ptr _ | exact cells_map _ | exact cells_func _ _ _ | exact cells_nilFunc | exact cells_one (by assumption) (by assumption)) (by rfl) (by rfl) ?_)); clear hL; intro wq hL) | ((with_reducible refine gLoadG rfl rfl ?_ ?_); (exact wanted_some rfl rfl rfl (by with_reducible rfl)); (first | (refine ev_load1G (wanted_some rfl rfl rfl rfl) hL rfl rfl HasV.mem (by rfl) ?_) | (refine ev_loadAllG (wanted_some rfl rfl rfl rfl) hL rfl rfl HasV.mem (by rfl) ?_) | (refine ev_loadG_ (wanted_some rfl rfl rfl rfl) hL rfl rfl HasV.mem SegC.seg ?_))))
  go_ret
  refine ⟨ret_s ?_, hL.below⟩
  unfold Msg.textB Msg.headT
  rw [if_neg (by rw [HK.out]; decide), if_pos HK.out]
set_option maxHeartbeats 2000000 in
set_option maxRecDepth 100000 in
theorem msg_text3 (m : Msg) (w : World) (h : m.wf) (ht0 : Tb w) (hk : m.kind = 3) :
    Calls Tryd.prog 21 #[m.val] w fun e w' => e = .returned (.string m.textB) ∧ Below w.heap.size w w' := by
  have hL := Loc.nil w NoM
  have s1 := h.src.size
  have s2 := h.dst.size
  have s3 := h.vol.size
  have s4 := h.index.size
  have s5 := h.total.size
  have s6 := m.seen.seenB_size h.seen
  have s7 := m.base.text_size h.bb h.bn
  have s8 := m.mark.text_size h.mb h.mn
  have s9 := wordB_size m.kind
  have i10 : I64 (m.data.size : Int) := by have := h.data; unfold I64; omega
  have s10 := i10.size
  obtain ⟨i0, i1, i2, i3, i4, i5, i6, i7, i8, i9, hv, -⟩ := h
  have b1 : (m.kind == 1) = false := by simp [hk]
  have b2 : (m.kind == 2) = false := by simp [hk]
  have b3 : (m.kind == 3) = true := by simp [hk]
  have b4 : (m.kind == 4) = false := by simp [hk]
  have HK := Lib.hid hk
  clear hk
  go_enter Tryd.func21, Tryd.ntmps21
  go_wp2_with (first | ((with_reducible refine gAlloc rfl rfl ?_); (refine ev_allocL rfl hL rfl (by first | exact cells_agg _ rfl | exact cells_int _ _ | exact cells_str _ | exact cells_bool _ | exact cells_slice _ _ _ | exact cells_ptr _ | exact cells_map _ | exact cells_func _ _ _ | exact cells_nilFunc | exact cells_one (by assumption) (by assumption)) ?_; clear hL; intro gq wq hL)) | ((with_reducible refine gBox rfl rfl ?_); (refine ev_boxL rfl hL rfl rfl (by first | exact cells_agg _ rfl | exact cells_int _ _ | exact cells_str _ | exact cells_bool _ | exact cells_slice _ _ _ | exact cells_ptr _ | exact cells_map _ | exact cells_func _ _ _ | exact cells_nilFunc | exact cells_one (by assumption) (by assumption)) ?_; clear hL; intro gq wq hL)) | ((with_reducible refine gLoad rfl rfl ?_); (first | (refine ev_load1L rfl hL rfl rfl HasV.mem (by rfl) ?_) | (refine ev_loadAllL rfl hL rfl rfl HasV.mem (by rfl) ?_) | (refine ev_loadL rfl hL rfl rfl HasV.mem SegC.seg ?_))) | ((with_reducible refine gStore rfl rfl ?_); (first | (refine ev_storeC rfl hL rfl rfl rfl (by first | exact cells_agg _ rfl | exact cells_int _ _ | exact cells_str _ | exact cells_bool _ | exact cells_slice _ _ _ | exact cells_ptr _ | exact cells_map _ | exact cells_func _ _ _ | exact cells_nilFunc | exact cells_one (by assumption) (by assumption)) (by rfl) ?_) | (refine ev_storeAllC rfl hL rfl rfl rfl (by first | exact cells_agg _ rfl | exact cells_int _ _ | exact cells_str _ | exact cells_bool _ | exact cells_slice _ _ _ | exact cells_ptr _ | exact cells_map _ | exact cells_func _ _ _ | exact cells_nilFunc | exact cells_one (by assumption) (by assumption)) (by rfl) (by rfl) ?_)); clear hL; intro wq hL) | ((with_reducible refine gLoadG rfl rfl ?_ ?_); (exact wanted_some rfl rfl rfl (by with_reducible rfl)); (first | (refine ev_load1G (wanted_some rfl rfl rfl rfl) hL rfl rfl HasV.mem (by rfl) ?_) | (refine ev_loadAllG (wanted_some rfl rfl rfl rfl) hL rfl rfl HasV.mem (by rfl) ?_) | (refine ev_loadG_ (wanted_some rfl rfl rfl rfl) hL rfl rfl HasV.mem SegC.seg ?_))))
  have ht := ht0.below hL.below
  refine wp_region_ext (by kernel_rfl) (by kernel_rfl) ?_
  repeat (first | (go_big_quiet_want; (first | refine quiet_load1L hL rfl rfl HasV.mem (by rfl) ?_ | refine quiet_loadAllL hL rfl rfl HasV.mem (by rfl) ?_ | refine quiet_loadL hL rfl rfl HasV.mem SegC.seg ?_); go_big_quiet_on; simp only [Act.put, List.setIfInBounds_toArray, List.set_cons_succ, List.set_cons_zero]) | (go_big_quiet_want; refine quiet_cat rfl rfl rfl (by simp only [ByteArray.size_append, ByteArray.size_mk']; simp; omega) ?_; go_big_quiet_on; simp only [Act.put, List.setIfInBounds_toArray, List.set_cons_succ, List.set_cons_zero]) | go_big_quiet_step (first
    | (go_at_call 55; with_reducible exact word_ext _)
    | (go_at_call 23; with_reducible exact seen_ext ht _ hv)
    | (go_at_call 56; with_reducible exact marks_ext ht _ i4 i5)
    | (go_at_call 56; with_reducible exact marks_ext ht _ i6 i7)
    | (go_at_call 42; with_reducible exact itoa_ext ht _ (by assumption))))
  refine wpQuiet_nil ?_
  rintro _ ⟨⟨w2, hb2⟩, rfl⟩
  have hL := hL.call hb2
  clear hb2
  go_wp2_with (first | ((with_reducible refine gAlloc rfl rfl ?_); (refine ev_allocL rfl hL rfl (by first | exact cells_agg _ rfl | exact cells_int _ _ | exact cells_str _ | exact cells_bool _ | exact cells_slice _ _ _ | exact cells_ptr _ | exact cells_map _ | exact cells_func _ _ _ | exact cells_nilFunc | exact cells_one (by assumption) (by assumption)) ?_; clear hL; intro gq wq hL)) | ((with_reducible refine gBox rfl rfl ?_); (refine ev_boxL rfl hL rfl rfl (by first | exact cells_agg _ rfl | exact cells_int _ _ | exact cells_str _ | exact cells_bool _ | exact cells_slice _ _ _ | exact cells_ptr _ | exact cells_map _ | exact cells_func _ _ _ | exact cells_nilFunc | exact cells_one (by assumption) (by assumption)) ?_; clear hL; intro gq wq hL)) | ((with_reducible refine gLoad rfl rfl ?_); (first | (refine ev_load1L rfl hL rfl rfl HasV.mem (by rfl) ?_) | (refine ev_loadAllL rfl hL rfl rfl HasV.mem (by rfl) ?_) | (refine ev_loadL rfl hL rfl rfl HasV.mem SegC.seg ?_))) | ((with_reducible refine gStore rfl rfl ?_); (first | (refine ev_storeC rfl hL rfl rfl rfl (by first | exact cells_agg _ rfl | exact cells_int _ _ | exact cells_str _ | exact cells_bool _ | exact cells_slice _ _ _ | exact cells_ptr _ | exact cells_map _ | exact cells_func _ _ _ | exact cells_nilFunc | exact cells_one (by assumption) (by assumption)) (by rfl) ?_) | (refine ev_storeAllC rfl hL rfl rfl rfl (by first | exact cells_agg _ rfl | exact cells_int _ _ | exact cells_str _ | exact cells_bool _ | exact cells_slice _ _ _ | exact cells_ptr _ | exact cells_map _ | exact cells_func _ _ _ | exact cells_nilFunc | exact cells_one (by assumption) (by assumption)) (by rfl) (by rfl) ?_)); clear hL; intro wq hL) | ((with_reducible refine gLoadG rfl rfl ?_ ?_); (exact wanted_some rfl rfl rfl (by with_reducible rfl)); (first | (refine ev_load1G (wanted_some rfl rfl rfl rfl) hL rfl rfl HasV.mem (by rfl) ?_) | (refine ev_loadAllG (wanted_some rfl rfl rfl rfl) hL rfl rfl HasV.mem (by rfl) ?_) | (refine ev_loadG_ (wanted_some rfl rfl rfl rfl) hL rfl rfl HasV.mem SegC.seg ?_))))
  go_ret
  refine ⟨ret_s ?_, hL.below⟩
  unfold Msg.textB Msg.headT
  rw [if_neg (by rw [HK.out]; decide), if_neg (by rw [HK.out]; decide), if_neg (by rw [HK.out]; decide)]
set_option maxHeartbeats 2000000 in
set_option maxRecDepth 100000 in
theorem msg_text4 (m : Msg) (w : World) (h : m.wf) (ht0 : Tb w) (hk : m.kind = 4) :
    Calls Tryd.prog 21 #[m.val] w fun e w' => e = .returned (.string m.textB) ∧ Below w.heap.size w w' := by
  have hL := Loc.nil w NoM
  have s1 := h.src.size
  have s2 := h.dst.size
  have s3 := h.vol.size
  have s4 := h.index.size
  have s5 := h.total.size
  have s6 := m.seen.seenB_size h.seen
  have s7 := m.base.text_size h.bb h.bn
  have s8 := m.mark.text_size h.mb h.mn
  have s9 := wordB_size m.kind
  have i10 : I64 (m.data.size : Int) := by have := h.data; unfold I64; omega
  have s10 := i10.size
  obtain ⟨i0, i1, i2, i3, i4, i5, i6, i7, i8, i9, hv, -⟩ := h
  have b1 : (m.kind == 1) = false := by simp [hk]
  have b2 : (m.kind == 2) = false := by simp [hk]
  have b3 : (m.kind == 3) = false := by simp [hk]
  have b4 : (m.kind == 4) = true := by simp [hk]
  have HK := Lib.hid hk
  clear hk
  go_enter Tryd.func21, Tryd.ntmps21
  go_wp2_with (first | ((with_reducible refine gAlloc rfl rfl ?_); (refine ev_allocL rfl hL rfl (by first | exact cells_agg _ rfl | exact cells_int _ _ | exact cells_str _ | exact cells_bool _ | exact cells_slice _ _ _ | exact cells_ptr _ | exact cells_map _ | exact cells_func _ _ _ | exact cells_nilFunc | exact cells_one (by assumption) (by assumption)) ?_; clear hL; intro gq wq hL)) | ((with_reducible refine gBox rfl rfl ?_); (refine ev_boxL rfl hL rfl rfl (by first | exact cells_agg _ rfl | exact cells_int _ _ | exact cells_str _ | exact cells_bool _ | exact cells_slice _ _ _ | exact cells_ptr _ | exact cells_map _ | exact cells_func _ _ _ | exact cells_nilFunc | exact cells_one (by assumption) (by assumption)) ?_; clear hL; intro gq wq hL)) | ((with_reducible refine gLoad rfl rfl ?_); (first | (refine ev_load1L rfl hL rfl rfl HasV.mem (by rfl) ?_) | (refine ev_loadAllL rfl hL rfl rfl HasV.mem (by rfl) ?_) | (refine ev_loadL rfl hL rfl rfl HasV.mem SegC.seg ?_))) | ((with_reducible refine gStore rfl rfl ?_); (first | (refine ev_storeC rfl hL rfl rfl rfl (by first | exact cells_agg _ rfl | exact cells_int _ _ | exact cells_str _ | exact cells_bool _ | exact cells_slice _ _ _ | exact cells_ptr _ | exact cells_map _ | exact cells_func _ _ _ | exact cells_nilFunc | exact cells_one (by assumption) (by assumption)) (by rfl) ?_) | (refine ev_storeAllC rfl hL rfl rfl rfl (by first | exact cells_agg _ rfl | exact cells_int _ _ | exact cells_str _ | exact cells_bool _ | exact cells_slice _ _ _ | exact cells_ptr _ | exact cells_map _ | exact cells_func _ _ _ | exact cells_nilFunc | exact cells_one (by assumption) (by assumption)) (by rfl) (by rfl) ?_)); clear hL; intro wq hL) | ((with_reducible refine gLoadG rfl rfl ?_ ?_); (exact wanted_some rfl rfl rfl (by with_reducible rfl)); (first | (refine ev_load1G (wanted_some rfl rfl rfl rfl) hL rfl rfl HasV.mem (by rfl) ?_) | (refine ev_loadAllG (wanted_some rfl rfl rfl rfl) hL rfl rfl HasV.mem (by rfl) ?_) | (refine ev_loadG_ (wanted_some rfl rfl rfl rfl) hL rfl rfl HasV.mem SegC.seg ?_))))
  have ht := ht0.below hL.below
  refine wp_region_ext (by kernel_rfl) (by kernel_rfl) ?_
  repeat (first | (go_big_quiet_want; (first | refine quiet_load1L hL rfl rfl HasV.mem (by rfl) ?_ | refine quiet_loadAllL hL rfl rfl HasV.mem (by rfl) ?_ | refine quiet_loadL hL rfl rfl HasV.mem SegC.seg ?_); go_big_quiet_on; simp only [Act.put, List.setIfInBounds_toArray, List.set_cons_succ, List.set_cons_zero]) | (go_big_quiet_want; refine quiet_cat rfl rfl rfl (by simp only [ByteArray.size_append, ByteArray.size_mk']; simp; omega) ?_; go_big_quiet_on; simp only [Act.put, List.setIfInBounds_toArray, List.set_cons_succ, List.set_cons_zero]) | go_big_quiet_step (first
    | (go_at_call 55; with_reducible exact word_ext _)
    | (go_at_call 23; with_reducible exact seen_ext ht _ hv)
    | (go_at_call 56; with_reducible exact marks_ext ht _ i4 i5)
    | (go_at_call 56; with_reducible exact marks_ext ht _ i6 i7)
    | (go_at_call 42; with_reducible exact itoa_ext ht _ (by assumption))))
  refine wpQuiet_nil ?_
  rintro _ ⟨⟨w2, hb2⟩, rfl⟩
  have hL := hL.call hb2
  clear hb2
  go_wp2_with (first
    | (go_at_call 56; have hq := fun w h => msg_marks m.mark w i6 i7 h; (with_reducible refine (hq _ (ht0.below hL.below)).mono ?_); rintro e w3 ⟨rfl, hb3⟩; have hL := hL.call hb3; clear hb3 hq)
    | ((with_reducible refine gCat rfl rfl ?_); refine ev_cat rfl rfl rfl rfl (by simp only [ByteArray.size_append, ByteArray.size_mk']; simp; omega) ?_)
    | ((with_reducible refine gAlloc rfl rfl ?_); (refine ev_allocL rfl hL rfl (by first | exact cells_agg _ rfl | exact cells_int _ _ | exact cells_str _ | exact cells_bool _ | exact cells_slice _ _ _ | exact cells_ptr _ | exact cells_map _ | exact cells_func _ _ _ | exact cells_nilFunc | exact cells_one (by assumption) (by assumption)) ?_; clear hL; intro gq wq hL)) | ((with_reducible refine gBox rfl rfl ?_); (refine ev_boxL rfl hL rfl rfl (by first | exact cells_agg _ rfl | exact cells_int _ _ | exact cells_str _ | exact cells_bool _ | exact cells_slice _ _ _ | exact cells_ptr _ | exact cells_map _ | exact cells_func _ _ _ | exact cells_nilFunc | exact cells_one (by assumption) (by assumption)) ?_; clear hL; intro gq wq hL)) | ((with_reducible refine gLoad rfl rfl ?_); (first | (refine ev_load1L rfl hL rfl rfl HasV.mem (by rfl) ?_) | (refine ev_loadAllL rfl hL rfl rfl HasV.mem (by rfl) ?_) | (refine ev_loadL rfl hL rfl rfl HasV.mem SegC.seg ?_))) | ((with_reducible refine gStore rfl rfl ?_); (first | (refine ev_storeC rfl hL rfl rfl rfl (by first | exact cells_agg _ rfl | exact cells_int _ _ | exact cells_str _ | exact cells_bool _ | exact cells_slice _ _ _ | exact cells_ptr _ | exact cells_map _ | exact cells_func _ _ _ | exact cells_nilFunc | exact cells_one (by assumption) (by assumption)) (by rfl) ?_) | (refine ev_storeAllC rfl hL rfl rfl rfl (by first | exact cells_agg _ rfl | exact cells_int _ _ | exact cells_str _ | exact cells_bool _ | exact cells_slice _ _ _ | exact cells_ptr _ | exact cells_map _ | exact cells_func _ _ _ | exact cells_nilFunc | exact cells_one (by assumption) (by assumption)) (by rfl) (by rfl) ?_)); clear hL; intro wq hL) | ((with_reducible refine gLoadG rfl rfl ?_ ?_); (exact wanted_some rfl rfl rfl (by with_reducible rfl)); (first | (refine ev_load1G (wanted_some rfl rfl rfl rfl) hL rfl rfl HasV.mem (by rfl) ?_) | (refine ev_loadAllG (wanted_some rfl rfl rfl rfl) hL rfl rfl HasV.mem (by rfl) ?_) | (refine ev_loadG_ (wanted_some rfl rfl rfl rfl) hL rfl rfl HasV.mem SegC.seg ?_))))
  go_ret
  refine ⟨ret_s ?_, hL.below⟩
  unfold Msg.textB Msg.headT
  rw [if_neg (by rw [HK.out]; decide), if_neg (by rw [HK.out]; decide), if_pos HK.out]
set_option maxHeartbeats 2000000 in
set_option maxRecDepth 100000 in
theorem msg_text0 (m : Msg) (w : World) (h : m.wf) (ht0 : Tb w) (h1 : ¬ m.kind = 1) (h2 : ¬ m.kind = 2) (h3 : ¬ m.kind = 3) (h4 : ¬ m.kind = 4) :
    Calls Tryd.prog 21 #[m.val] w fun e w' => e = .returned (.string m.textB) ∧ Below w.heap.size w w' := by
  have hL := Loc.nil w NoM
  have s1 := h.src.size
  have s2 := h.dst.size
  have s3 := h.vol.size
  have s4 := h.index.size
  have s5 := h.total.size
  have s6 := m.seen.seenB_size h.seen
  have s7 := m.base.text_size h.bb h.bn
  have s8 := m.mark.text_size h.mb h.mn
  have s9 := wordB_size m.kind
  have i10 : I64 (m.data.size : Int) := by have := h.data; unfold I64; omega
  have s10 := i10.size
  obtain ⟨i0, i1, i2, i3, i4, i5, i6, i7, i8, i9, hv, -⟩ := h
  have b1 : (m.kind == 1) = false := by simp [h1]
  have b2 : (m.kind == 2) = false := by simp [h2]
  have b3 : (m.kind == 3) = false := by simp [h3]
  have b4 : (m.kind == 4) = false := by simp [h4]
  have HK := Lib.hid (show m.kind ≠ 1 ∧ m.kind ≠ 2 ∧ m.kind ≠ 4 from ⟨h1, h2, h4⟩)
  clear h1 h2 h3 h4
  go_enter Tryd.func21, Tryd.ntmps21
  go_wp2_with (first | ((with_reducible refine gAlloc rfl rfl ?_); (refine ev_allocL rfl hL rfl (by first | exact cells_agg _ rfl | exact cells_int _ _ | exact cells_str _ | exact cells_bool _ | exact cells_slice _ _ _ | exact cells_ptr _ | exact cells_map _ | exact cells_func _ _ _ | exact cells_nilFunc | exact cells_one (by assumption) (by assumption)) ?_; clear hL; intro gq wq hL)) | ((with_reducible refine gBox rfl rfl ?_); (refine ev_boxL rfl hL rfl rfl (by first | exact cells_agg _ rfl | exact cells_int _ _ | exact cells_str _ | exact cells_bool _ | exact cells_slice _ _ _ | exact cells_ptr _ | exact cells_map _ | exact cells_func _ _ _ | exact cells_nilFunc | exact cells_one (by assumption) (by assumption)) ?_; clear hL; intro gq wq hL)) | ((with_reducible refine gLoad rfl rfl ?_); (first | (refine ev_load1L rfl hL rfl rfl HasV.mem (by rfl) ?_) | (refine ev_loadAllL rfl hL rfl rfl HasV.mem (by rfl) ?_) | (refine ev_loadL rfl hL rfl rfl HasV.mem SegC.seg ?_))) | ((with_reducible refine gStore rfl rfl ?_); (first | (refine ev_storeC rfl hL rfl rfl rfl (by first | exact cells_agg _ rfl | exact cells_int _ _ | exact cells_str _ | exact cells_bool _ | exact cells_slice _ _ _ | exact cells_ptr _ | exact cells_map _ | exact cells_func _ _ _ | exact cells_nilFunc | exact cells_one (by assumption) (by assumption)) (by rfl) ?_) | (refine ev_storeAllC rfl hL rfl rfl rfl (by first | exact cells_agg _ rfl | exact cells_int _ _ | exact cells_str _ | exact cells_bool _ | exact cells_slice _ _ _ | exact cells_ptr _ | exact cells_map _ | exact cells_func _ _ _ | exact cells_nilFunc | exact cells_one (by assumption) (by assumption)) (by rfl) (by rfl) ?_)); clear hL; intro wq hL) | ((with_reducible refine gLoadG rfl rfl ?_ ?_); (exact wanted_some rfl rfl rfl (by with_reducible rfl)); (first | (refine ev_load1G (wanted_some rfl rfl rfl rfl) hL rfl rfl HasV.mem (by rfl) ?_) | (refine ev_loadAllG (wanted_some rfl rfl rfl rfl) hL rfl rfl HasV.mem (by rfl) ?_) | (refine ev_loadG_ (wanted_some rfl rfl rfl rfl) hL rfl rfl HasV.mem SegC.seg ?_))))
  have ht := ht0.below hL.below
  refine wp_region_ext (by kernel_rfl) (by kernel_rfl) ?_
  repeat (first | (go_big_quiet_want; (first | refine quiet_load1L hL rfl rfl HasV.mem (by rfl) ?_ | refine quiet_loadAllL hL rfl rfl HasV.mem (by rfl) ?_ | refine quiet_loadL hL rfl rfl HasV.mem SegC.seg ?_); go_big_quiet_on; simp only [Act.put, List.setIfInBounds_toArray, List.set_cons_succ, List.set_cons_zero]) | (go_big_quiet_want; refine quiet_cat rfl rfl rfl (by simp only [ByteArray.size_append, ByteArray.size_mk']; simp; omega) ?_; go_big_quiet_on; simp only [Act.put, List.setIfInBounds_toArray, List.set_cons_succ, List.set_cons_zero]) | go_big_quiet_step (first
    | (go_at_call 55; with_reducible exact word_ext _)
    | (go_at_call 23; with_reducible exact seen_ext ht _ hv)
    | (go_at_call 56; with_reducible exact marks_ext ht _ i4 i5)
    | (go_at_call 56; with_reducible exact marks_ext ht _ i6 i7)
    | (go_at_call 42; with_reducible exact itoa_ext ht _ (by assumption))))
  refine wpQuiet_nil ?_
  rintro _ ⟨⟨w2, hb2⟩, rfl⟩
  have hL := hL.call hb2
  clear hb2
  go_wp2_with (first | ((with_reducible refine gAlloc rfl rfl ?_); (refine ev_allocL rfl hL rfl (by first | exact cells_agg _ rfl | exact cells_int _ _ | exact cells_str _ | exact cells_bool _ | exact cells_slice _ _ _ | exact cells_ptr _ | exact cells_map _ | exact cells_func _ _ _ | exact cells_nilFunc | exact cells_one (by assumption) (by assumption)) ?_; clear hL; intro gq wq hL)) | ((with_reducible refine gBox rfl rfl ?_); (refine ev_boxL rfl hL rfl rfl (by first | exact cells_agg _ rfl | exact cells_int _ _ | exact cells_str _ | exact cells_bool _ | exact cells_slice _ _ _ | exact cells_ptr _ | exact cells_map _ | exact cells_func _ _ _ | exact cells_nilFunc | exact cells_one (by assumption) (by assumption)) ?_; clear hL; intro gq wq hL)) | ((with_reducible refine gLoad rfl rfl ?_); (first | (refine ev_load1L rfl hL rfl rfl HasV.mem (by rfl) ?_) | (refine ev_loadAllL rfl hL rfl rfl HasV.mem (by rfl) ?_) | (refine ev_loadL rfl hL rfl rfl HasV.mem SegC.seg ?_))) | ((with_reducible refine gStore rfl rfl ?_); (first | (refine ev_storeC rfl hL rfl rfl rfl (by first | exact cells_agg _ rfl | exact cells_int _ _ | exact cells_str _ | exact cells_bool _ | exact cells_slice _ _ _ | exact cells_ptr _ | exact cells_map _ | exact cells_func _ _ _ | exact cells_nilFunc | exact cells_one (by assumption) (by assumption)) (by rfl) ?_) | (refine ev_storeAllC rfl hL rfl rfl rfl (by first | exact cells_agg _ rfl | exact cells_int _ _ | exact cells_str _ | exact cells_bool _ | exact cells_slice _ _ _ | exact cells_ptr _ | exact cells_map _ | exact cells_func _ _ _ | exact cells_nilFunc | exact cells_one (by assumption) (by assumption)) (by rfl) (by rfl) ?_)); clear hL; intro wq hL) | ((with_reducible refine gLoadG rfl rfl ?_ ?_); (exact wanted_some rfl rfl rfl (by with_reducible rfl)); (first | (refine ev_load1G (wanted_some rfl rfl rfl rfl) hL rfl rfl HasV.mem (by rfl) ?_) | (refine ev_loadAllG (wanted_some rfl rfl rfl rfl) hL rfl rfl HasV.mem (by rfl) ?_) | (refine ev_loadG_ (wanted_some rfl rfl rfl rfl) hL rfl rfl HasV.mem SegC.seg ?_))))
  go_ret
  refine ⟨ret_s ?_, hL.below⟩
  unfold Msg.textB Msg.headT
  rw [if_neg HK.out.1, if_neg HK.out.2.1, if_neg HK.out.2.2]
end Go.Proofs.YtbkffeabikjnhaaDoor

/- The Msg laws' argument: a message. What the laws' listed tables give: Itoa's. -/
namespace Go.Proofs.YtbkffeabikjnhaaDoor
open Go.ChangeShapes Go.WideShapes Go.RowKit Go.Deep

def msgLeaves : List Leaf := List.replicate 18 (.int .i64) ++ [.str]
theorem leavesMsg : leaves Tryd.prog 6 41 = some msgLeaves := by kernel_rfl
theorem i64_wf {n : Int} (h : (Lit.int .i64 n).wf = true) : I64 n := by
  have h1 : IntKind.i64.min ≤ n ∧ n ≤ IntKind.i64.max := by simpa [Lit.wf] using h
  exact h1
theorem fits_msg {cs : List Value} (h : Fits msgLeaves cs) : ∃ m : Msg, cs = m.cells ∧ (m.data.size ≤ 4096 → m.wf) ∧ m.data.size ≤ maxLen := by
  have hl := h.length
  match cs, hl with
  | [c0, c1, c2, c3, c4, c5, c6, c7, c8, c9, c10, c11, c12, c13, c14, c15, c16, c17, c18], _ =>
    obtain ⟨⟨n0, rfl, w0⟩, ⟨n1, rfl, w1⟩, ⟨n2, rfl, w2⟩, ⟨n3, rfl, w3⟩, ⟨n4, rfl, w4⟩, ⟨n5, rfl, w5⟩, ⟨n6, rfl, w6⟩, ⟨n7, rfl, w7⟩, ⟨n8, rfl, w8⟩, ⟨n9, rfl, w9⟩, ⟨n10, rfl, w10⟩, ⟨n11, rfl, w11⟩, ⟨n12, rfl, w12⟩, ⟨n13, rfl, w13⟩, ⟨n14, rfl, w14⟩, ⟨n15, rfl, w15⟩, ⟨n16, rfl, w16⟩, ⟨n17, rfl, w17⟩, ⟨s, rfl, ws⟩, -⟩ := h
    refine ⟨⟨n0, n1, n2, n3, ⟨n4, n5⟩, ⟨n6, n7⟩, n8, n9, ⟨n10, n11, n12, n13, n14, n15, n16, n17⟩, s⟩, rfl, fun hd => ⟨i64_wf w0, i64_wf w1, i64_wf w2, i64_wf w3, i64_wf w4, i64_wf w5, i64_wf w6, i64_wf w7, i64_wf w8, i64_wf w9, fun k hk => ?_, hd⟩, ws⟩
    have e : k = 0 ∨ k = 1 ∨ k = 2 ∨ k = 3 ∨ k = 4 ∨ k = 5 ∨ k = 6 ∨ k = 7 := by omega
    rcases e with rfl | rfl | rfl | rfl | rfl | rfl | rfl | rfl
    · exact i64_wf w10
    · exact i64_wf w11
    · exact i64_wf w12
    · exact i64_wf w13
    · exact i64_wf w14
    · exact i64_wf w15
    · exact i64_wf w16
    · exact i64_wf w17
theorem open_msg {H : Type} {enc : TypeId × Value → H} {w : World} {base : Nat} {spare : Nat → Bool} {held : Bool} {fuel : Nat} {cs : Array Value} {x : DataW H × List MemPlace} (h : DataW.trod enc Tryd.prog w base spare held fuel 41 cs.toList = some x) :
    ∃ m : Msg, Value.agg cs = m.val ∧ (m.data.size ≤ 4096 → m.wf) ∧ m.data.size ≤ maxLen := by
  obtain ⟨m, hm, hw⟩ := fits_msg (leaves_fits 6 _ _ _ _ _ leavesMsg h)
  refine ⟨m, ?_, hw⟩
  have e : cs = m.cells.toArray := by rw [← hm]
  rw [e]
  rfl
/-- The rows' list of laid tables. -/
abbrev laidL : List (String × DataW Unit) := [("math/bits.deBruijn32tab", Rows.laid_math_bits_deBruijn32tab), ("math/bits.deBruijn64tab", Rows.laid_math_bits_deBruijn64tab), ("internal/strconv.uint64pow10", Rows.laid_internal_strconv_uint64pow10)]
theorem tab_data : (Rows.laid_internal_strconv_uint64pow10 : DataW Unit) = Lib.tabData .u64 Lib.pow10Tab := by
  unfold Rows.laid_internal_strconv_uint64pow10 Lib.tabData Lib.pow10Tab
  rfl
theorem tb_of_laid {W : World} (h : laidMetH Tryd.prog laidL W) : Tb W := by
  rw [MakeChecks.laidMetH_plain _ _ _ (by kernel_rfl)] at h
  obtain ⟨ps, ⟨_, _, _, _, _, _, _, _, _, _, ⟨_, _, _, _, _, _, _, _, _, _, ⟨g, t, cs, fuel, p, q, hg, hty, hvar, hd, _, _⟩, _⟩, _⟩, _⟩ := h
  obtain rfl := Option.some.inj ((show Tryd.prog.globalNamed "internal/strconv.uint64pow10" = some 0 by kernel_rfl).symm.trans hg)
  obtain rfl := Option.some.inj ((show (Tryd.prog.globals[0]?).map (·.type) = some 169 by kernel_rfl).symm.trans hty)
  rw [tab_data] at hd
  unfold Tb Lib.TabIs
  rw [hvar, ← Lib.cells_of_tab Tryd.underlying169 Tryd.underlying72 (by kernel_rfl) (by kernel_rfl) hd]
end Go.Proofs.YtbkffeabikjnhaaDoor

/- Bytes looked at: contracts where they can be. -/
namespace Go.Proofs.YtbkffeabikjnhaaDoor
open Go.RowKit

/-- An eye at block g, on what is left. -/
def EyeAt (w : World) (g : Nat) (s : ByteArray) : Prop := Box w g #[.string s, .bool true] 143
theorem EyeAt.c0 {w : World} {g : Nat} {s : ByteArray} (h : EyeAt w g s) : w.cell? ⟨g, 0, none⟩ = some (.string s) := Box.cell h 0
theorem EyeAt.c1 {w : World} {g : Nat} {s : ByteArray} (h : EyeAt w g s) : w.cell? ⟨g, 1, none⟩ = some (.bool true) := Box.cell h 1
def eat (s : ByteArray) (n : Nat) : ByteArray := s.extract n s.size

theorem eye_dead (g : Nat) (s : ByteArray) (w : World) (h : EyeAt w g s) :
    Calls Tryd.prog 109 #[.pointer (some ⟨g, 0, none⟩)] w fun e w' => e = .returned (.bool false) ∧ w = w' := by
  have c1 := h.c1
  go_enter Tryd.func109, Tryd.ntmps109
  go_wp2
  go_ret
  exact ⟨rfl, rfl⟩

theorem eye_raw (g : Nat) (s : ByteArray) (n : Int) (w : World) (h : EyeAt w g s) (hn : 0 ≤ n) (hs : n ≤ s.size) (_ : s.size ≤ 100000000000) :
    Calls Tryd.prog 110 #[.pointer (some ⟨g, 0, none⟩), .int .i64 n] w fun e w' => e = .returned (.string (s.extract 0 n.toNat)) ∧ EyeAt w' g (eat s n.toNat) ∧ Put w w' g := by
  obtain ⟨n, rfl⟩ := Int.eq_ofNat_of_zero_le hn
  rw [Int.toNat_natCast]
  have c0 := h.c0
  have hf := Box.frozen h 0
  have hd : decide ((n : Int) < 0) = false := by simp
  have hge : decide ((s.size : Int) < (n : Int)) = false := by simp; omega
  go_enter Tryd.func110, Tryd.ntmps110
  go_wp2_with (go_at_call 109; (with_reducible refine (eye_dead g s _ h).mono ?_); rintro e w' ⟨rfl, rfl⟩)
  go_ret
  exact ⟨rfl, Box.set_ h 0 _ rfl, Box.setPut _ _ _ _⟩

/-- '[]byte(s)', named. -/
theorem ev_s2b {P : Program} {ops : Array Oper} {rest : List Oper} {o : Oper} {a : Act} {Q : Exit → Act → World → Prop} {W : World} (hgd : o.guard = none) (src dst e : TypeId) (x : Operand) (ho : o.op = .convert src dst x) {s : ByteArray} (hx : a.eval x = .string s)
    (hs : P.underlying src = some .string) (hd : P.underlying dst = some (.slice e)) (he : P.underlying e = some (.int .u8))
    (h : ∀ g c w1, Below W.heap.size W w1 → W.heap.size ≤ g → s.size ≤ c → (∀ j, j < s.size → w1.cell? ⟨g, j, none⟩ = some (.int .u8 (s.data.toList.getD j 0).toNat)) →
      wpList P ops Q rest (a.put o.dst (.slice (some ⟨g, 0, none⟩) s.size c)) w1) : wpList P ops Q (o :: rest) a W := by
  refine event hgd (v := .slice (some ⟨W.heap.size, 0, none⟩) s.size (grownCap W s.size 0 e)) (w1 := Lib.bytesWorld W e s) ?_ (h _ _ _ ⟨rfl, rfl, rfl, ?_, fun k hk => Lib.bytesWorld_at_old W e s k hk⟩ (Nat.le_refl _) (grownCap_ge W s.size 0 e) (fun j hj => Lib.bytesWorld_cell W e s j hj))
  · simp only [execOp, ho, hx, Sem.run_bind, Lib.run_convert_string_bytes W src dst e s hs hd he, Result.andThen_ok, Sem.run_pure]
  · rw [Lib.bytesWorld_size]; omega

def numOf (l : List UInt8) : Int := l.foldl (fun n c => n * 256 + (c.toNat : Int)) 0
theorem numOf_snoc (l : List UInt8) (c : UInt8) : numOf (l ++ [c]) = numOf l * 256 + (c.toNat : Int) := by simp [numOf]
theorem numOf_bound (l : List UInt8) : 0 ≤ numOf l ∧ numOf l < 256 ^ l.length := by
  have key : ∀ (k : List UInt8), 0 ≤ numOf k.reverse ∧ numOf k.reverse < 256 ^ k.length := by
    intro k
    induction k with
    | nil => simp [numOf]
    | cons c k ih =>
      rw [List.reverse_cons, numOf_snoc, List.length_cons, Int.pow_succ]
      have := c.toNat_lt
      omega
  have := key l.reverse
  simpa using this
theorem numOf_lt5 (l : List UInt8) (h : l.length ≤ 5) : numOf l < 1099511627776 := by
  have hb := (numOf_bound l).2
  have h2 : l.length = 0 ∨ l.length = 1 ∨ l.length = 2 ∨ l.length = 3 ∨ l.length = 4 ∨ l.length = 5 := by omega
  rcases h2 with h | h | h | h | h | h <;> (rw [h] at hb; simp at hb; omega)
theorem ofInt_i64 (a : Nat) (ha : a < 9223372036854775808) : (BitVec.ofInt 64 (a : Int)).toNat = a := by
  rw [BitVec.ofInt_natCast, BitVec.toNat_ofNat]; exact Nat.mod_eq_of_lt (by omega)
theorem i64_or_nat (a b : Nat) (ha : a < 9223372036854775808) (hb : b < 9223372036854775808) : bits .or .i64 (a : Int) (b : Int) = ((a ||| b : Nat) : Int) := by
  have hx : a ||| b < 2 ^ 63 := Nat.or_lt_two_pow (by omega) (by omega)
  show IntKind.i64.wrap ((BitVec.ofInt 64 (a : Int) ||| BitVec.ofInt 64 (b : Int)).toNat : Int) = _
  rw [BitVec.toNat_or, ofInt_i64 a ha, ofInt_i64 b hb, IntKind.wrap_i64]
  omega
theorem or_byte (x : Int) (c : UInt8) (h0 : 0 ≤ x) (h1 : x < 36028797018963968) : bits .or .i64 (x * 256) (c.toNat : Int) = x * 256 + (c.toNat : Int) := by
  obtain ⟨x, rfl⟩ := Int.eq_ofNat_of_zero_le h0
  have hc := c.toNat_lt
  have hx : x < 36028797018963968 := by omega
  have e : ((x : Int) * 256) = ((x * 256 : Nat) : Int) := by omega
  rw [e, i64_or_nat _ _ (by omega) (by omega)]
  have h2 := Nat.two_pow_add_eq_or_of_lt (i := 8) (b := c.toNat) (by omega) x
  rw [show x * 256 = 2 ^ 8 * x from by omega, ← h2]
  omega

theorem eye_num (g : Nat) (s : ByteArray) (n : Int) (w : World) (h : EyeAt w g s) (hn : 1 ≤ n) (hn6 : n ≤ 6) (hs : n ≤ s.size) (hl : s.size ≤ 100000000000) :
    Calls Tryd.prog 73 #[.pointer (some ⟨g, 0, none⟩), .int .i64 n] w fun e w' => e = .returned (.int .i64 (numOf (s.data.toList.take n.toNat))) ∧ EyeAt w' g (eat s n.toNat) ∧ Put w w' g := by
  obtain ⟨n, rfl⟩ := Int.eq_ofNat_of_zero_le (show 0 ≤ n by omega)
  rw [Int.toNat_natCast]
  have hd1 : decide ((n : Int) ≤ 8) = true := by simp; omega
  have hsz : (s.extract 0 n).size = n := by rw [ByteArray.size_extract]; omega
  have HX : Hid ((s.extract 0 n).data.toList = s.data.toList.take n) := Lib.hid (by simp)
  go_enter Tryd.func73, Tryd.ntmps73
  go_wp2_with (first
    | (go_at_call 109; (with_reducible refine (eye_dead g s _ h).mono ?_); rintro e w' ⟨rfl, rfl⟩)
    | (go_at_call 104; (with_reducible refine (wide_any _ _).mono ?_); rintro e w' ⟨rfl, rfl⟩)
    | (go_at_call 110; have hq := eye_raw g s (n : Int) w h (by omega) hs hl; rw [Int.toNat_natCast] at hq; (with_reducible refine hq.mono ?_); rintro e w1 ⟨rfl, h1, hp1⟩; clear hq)
    | ((with_reducible refine gate (N := 18) rfl ?_); refine ev_s2b rfl 9 54 5 (.tmp 17) rfl rfl Tryd.underlying9 Tryd.underlying54 Tryd.underlying5 ?_; intro g2 c2 w2 hb2 hg2 hc2 hcell; rw [hsz, HX.out] at hcell; rw [hsz]))
  have HP : Put w w2 g := ⟨hb2.os.trans hp1.os, hb2.tape.trans hp1.tape, hb2.output.trans hp1.output, Nat.le_trans hp1.size hb2.size, fun k hk hne => (hb2.block k (Nat.lt_of_lt_of_le hk hp1.size)).trans (hp1.block k hk hne)⟩
  have h2 : EyeAt w2 g (eat s n) := Box.below h1 hb2
  have hlen : (s.data.toList.take n).length = n := by rw [List.length_take, Array.length_toList]; show min n s.size = n; omega
  have HL := Lib.hid hlen
  clear hb2 hp1 h1 hlen
  generalize hgl : s.data.toList.take n = l at *
  have HGL := Lib.hid hgl
  clear hgl
  go_loop [5, 7, 20] (fun x c i => ∃ (j : Nat), j ≤ n ∧ x = .int .i64 (numOf (l.take j)) ∧ i = .int .i64 j) (fun _ _ i => n - (intOf i).toNat)
  case atStart => exact ⟨0, by omega, rfl, rfl⟩
  case round =>
    obtain ⟨j, hj, rfl, rfl⟩ := hrel
    by_cases hlt : j < n
    · have hc := hcell j hlt
      have hjl : j < l.length := by rw [HL.out]; exact hlt
      have e1 : l.take (j + 1) = l.take j ++ [l.getD j 0] := by
        rw [List.take_succ_eq_append_getElem hjl, List.getD_eq_getElem?_getD, List.getElem?_eq_getElem hjl]; rfl
      have hb := numOf_bound (l.take j)
      have hx : numOf (l.take j) < 36028797018963968 := by
        have h3 : (l.take j).length ≤ 5 := by rw [List.length_take]; omega
        have := numOf_lt5 _ h3
        omega
      have hx0 := hb.1
      have HS : Hid (numOf (l.take (j + 1)) = numOf (l.take j) * 256 + ((l.getD j 0).toNat : Int)) := Lib.hid (by rw [e1, numOf_snoc])
      have hor := or_byte (numOf (l.take j)) (l.getD j 0) hx0 hx
      clear e1 hb hcell
      generalize numOf (l.take j) = x at *
      have hby := (l.getD j 0).toNat_lt
      generalize l.getD j 0 = c at *
      go_wp2
      go_round
      case rel => exact ⟨j + 1, by omega, by rw [HS.out], by go_num⟩
      case measure => simp [intOf]; omega
    · obtain rfl : j = n := by omega
      have hb := (numOf_bound l).1
      have e1 : l.take j = l := List.take_of_length_le (by rw [HL.out]; exact Nat.le_refl _)
      rw [e1]
      clear e1
      generalize hgx : numOf l = x at *
      have HGX := Lib.hid hgx
      clear hgx
      have hx : decide (x < 0) = false := by simp; omega
      go_wp2
      go_ret
      exact ⟨by rw [HGL.out, HGX.out]; rfl, h2, HP⟩

/-- One store, or one call, behind another: only block g. -/
theorem Put.trans {a b c : World} {g : Nat} (h : Put a b g) (k : Put b c g) : Put a c g :=
  ⟨k.os.trans h.os, k.tape.trans h.tape, k.output.trans h.output, Nat.le_trans h.size k.size, fun i hi hne => (k.block i (Nat.lt_of_lt_of_le hi h.size) hne).trans (h.block i hi hne)⟩
theorem Put.of_below {a b : World} (h : Below a.heap.size a b) (g : Nat) : Put a b g := ⟨h.os, h.tape, h.output, h.size, fun k hk _ => h.block k hk⟩
theorem Put.of_drew {a b : World} {g : Nat} (h : Put a.drew b g) : Put a b g := ⟨h.os, h.tape, h.output, h.size, h.block⟩

theorem eye_text (g : Nat) (s : ByteArray) (most : Int) (n : Nat) (w : World) (h : EyeAt w g s) (hm : (n : Int) ≤ most) (hn : numOf (s.data.toList.take 2) = n) (hs : 2 + n ≤ s.size) (hl : s.size ≤ 100000000000) :
    Calls Tryd.prog 76 #[.pointer (some ⟨g, 0, none⟩), .int .i64 most] w fun e w' => e = .returned (.string ((eat s 2).extract 0 n)) ∧ EyeAt w' g (eat (eat s 2) n) ∧ Put w w' g := by
  have hd : decide (most < (n : Int)) = false := by simp; omega
  have hs2 : (eat s 2).size = s.size - 2 := by unfold eat; rw [ByteArray.size_extract]; omega
  have hq1 := eye_num g s 2 w h (by omega) (by omega) (by omega) hl
  rw [show (2 : Int).toNat = 2 from rfl, hn] at hq1
  have H1 := hide hq1
  have HN := hide hn
  clear hq1 hn
  go_enter Tryd.func76, Tryd.ntmps76
  go_wp2_with (first
    | (go_at_call 73; (with_reducible refine (unhide H1).mono ?_); rintro e w1 ⟨rfl, h1, hp1⟩)
    | (go_at_call 110; have hq := eye_raw g (eat s 2) (n : Int) w1 h1 (by omega) (by omega) (by omega); rw [Int.toNat_natCast] at hq; (with_reducible refine hq.mono ?_); rintro e w2 ⟨rfl, h2, hp2⟩; clear hq))
  go_ret
  exact ⟨rfl, h2, hp1.trans hp2⟩
end Go.Proofs.YtbkffeabikjnhaaDoor

/- Vectors and marks out of bytes: contracts where they can be. -/
namespace Go.Proofs.YtbkffeabikjnhaaDoor
open Go.RowKit

theorem eat_list (s : ByteArray) (n : Nat) : (eat s n).data.toList = s.data.toList.drop n := by
  unfold eat
  rw [ByteArray.data_extract]
  simp
  rw [List.take_of_length_le]
  simp
theorem ba_ext {a b : ByteArray} (h : a.data.toList = b.data.toList) : a = b := by
  apply ByteArray.ext
  exact Array.ext' h
theorem eat_eat (s : ByteArray) (a b : Nat) : eat (eat s a) b = eat s (a + b) := by
  apply ba_ext
  rw [eat_list, eat_list, eat_list, List.drop_drop]
theorem eat_zero (s : ByteArray) : eat s 0 = s := by apply ba_ext; rw [eat_list]; rfl
theorem eat_size (s : ByteArray) (n : Nat) : (eat s n).size = s.size - n := by unfold eat; rw [ByteArray.size_extract]; omega

def numAt (s : ByteArray) (off n : Nat) : Int := numOf ((s.data.toList.drop off).take n)
def seeV (s : ByteArray) : V8 := ⟨numAt s 0 6, numAt s 6 6, numAt s 12 6, numAt s 18 6, numAt s 24 6, numAt s 30 6, numAt s 36 6, numAt s 42 6⟩
theorem seeV_get (s : ByteArray) (j : Nat) (h : j < 8) : (seeV s).get j = numAt s (6 * j) 6 := by
  have h2 : j = 0 ∨ j = 1 ∨ j = 2 ∨ j = 3 ∨ j = 4 ∨ j = 5 ∨ j = 6 ∨ j = 7 := by omega
  rcases h2 with rfl | rfl | rfl | rfl | rfl | rfl | rfl | rfl <;> rfl
def vecArr (v : V8) (j : Nat) : Array Value := ((List.range 8).map fun i => if i < j then Value.int .i64 (v.get i) else Value.int .i64 0).toArray
abbrev V8.arr (v : V8) : Array Value := #[.int .i64 v.a0, .int .i64 v.a1, .int .i64 v.a2, .int .i64 v.a3, .int .i64 v.a4, .int .i64 v.a5, .int .i64 v.a6, .int .i64 v.a7]
def V8.zero : V8 := ⟨0, 0, 0, 0, 0, 0, 0, 0⟩
theorem vecArr_zero (v : V8) : vecArr v 0 = V8.zero.arr := by simp [vecArr, List.range, List.range.loop, V8.zero]
theorem vecArr_full (v : V8) : vecArr v 8 = v.arr := by simp [vecArr, List.range, List.range.loop, V8.get, V8.list]
theorem vecArr_size (v : V8) (j : Nat) : (vecArr v j).size = 8 := by simp [vecArr]
theorem vecArr_succ (v : V8) (j : Nat) (h : j < 8) : (vecArr v j).setIfInBounds j (.int .i64 (v.get j)) = vecArr v (j + 1) := by
  have h2 : j = 0 ∨ j = 1 ∨ j = 2 ∨ j = 3 ∨ j = 4 ∨ j = 5 ∨ j = 6 ∨ j = 7 := by omega
  rcases h2 with rfl | rfl | rfl | rfl | rfl | rfl | rfl | rfl <;> simp [vecArr, List.range, List.range.loop]
theorem zeroVec : (Tryd.prog.info? 25).map (·.zero) = some (some (.agg V8.zero.arr)) := by kernel_rfl
theorem sizeVec : (Tryd.prog.info? 25).map (·.size) = some 8 := by kernel_rfl
theorem aggVec : isAggT Tryd.prog 25 = true := by kernel_rfl
theorem oneVec (v : V8) : ∀ u ∈ v.arr.toList, u.oneCell' = true := by simp [Value.oneCell']
theorem zeroMark : (Tryd.prog.info? 39).map (·.zero) = some (some (.agg #[.int .i64 0, .int .i64 0])) := by kernel_rfl
theorem sizeMark : (Tryd.prog.info? 39).map (·.size) = some 2 := by kernel_rfl
theorem aggMark : isAggT Tryd.prog 39 = true := by kernel_rfl
theorem Put.newSet {w w1 : World} {g : Nat} (h : Put w w1 g) {p : Addr} (hp : w.heap.size ≤ p.block) (u : Value) : Put w (w1.setCell p u) g :=
  ⟨h.os, h.tape, h.output, by simpa [World.setCell] using h.size, fun k hk hne => (Below.heap_setCell w1 p u k (by omega)).trans (h.block k hk hne)⟩
theorem Put.newPut {w w1 w2 : World} {g g' : Nat} (h : Put w w1 g) (hp : Put w1 w2 g') (hg : w.heap.size ≤ g') : Put w w2 g :=
  ⟨hp.os.trans h.os, hp.tape.trans h.tape, hp.output.trans h.output, Nat.le_trans h.size hp.size, fun k hk hne => (hp.block k (Nat.lt_of_lt_of_le hk h.size) (by omega)).trans (h.block k hk hne)⟩

theorem see_vec (g : Nat) (s : ByteArray) (w : World) (h : EyeAt w g s) (hs : 48 ≤ s.size) (hl : s.size ≤ 100000000000) (hg : (seeV s).good = true) :
    Calls Tryd.prog 74 #[.pointer (some ⟨g, 0, none⟩)] w fun e w' => e = .returned (seeV s).val ∧ EyeAt w' g (eat s 48) ∧ Put w w' g := by
  have hglt := Box.lt h
  go_enter Tryd.func74, Tryd.ntmps74
  go_wp2_with (first
    | ((with_reducible refine gate (N := 2) rfl ?_); refine ev_alloc rfl 25 rfl zeroVec ?_; intro g2 w2 hx2 hb2 hg2 hl2)
    | ((with_reducible refine gate (N := 3) rfl ?_); refine ev_alloc rfl 25 rfl zeroVec ?_; intro g3 w3 hx3 hb3 hg3 hl3; rw [← vecArr_zero (seeV s)] at hx3))
  have h3 : EyeAt w3 g s := Box.below (Box.below h hb2) hb3
  have hn2 : g ≠ g2 := by omega
  have hn3 : g ≠ g3 := by have := hb2.size; omega
  have hn23 : g2 ≠ g3 := by omega
  have hw3 : w.heap.size ≤ g3 := by have := hb2.size; omega
  have HP := Put.of_below (bl_then hb2 hb3) g
  have hx23 := hx2.below hb3
  clear h hb2 hb3 hg3 hl2 hl3 hx2
  go_loopw [4, 5] (fun _ i wr => ∃ (j : Nat), j ≤ 8 ∧ i = .int .i64 j ∧ EyeAt wr g (eat s (6 * j)) ∧ Box wr g3 (vecArr (seeV s) j) 25 ∧ Box wr g2 V8.zero.arr 25 ∧ Put w wr g) (fun _ i _ => 8 - (intOf i).toNat)
  case atStart => exact ⟨0, by omega, rfl, by rw [Nat.mul_zero, eat_zero]; exact h3, hx3, hx23, HP⟩
  case round =>
    obtain ⟨j, hj, rfl, he, hx, hx0, hp⟩ := hrel
    by_cases hlt : j < 8
    · have hq := eye_num g (eat s (6 * j)) 6 wr he (by omega) (by omega) (by rw [eat_size]; omega) (by rw [eat_size]; omega)
      rw [show (6 : Int).toNat = 6 from rfl, eat_eat, show 6 * j + 6 = 6 * (j + 1) from by omega, eat_list, show numOf (List.take 6 (List.drop (6 * j) s.data.toList)) = (seeV s).get j from (seeV_get s j hlt).symm] at hq
      have HQ := hide hq
      clear hq
      have HS := Lib.hid (vecArr_succ (seeV s) j hlt)
      have HZ := Lib.hid (vecArr_size (seeV s) j)
      generalize (seeV s).get j = x at HQ HS
      have H0 : (0 : Int) ≤ (j : Int) := by omega
      have H1 : (j : Int) < 8 := by omega
      go_wp2_with (first
        | (go_at_call 73; (with_reducible refine (unhide HQ).mono ?_); rintro e w4 ⟨rfl, he4, hp4⟩; have hx4 := hx.put hp4 hn3.symm; have hx04 := hx0.put hp4 hn2.symm; have hc4 : w4.cell? ⟨g3, j, none⟩ = some ((vecArr (seeV s) j)[j]!) := (by rw [hx4.cell j]; simp [HZ.out, hlt]); have hf4 := hx4.frozen j))
      go_roundw
      case rel => exact ⟨j + 1, by omega, by go_num, Box.put he4 (Box.setPut _ _ _ _) hn3, hx4.set_ j _ HS.out, hx04.put (Box.setPut _ _ _ _) hn23, (hp.trans hp4).newSet hw3 _⟩
      case measure => simp [intOf]; omega
    · obtain rfl : j = 8 := by omega
      rw [vecArr_full] at hx
      have hgx := hg
      have hsv : Hid ((seeV s) = (seeV s)) := Lib.hid rfl
      generalize hv : seeV s = v at *
      have HV := Lib.hid hv
      clear hv hsv
      go_wp2_with (first
        | ((with_reducible refine gate (N := 13) rfl ?_); refine ev_load rfl 25 (.tmp 3) rfl rfl hx aggVec sizeVec ?_)
        | (go_at_call 49; (with_reducible refine (vec_good v _).mono ?_); rintro e w5 ⟨rfl, hb5⟩; rw [hgx]; have hx5 := hx.below hb5; have hx05 := hx0.below hb5; have he5 := Box.below he hb5; have hp5 := hp.trans (Put.of_below hb5 g))
        | ((with_reducible refine gate (N := 18) rfl ?_); refine stop ?_))
      unfold Stop
      refine ev_load rfl 25 (.tmp 3) rfl rfl hx5 aggVec sizeVec ?_
      refine ev_setAll rfl 25 (.tmp 2) (.tmp 18) rfl rfl (vs := v.arr) hx05 rfl (oneVec v) sizeVec rfl ?_
      intro w6 hx6 hp6
      have he6 : EyeAt w6 g (eat s 48) := Box.put he5 hp6 hn2
      have hp7 := hp5.newPut hp6 hg2
      clear hx5 hx05 he5 hp5 hp6
      go_wp2
      refine bodyPost_ret (results_cell_row rfl _ w6 g2 25 v.arr (0, 0) _ rfl hx6 Tryd.underlying25 rfl sizeVec) rfl ⟨by rw [HV.out], he6, hp7⟩

theorem see_mark (g : Nat) (s : ByteArray) (w : World) (h : EyeAt w g s) (hs : 12 ≤ s.size) (hl : s.size ≤ 100000000000) :
    Calls Tryd.prog 75 #[.pointer (some ⟨g, 0, none⟩)] w fun e w' => e = .returned (Mk.val ⟨numAt s 0 6, numAt s 6 6⟩) ∧ EyeAt w' g (eat s 12) ∧ Put w w' g := by
  have hglt := Box.lt h
  go_enter Tryd.func75, Tryd.ntmps75
  go_wp2_with (first
    | ((with_reducible refine gate (N := 2) rfl ?_); refine ev_alloc rfl 39 rfl zeroMark ?_; intro g2 w2 hx2 hb2 hg2 hl2; refine stop ?_))
  unfold Stop
  have h2 : EyeAt w2 g s := Box.below h hb2
  have hn2 : g ≠ g2 := by omega
  have HP := Put.of_below hb2 g
  have hq := eye_num g s 6 w2 h2 (by omega) (by omega) (by omega) hl
  rw [show (6 : Int).toNat = 6 from rfl, show numOf (List.take 6 s.data.toList) = numAt s 0 6 from rfl] at hq
  have HQ := hide hq
  clear hq h hb2 hl2
  go_wp2_with (first
    | (go_at_call 73; (with_reducible refine (unhide HQ).mono ?_); rintro e w3 ⟨rfl, he3, hp3⟩; have hx3 := hx2.put hp3 hn2.symm; clear HQ; refine stop ?_))
  unfold Stop
  have hq := eye_num g (eat s 6) 6 w3 he3 (by omega) (by omega) (by rw [eat_size]; omega) (by rw [eat_size]; omega)
  rw [show (6 : Int).toNat = 6 from rfl, eat_eat, eat_list, show numOf (List.take 6 (List.drop 6 s.data.toList)) = numAt s 6 6 from rfl] at hq
  have HQ := hide hq
  clear hq
  go_wp2_with (first
    | (go_at_call 73; (with_reducible refine (unhide HQ).mono ?_); rintro e w4 ⟨rfl, he4, hp4⟩; have hx4 := hx3.put hp4 hn2.symm; have hc4 := hx4.cell; have hf4 := hx4.frozen))
  have hx5 := hx4.set_ 0 (.int .i64 (numAt s 0 6)) (cs' := #[.int .i64 (numAt s 0 6), .int .i64 0]) rfl
  have hx6 := hx5.set_ 1 (.int .i64 (numAt s 6 6)) (cs' := #[.int .i64 (numAt s 0 6), .int .i64 (numAt s 6 6)]) rfl
  refine bodyPost_ret (results_cell_row rfl _ _ g2 39 #[.int .i64 (numAt s 0 6), .int .i64 (numAt s 6 6)] (0, 0) _ rfl hx6 Tryd.underlying39 rfl sizeMark) rfl ⟨rfl, ?_, ?_⟩
  · exact Box.put (Box.put he4 (Box.setPut _ _ _ _) hn2) (Box.setPut _ _ _ _) hn2
  · exact (((HP.trans hp3).trans hp4).newSet hg2 _).newSet hg2 _
end Go.Proofs.YtbkffeabikjnhaaDoor

/- Messages out of bytes: what looks at them, where they can be. -/
namespace Go.Proofs.YtbkffeabikjnhaaDoor
open Go.RowKit

/-- Only blocks g and h have turned, and what is new. -/
structure Put2 (w w1 : World) (g h : Nat) : Prop where
  os : w1.os = w.os
  tape : w1.tape = w.tape
  output : w1.output = w.output
  size : w.heap.size ≤ w1.heap.size
  block : ∀ k, k < w.heap.size → k ≠ g → k ≠ h → w1.heap[k]? = w.heap[k]?
theorem Put.two {w w1 : World} {g : Nat} (p : Put w w1 g) (h : Nat) : Put2 w w1 g h := ⟨p.os, p.tape, p.output, p.size, fun k hk h1 _ => p.block k hk h1⟩
theorem Put.two' {w w1 : World} {h : Nat} (p : Put w w1 h) (g : Nat) : Put2 w w1 g h := ⟨p.os, p.tape, p.output, p.size, fun k hk _ h2 => p.block k hk h2⟩
theorem Put2.trans {a b c : World} {g h : Nat} (p : Put2 a b g h) (q : Put2 b c g h) : Put2 a c g h :=
  ⟨q.os.trans p.os, q.tape.trans p.tape, q.output.trans p.output, Nat.le_trans p.size q.size, fun i hi h1 h2 => (q.block i (Nat.lt_of_lt_of_le hi p.size) h1 h2).trans (p.block i hi h1 h2)⟩
theorem Box.put2 {w w1 : World} {b g h : Nat} {cs : Array Value} {t : TypeId} (hx : Box w b cs t) (p : Put2 w w1 g h) (h1 : b ≠ g) (h2 : b ≠ h) : Box w1 b cs t := (p.block b hx.lt h1 h2).trans hx
theorem numAt_eat (s : ByteArray) (a off n : Nat) : numAt (eat s a) off n = numAt s (a + off) n := by
  unfold numAt; rw [eat_list, List.drop_drop]
/-- A number that lies at an offset. -/
theorem num_at (g : Nat) (s : ByteArray) (off n : Nat) (N : Int) (hN : N = (n : Int)) (w : World) (h : EyeAt w g (eat s off)) (hn : 1 ≤ n) (hn6 : n ≤ 6) (hs : off + n ≤ s.size) (hl : s.size ≤ 100000000000) :
    Calls Tryd.prog 73 #[.pointer (some ⟨g, 0, none⟩), .int .i64 N] w fun e w' => e = .returned (.int .i64 (numAt s off n)) ∧ EyeAt w' g (eat s (off + n)) ∧ Put w w' g := by
  subst hN
  have hq := eye_num g (eat s off) (n : Int) w h (by omega) (by omega) (by rw [eat_size]; omega) (by rw [eat_size]; omega)
  rw [Int.toNat_natCast, eat_eat] at hq
  have e : numOf (List.take n (eat s off).data.toList) = numAt s off n := by rw [eat_list]; rfl
  rw [e] at hq
  exact hq
theorem mark_at (g : Nat) (s : ByteArray) (off : Nat) (w : World) (h : EyeAt w g (eat s off)) (hs : off + 12 ≤ s.size) (hl : s.size ≤ 100000000000) :
    Calls Tryd.prog 75 #[.pointer (some ⟨g, 0, none⟩)] w fun e w' => e = .returned (Mk.val ⟨numAt s off 6, numAt s (off + 6) 6⟩) ∧ EyeAt w' g (eat s (off + 12)) ∧ Put w w' g := by
  have hq := see_mark g (eat s off) w h (by rw [eat_size]; omega) (by rw [eat_size]; omega)
  rw [eat_eat, numAt_eat, numAt_eat, Nat.add_zero] at hq
  exact hq
theorem vec_at (g : Nat) (s : ByteArray) (off : Nat) (w : World) (h : EyeAt w g (eat s off)) (hs : off + 48 ≤ s.size) (hl : s.size ≤ 100000000000) (hg : (seeV (eat s off)).good = true) :
    Calls Tryd.prog 74 #[.pointer (some ⟨g, 0, none⟩)] w fun e w' => e = .returned (seeV (eat s off)).val ∧ EyeAt w' g (eat s (off + 48)) ∧ Put w w' g := by
  have hq := see_vec g (eat s off) w h (by rw [eat_size]; omega) (by rw [eat_size]; omega) hg
  rw [eat_eat] at hq
  exact hq
theorem numAt_def (s : ByteArray) (off n : Nat) : numAt s off n = numOf (List.take n (List.drop off s.data.toList)) := rfl
attribute [local irreducible] numAt seeV eat
theorem body1 (g gm : Nat) (s : ByteArray) (w : World) (he0 : EyeAt w g s) (hx0 : Box w gm Msg.zero.arr 41) (hn : g ≠ gm) (hs : 78 ≤ s.size) (hl : s.size ≤ 100000000000) (hv : (seeV (eat s 4)).good = true) (hk : numAt s 0 1 = 1) :
    Calls Tryd.prog 72 #[.pointer (some ⟨g, 0, none⟩), .pointer (some ⟨gm, 0, none⟩)] w fun e w' => e = .returned (.tuple #[]) ∧ EyeAt w' g (eat s 78) ∧ Box w' gm (⟨numAt s 0 1, numAt s 1 1, numAt s 2 1, numAt s 3 1, ⟨numAt s 52 6, numAt s 58 6⟩, ⟨numAt s 64 6, numAt s 70 6⟩, numAt s 76 2, 0, seeV (eat s 4), ⟨#[]⟩⟩ : Msg).arr 41 ∧ Put2 w w' g gm := by
  have HP0 : Put2 w w g gm := ⟨rfl, rfl, rfl, Nat.le_refl _, fun _ _ _ _ => rfl⟩
  have he00 := he0
  rw [← eat_zero s] at he00
  clear he0
  obtain ⟨w0, rfl⟩ : ∃ w0, w0 = w := ⟨w, rfl⟩
  have he0 := he00
  clear he00
  have b1 : (numAt s 0 1 == 1) = true := by simp [hk]
  have HK := Lib.hid hk
  clear hk
  go_enter Tryd.func72, Tryd.ntmps72
  have HQ := hide (num_at g s 0 1 1 rfl w0 he0 (by omega) (by omega) (by omega) hl)
  go_wp2_with (first | (go_at_call 73; (with_reducible refine (unhide HQ).mono ?_); rintro e w1 ⟨rfl, he1, hp1⟩; clear HQ; refine stop ?_))
  unfold Stop
  have he1 : EyeAt w1 g (eat s 1) := he1
  have hx1 := hx0.put hp1 hn.symm
  have HP1 := HP0.trans (hp1.two gm)
  clear he0 hx0 HP0 hp1
  have HQ := hide (num_at g s 1 1 1 rfl w1 he1 (by omega) (by omega) (by omega) hl)
  go_wp2_with (first | (go_at_call 73; (with_reducible refine (unhide HQ).mono ?_); rintro e w2 ⟨rfl, he2, hp2⟩; clear HQ; refine stop ?_))
  unfold Stop
  have he2 : EyeAt w2 g (eat s 2) := he2
  have hx2 := hx1.put hp2 hn.symm
  have HP2 := HP1.trans (hp2.two gm)
  clear he1 hx1 HP1 hp2
  have HQ := hide (num_at g s 2 1 1 rfl w2 he2 (by omega) (by omega) (by omega) hl)
  go_wp2_with (first | (go_at_call 73; (with_reducible refine (unhide HQ).mono ?_); rintro e w3 ⟨rfl, he3, hp3⟩; clear HQ; refine stop ?_))
  unfold Stop
  have he3 : EyeAt w3 g (eat s 3) := he3
  have hx3 := hx2.put hp3 hn.symm
  have HP3 := HP2.trans (hp3.two gm)
  clear he2 hx2 HP2 hp3
  have HQ := hide (num_at g s 3 1 1 rfl w3 he3 (by omega) (by omega) (by omega) hl)
  go_wp2_with (first | (go_at_call 73; (with_reducible refine (unhide HQ).mono ?_); rintro e w4 ⟨rfl, he4, hp4⟩; clear HQ; refine stop ?_))
  unfold Stop
  have he4 : EyeAt w4 g (eat s 4) := he4
  have hx4 := hx3.put hp4 hn.symm
  have HP4 := HP3.trans (hp4.two gm)
  clear he3 hx3 HP3 hp4
  have HQ := hide (vec_at g s 4 w4 he4 (by omega) hl hv)
  go_wp2_with (first | (go_at_call 74; (with_reducible refine (unhide HQ).mono ?_); rintro e w5 ⟨rfl, he5, hp5⟩; clear HQ; refine stop ?_))
  unfold Stop
  have he5 : EyeAt w5 g (eat s 52) := he5
  have hx5 := hx4.put hp5 hn.symm
  have HP5 := HP4.trans (hp5.two gm)
  clear he4 hx4 HP4 hp5
  go_wp2_with (first | ((with_reducible refine gate0 rfl ?_); refine stop ?_))
  unfold Stop
  refine ev_setAll rfl 41 (.tmp 1) (.tmp 13) rfl rfl (vs := (⟨numAt s 0 1, numAt s 1 1, numAt s 2 1, numAt s 3 1, ⟨0, 0⟩, ⟨0, 0⟩, 0, 0, seeV (eat s 4), ⟨#[]⟩⟩ : Msg).arr) hx5 rfl (oneMsg _) sizeMsg rfl ?_
  intro w6 hx6 hp6
  have he6 : EyeAt w6 g (eat s 52) := Box.put he5 hp6 hn
  have HP6 := HP5.trans (hp6.two' g)
  clear hx5 he5 HP5 hp6
  obtain ⟨c0, c1, c2, c3, c4, c5, c6, c7, c8, c9, c10, c11, c12, c13, c14, c15, c16, c17, c18⟩ := msgCells hx6
  clear c1 c2 c3 c10 c11 c12 c13 c14 c15 c16 c17
  have HQ := hide (mark_at g s 52 w6 he6 (by omega) hl)
  go_wp2_with (first | (go_at_call 75; (with_reducible refine (unhide HQ).mono ?_); rintro e w7 ⟨rfl, he7, hp7⟩; clear HQ; refine stop ?_))
  unfold Stop
  have he7 : EyeAt w7 g (eat s 64) := he7
  have hx7 := hx6.put hp7 hn.symm
  have HP7 := HP6.trans (hp7.two gm)
  clear he6 hx6 HP6 hp7
  have HQ := hide (mark_at g s 64 w7 he7 (by omega) hl)
  go_wp2_with (first | (go_at_call 75; (with_reducible refine (unhide HQ).mono ?_); rintro e w8 ⟨rfl, he8, hp8⟩; clear HQ; refine stop ?_))
  unfold Stop
  have he8 : EyeAt w8 g (eat s 76) := he8
  have hx8 := hx7.put hp8 hn.symm
  have HP8 := HP7.trans (hp8.two gm)
  clear he7 hx7 HP7 hp8
  have HQ := hide (num_at g s 76 2 2 rfl w8 he8 (by omega) (by omega) (by omega) hl)
  go_wp2_with (first | (go_at_call 73; (with_reducible refine (unhide HQ).mono ?_); rintro e w9 ⟨rfl, he9, hp9⟩; clear HQ; refine stop ?_))
  unfold Stop
  have he9 : EyeAt w9 g (eat s 78) := he9
  have hx9 := hx8.put hp9 hn.symm
  have HP9 := HP8.trans (hp9.two gm)
  clear he8 hx8 HP8 hp9
  have hc := hx9.cell
  have hf := hx9.frozen
  go_wp2
  have hs0 := Box.set_ hx9 4 (Value.int .i64 (numAt s 52 6)) (cs' := (⟨numAt s 0 1, numAt s 1 1, numAt s 2 1, numAt s 3 1, ⟨numAt s 52 6, 0⟩, ⟨0, 0⟩, 0, 0, seeV (eat s 4), ⟨#[]⟩⟩ : Msg).arr) rfl
  have hs1 := Box.set_ hs0 5 (Value.int .i64 (numAt s 58 6)) (cs' := (⟨numAt s 0 1, numAt s 1 1, numAt s 2 1, numAt s 3 1, ⟨numAt s 52 6, numAt s 58 6⟩, ⟨0, 0⟩, 0, 0, seeV (eat s 4), ⟨#[]⟩⟩ : Msg).arr) rfl
  have hs2 := Box.set_ hs1 6 (Value.int .i64 (numAt s 64 6)) (cs' := (⟨numAt s 0 1, numAt s 1 1, numAt s 2 1, numAt s 3 1, ⟨numAt s 52 6, numAt s 58 6⟩, ⟨numAt s 64 6, 0⟩, 0, 0, seeV (eat s 4), ⟨#[]⟩⟩ : Msg).arr) rfl
  have hs3 := Box.set_ hs2 7 (Value.int .i64 (numAt s 70 6)) (cs' := (⟨numAt s 0 1, numAt s 1 1, numAt s 2 1, numAt s 3 1, ⟨numAt s 52 6, numAt s 58 6⟩, ⟨numAt s 64 6, numAt s 70 6⟩, 0, 0, seeV (eat s 4), ⟨#[]⟩⟩ : Msg).arr) rfl
  have hs4 := Box.set_ hs3 8 (Value.int .i64 (numAt s 76 2)) (cs' := (⟨numAt s 0 1, numAt s 1 1, numAt s 2 1, numAt s 3 1, ⟨numAt s 52 6, numAt s 58 6⟩, ⟨numAt s 64 6, numAt s 70 6⟩, numAt s 76 2, 0, seeV (eat s 4), ⟨#[]⟩⟩ : Msg).arr) rfl
  have hE : EyeAt (((((w9.setCell ⟨gm, 4, none⟩ (Value.int .i64 (numAt s 52 6))).setCell ⟨gm, 5, none⟩ (Value.int .i64 (numAt s 58 6))).setCell ⟨gm, 6, none⟩ (Value.int .i64 (numAt s 64 6))).setCell ⟨gm, 7, none⟩ (Value.int .i64 (numAt s 70 6))).setCell ⟨gm, 8, none⟩ (Value.int .i64 (numAt s 76 2))) g (eat s 78) := (Box.put (Box.put (Box.put (Box.put (Box.put he9 (Box.setPut _ gm 4 (Value.int .i64 (numAt s 52 6))) hn) (Box.setPut _ gm 5 (Value.int .i64 (numAt s 58 6))) hn) (Box.setPut _ gm 6 (Value.int .i64 (numAt s 64 6))) hn) (Box.setPut _ gm 7 (Value.int .i64 (numAt s 70 6))) hn) (Box.setPut _ gm 8 (Value.int .i64 (numAt s 76 2))) hn)
  have hP := (((((HP9.trans ((Box.setPut _ gm 4 (Value.int .i64 (numAt s 52 6))).two' g)).trans ((Box.setPut _ gm 5 (Value.int .i64 (numAt s 58 6))).two' g)).trans ((Box.setPut _ gm 6 (Value.int .i64 (numAt s 64 6))).two' g)).trans ((Box.setPut _ gm 7 (Value.int .i64 (numAt s 70 6))).two' g)).trans ((Box.setPut _ gm 8 (Value.int .i64 (numAt s 76 2))).two' g))
  go_end0
  exact ⟨rfl, hE, hs4, hP⟩
theorem body2 (g gm : Nat) (s : ByteArray) (w : World) (he0 : EyeAt w g s) (hx0 : Box w gm Msg.zero.arr 41) (hn : g ≠ gm) (n : Nat) (hnn : numAt s 80 2 = n) (hn5 : n ≤ 512) (hs : 82 + n ≤ s.size) (hl : s.size ≤ 100000000000) (hv : (seeV (eat s 4)).good = true) (hk : numAt s 0 1 = 2) :
    Calls Tryd.prog 72 #[.pointer (some ⟨g, 0, none⟩), .pointer (some ⟨gm, 0, none⟩)] w fun e w' => e = .returned (.tuple #[]) ∧ EyeAt w' g (eat s (82 + n)) ∧ Box w' gm (⟨numAt s 0 1, numAt s 1 1, numAt s 2 1, numAt s 3 1, ⟨numAt s 52 6, numAt s 58 6⟩, ⟨numAt s 64 6, numAt s 70 6⟩, numAt s 76 2, numAt s 78 2, seeV (eat s 4), ((eat s 82).extract 0 n)⟩ : Msg).arr 41 ∧ Put2 w w' g gm := by
  have HP0 : Put2 w w g gm := ⟨rfl, rfl, rfl, Nat.le_refl _, fun _ _ _ _ => rfl⟩
  have he00 := he0
  rw [← eat_zero s] at he00
  clear he0
  obtain ⟨w0, rfl⟩ : ∃ w0, w0 = w := ⟨w, rfl⟩
  have he0 := he00
  clear he00
  have b1 : (numAt s 0 1 == 1) = false := by simp [hk]
  have b2 : (numAt s 0 1 == 2) = true := by simp [hk]
  have HK := Lib.hid hk
  clear hk
  have HN := Lib.hid hnn
  clear hnn
  go_enter Tryd.func72, Tryd.ntmps72
  have HQ := hide (num_at g s 0 1 1 rfl w0 he0 (by omega) (by omega) (by omega) hl)
  go_wp2_with (first | (go_at_call 73; (with_reducible refine (unhide HQ).mono ?_); rintro e w1 ⟨rfl, he1, hp1⟩; clear HQ; refine stop ?_))
  unfold Stop
  have he1 : EyeAt w1 g (eat s 1) := he1
  have hx1 := hx0.put hp1 hn.symm
  have HP1 := HP0.trans (hp1.two gm)
  clear he0 hx0 HP0 hp1
  have HQ := hide (num_at g s 1 1 1 rfl w1 he1 (by omega) (by omega) (by omega) hl)
  go_wp2_with (first | (go_at_call 73; (with_reducible refine (unhide HQ).mono ?_); rintro e w2 ⟨rfl, he2, hp2⟩; clear HQ; refine stop ?_))
  unfold Stop
  have he2 : EyeAt w2 g (eat s 2) := he2
  have hx2 := hx1.put hp2 hn.symm
  have HP2 := HP1.trans (hp2.two gm)
  clear he1 hx1 HP1 hp2
  have HQ := hide (num_at g s 2 1 1 rfl w2 he2 (by omega) (by omega) (by omega) hl)
  go_wp2_with (first | (go_at_call 73; (with_reducible refine (unhide HQ).mono ?_); rintro e w3 ⟨rfl, he3, hp3⟩; clear HQ; refine stop ?_))
  unfold Stop
  have he3 : EyeAt w3 g (eat s 3) := he3
  have hx3 := hx2.put hp3 hn.symm
  have HP3 := HP2.trans (hp3.two gm)
  clear he2 hx2 HP2 hp3
  have HQ := hide (num_at g s 3 1 1 rfl w3 he3 (by omega) (by omega) (by omega) hl)
  go_wp2_with (first | (go_at_call 73; (with_reducible refine (unhide HQ).mono ?_); rintro e w4 ⟨rfl, he4, hp4⟩; clear HQ; refine stop ?_))
  unfold Stop
  have he4 : EyeAt w4 g (eat s 4) := he4
  have hx4 := hx3.put hp4 hn.symm
  have HP4 := HP3.trans (hp4.two gm)
  clear he3 hx3 HP3 hp4
  have HQ := hide (vec_at g s 4 w4 he4 (by omega) hl hv)
  go_wp2_with (first | (go_at_call 74; (with_reducible refine (unhide HQ).mono ?_); rintro e w5 ⟨rfl, he5, hp5⟩; clear HQ; refine stop ?_))
  unfold Stop
  have he5 : EyeAt w5 g (eat s 52) := he5
  have hx5 := hx4.put hp5 hn.symm
  have HP5 := HP4.trans (hp5.two gm)
  clear he4 hx4 HP4 hp5
  go_wp2_with (first | ((with_reducible refine gate0 rfl ?_); refine stop ?_))
  unfold Stop
  refine ev_setAll rfl 41 (.tmp 1) (.tmp 13) rfl rfl (vs := (⟨numAt s 0 1, numAt s 1 1, numAt s 2 1, numAt s 3 1, ⟨0, 0⟩, ⟨0, 0⟩, 0, 0, seeV (eat s 4), ⟨#[]⟩⟩ : Msg).arr) hx5 rfl (oneMsg _) sizeMsg rfl ?_
  intro w6 hx6 hp6
  have he6 : EyeAt w6 g (eat s 52) := Box.put he5 hp6 hn
  have HP6 := HP5.trans (hp6.two' g)
  clear hx5 he5 HP5 hp6
  obtain ⟨c0, c1, c2, c3, c4, c5, c6, c7, c8, c9, c10, c11, c12, c13, c14, c15, c16, c17, c18⟩ := msgCells hx6
  clear c1 c2 c3 c10 c11 c12 c13 c14 c15 c16 c17
  have HQ := hide (mark_at g s 52 w6 he6 (by omega) hl)
  go_wp2_with (first | (go_at_call 75; (with_reducible refine (unhide HQ).mono ?_); rintro e w7 ⟨rfl, he7, hp7⟩; clear HQ; refine stop ?_))
  unfold Stop
  have he7 : EyeAt w7 g (eat s 64) := he7
  have hx7 := hx6.put hp7 hn.symm
  have HP7 := HP6.trans (hp7.two gm)
  clear he6 hx6 HP6 hp7
  have HQ := hide (mark_at g s 64 w7 he7 (by omega) hl)
  go_wp2_with (first | (go_at_call 75; (with_reducible refine (unhide HQ).mono ?_); rintro e w8 ⟨rfl, he8, hp8⟩; clear HQ; refine stop ?_))
  unfold Stop
  have he8 : EyeAt w8 g (eat s 76) := he8
  have hx8 := hx7.put hp8 hn.symm
  have HP8 := HP7.trans (hp8.two gm)
  clear he7 hx7 HP7 hp8
  have HQ := hide (num_at g s 76 2 2 rfl w8 he8 (by omega) (by omega) (by omega) hl)
  go_wp2_with (first | (go_at_call 73; (with_reducible refine (unhide HQ).mono ?_); rintro e w9 ⟨rfl, he9, hp9⟩; clear HQ; refine stop ?_))
  unfold Stop
  have he9 : EyeAt w9 g (eat s 78) := he9
  have hx9 := hx8.put hp9 hn.symm
  have HP9 := HP8.trans (hp9.two gm)
  clear he8 hx8 HP8 hp9
  have HQ := hide (num_at g s 78 2 2 rfl w9 he9 (by omega) (by omega) (by omega) hl)
  go_wp2_with (first | (go_at_call 73; (with_reducible refine (unhide HQ).mono ?_); rintro e w10 ⟨rfl, he10, hp10⟩; clear HQ; refine stop ?_))
  unfold Stop
  have he10 : EyeAt w10 g (eat s 80) := he10
  have hx10 := hx9.put hp10 hn.symm
  have HP10 := HP9.trans (hp10.two gm)
  clear he9 hx9 HP9 hp10
  have hc := hx10.cell
  have hf := hx10.frozen
  go_wp2_with (first | (go_at_call 76; refine stop ?_))
  unfold Stop
  clear hc hf
  have hs0 := Box.set_ hx10 4 (Value.int .i64 (numAt s 52 6)) (cs' := (⟨numAt s 0 1, numAt s 1 1, numAt s 2 1, numAt s 3 1, ⟨numAt s 52 6, 0⟩, ⟨0, 0⟩, 0, 0, seeV (eat s 4), ⟨#[]⟩⟩ : Msg).arr) rfl
  have hs1 := Box.set_ hs0 5 (Value.int .i64 (numAt s 58 6)) (cs' := (⟨numAt s 0 1, numAt s 1 1, numAt s 2 1, numAt s 3 1, ⟨numAt s 52 6, numAt s 58 6⟩, ⟨0, 0⟩, 0, 0, seeV (eat s 4), ⟨#[]⟩⟩ : Msg).arr) rfl
  have hs2 := Box.set_ hs1 6 (Value.int .i64 (numAt s 64 6)) (cs' := (⟨numAt s 0 1, numAt s 1 1, numAt s 2 1, numAt s 3 1, ⟨numAt s 52 6, numAt s 58 6⟩, ⟨numAt s 64 6, 0⟩, 0, 0, seeV (eat s 4), ⟨#[]⟩⟩ : Msg).arr) rfl
  have hs3 := Box.set_ hs2 7 (Value.int .i64 (numAt s 70 6)) (cs' := (⟨numAt s 0 1, numAt s 1 1, numAt s 2 1, numAt s 3 1, ⟨numAt s 52 6, numAt s 58 6⟩, ⟨numAt s 64 6, numAt s 70 6⟩, 0, 0, seeV (eat s 4), ⟨#[]⟩⟩ : Msg).arr) rfl
  have hs4 := Box.set_ hs3 8 (Value.int .i64 (numAt s 76 2)) (cs' := (⟨numAt s 0 1, numAt s 1 1, numAt s 2 1, numAt s 3 1, ⟨numAt s 52 6, numAt s 58 6⟩, ⟨numAt s 64 6, numAt s 70 6⟩, numAt s 76 2, 0, seeV (eat s 4), ⟨#[]⟩⟩ : Msg).arr) rfl
  have hs5 := Box.set_ hs4 9 (Value.int .i64 (numAt s 78 2)) (cs' := (⟨numAt s 0 1, numAt s 1 1, numAt s 2 1, numAt s 3 1, ⟨numAt s 52 6, numAt s 58 6⟩, ⟨numAt s 64 6, numAt s 70 6⟩, numAt s 76 2, numAt s 78 2, seeV (eat s 4), ⟨#[]⟩⟩ : Msg).arr) rfl
  have hE : EyeAt ((((((w10.setCell ⟨gm, 4, none⟩ (Value.int .i64 (numAt s 52 6))).setCell ⟨gm, 5, none⟩ (Value.int .i64 (numAt s 58 6))).setCell ⟨gm, 6, none⟩ (Value.int .i64 (numAt s 64 6))).setCell ⟨gm, 7, none⟩ (Value.int .i64 (numAt s 70 6))).setCell ⟨gm, 8, none⟩ (Value.int .i64 (numAt s 76 2))).setCell ⟨gm, 9, none⟩ (Value.int .i64 (numAt s 78 2))) g (eat s 80) := (Box.put (Box.put (Box.put (Box.put (Box.put (Box.put he10 (Box.setPut _ gm 4 (Value.int .i64 (numAt s 52 6))) hn) (Box.setPut _ gm 5 (Value.int .i64 (numAt s 58 6))) hn) (Box.setPut _ gm 6 (Value.int .i64 (numAt s 64 6))) hn) (Box.setPut _ gm 7 (Value.int .i64 (numAt s 70 6))) hn) (Box.setPut _ gm 8 (Value.int .i64 (numAt s 76 2))) hn) (Box.setPut _ gm 9 (Value.int .i64 (numAt s 78 2))) hn)
  have hP := ((((((HP10.trans ((Box.setPut _ gm 4 (Value.int .i64 (numAt s 52 6))).two' g)).trans ((Box.setPut _ gm 5 (Value.int .i64 (numAt s 58 6))).two' g)).trans ((Box.setPut _ gm 6 (Value.int .i64 (numAt s 64 6))).two' g)).trans ((Box.setPut _ gm 7 (Value.int .i64 (numAt s 70 6))).two' g)).trans ((Box.setPut _ gm 8 (Value.int .i64 (numAt s 76 2))).two' g)).trans ((Box.setPut _ gm 9 (Value.int .i64 (numAt s 78 2))).two' g))
  obtain ⟨w20, hw20⟩ : ∃ w20, w20 = ((((((w10.setCell ⟨gm, 4, none⟩ (Value.int .i64 (numAt s 52 6))).setCell ⟨gm, 5, none⟩ (Value.int .i64 (numAt s 58 6))).setCell ⟨gm, 6, none⟩ (Value.int .i64 (numAt s 64 6))).setCell ⟨gm, 7, none⟩ (Value.int .i64 (numAt s 70 6))).setCell ⟨gm, 8, none⟩ (Value.int .i64 (numAt s 76 2))).setCell ⟨gm, 9, none⟩ (Value.int .i64 (numAt s 78 2))) := ⟨_, rfl⟩
  rw [← hw20] at hE hP ⊢
  have hx20 : Box w20 gm (⟨numAt s 0 1, numAt s 1 1, numAt s 2 1, numAt s 3 1, ⟨numAt s 52 6, numAt s 58 6⟩, ⟨numAt s 64 6, numAt s 70 6⟩, numAt s 76 2, numAt s 78 2, seeV (eat s 4), ⟨#[]⟩⟩ : Msg).arr 41 := by rw [hw20]; exact hs5
  clear hw20 hs0 hs1 hs2 hs3 hs4 hs5
  have ht := eye_text g (eat s 80) 512 n w20 hE (by omega) (by rw [← HN.out, eat_list, numAt_def]) (by rw [eat_size]; omega) (by rw [eat_size]; omega)
  rw [eat_eat, eat_eat, show 80 + 2 + n = 82 + n from by omega] at ht
  have HT := hide ht
  clear ht
  refine (unhide HT).mono ?_
  rintro e w21 ⟨rfl, he21, hp21⟩
  clear HT
  have hx21 := hx20.put hp21 hn.symm
  have HP21 := hP.trans (hp21.two gm)
  have hc := hx21.cell
  have hf := hx21.frozen
  go_wp2
  have hs := Box.set_ hx21 18 (.string ((eat s 82).extract 0 n)) (cs' := (⟨numAt s 0 1, numAt s 1 1, numAt s 2 1, numAt s 3 1, ⟨numAt s 52 6, numAt s 58 6⟩, ⟨numAt s 64 6, numAt s 70 6⟩, numAt s 76 2, numAt s 78 2, seeV (eat s 4), ((eat s 82).extract 0 n)⟩ : Msg).arr) rfl
  go_end0
  exact ⟨rfl, Box.put he21 (Box.setPut _ gm 18 _) hn, hs, HP21.trans ((Box.setPut _ gm 18 _).two' g)⟩
theorem body4 (g gm : Nat) (s : ByteArray) (w : World) (he0 : EyeAt w g s) (hx0 : Box w gm Msg.zero.arr 41) (hn : g ≠ gm) (hs : 64 ≤ s.size) (hl : s.size ≤ 100000000000) (hv : (seeV (eat s 4)).good = true) (hk : numAt s 0 1 = 4) :
    Calls Tryd.prog 72 #[.pointer (some ⟨g, 0, none⟩), .pointer (some ⟨gm, 0, none⟩)] w fun e w' => e = .returned (.tuple #[]) ∧ EyeAt w' g (eat s 64) ∧ Box w' gm (⟨numAt s 0 1, numAt s 1 1, numAt s 2 1, numAt s 3 1, ⟨0, 0⟩, ⟨numAt s 52 6, numAt s 58 6⟩, 0, 0, seeV (eat s 4), ⟨#[]⟩⟩ : Msg).arr 41 ∧ Put2 w w' g gm := by
  have HP0 : Put2 w w g gm := ⟨rfl, rfl, rfl, Nat.le_refl _, fun _ _ _ _ => rfl⟩
  have he00 := he0
  rw [← eat_zero s] at he00
  clear he0
  obtain ⟨w0, rfl⟩ : ∃ w0, w0 = w := ⟨w, rfl⟩
  have he0 := he00
  clear he00
  have b1 : (numAt s 0 1 == 1) = false := by simp [hk]
  have b2 : (numAt s 0 1 == 2) = false := by simp [hk]
  have b4 : (numAt s 0 1 == 4) = true := by simp [hk]
  have HK := Lib.hid hk
  clear hk
  go_enter Tryd.func72, Tryd.ntmps72
  have HQ := hide (num_at g s 0 1 1 rfl w0 he0 (by omega) (by omega) (by omega) hl)
  go_wp2_with (first | (go_at_call 73; (with_reducible refine (unhide HQ).mono ?_); rintro e w1 ⟨rfl, he1, hp1⟩; clear HQ; refine stop ?_))
  unfold Stop
  have he1 : EyeAt w1 g (eat s 1) := he1
  have hx1 := hx0.put hp1 hn.symm
  have HP1 := HP0.trans (hp1.two gm)
  clear he0 hx0 HP0 hp1
  have HQ := hide (num_at g s 1 1 1 rfl w1 he1 (by omega) (by omega) (by omega) hl)
  go_wp2_with (first | (go_at_call 73; (with_reducible refine (unhide HQ).mono ?_); rintro e w2 ⟨rfl, he2, hp2⟩; clear HQ; refine stop ?_))
  unfold Stop
  have he2 : EyeAt w2 g (eat s 2) := he2
  have hx2 := hx1.put hp2 hn.symm
  have HP2 := HP1.trans (hp2.two gm)
  clear he1 hx1 HP1 hp2
  have HQ := hide (num_at g s 2 1 1 rfl w2 he2 (by omega) (by omega) (by omega) hl)
  go_wp2_with (first | (go_at_call 73; (with_reducible refine (unhide HQ).mono ?_); rintro e w3 ⟨rfl, he3, hp3⟩; clear HQ; refine stop ?_))
  unfold Stop
  have he3 : EyeAt w3 g (eat s 3) := he3
  have hx3 := hx2.put hp3 hn.symm
  have HP3 := HP2.trans (hp3.two gm)
  clear he2 hx2 HP2 hp3
  have HQ := hide (num_at g s 3 1 1 rfl w3 he3 (by omega) (by omega) (by omega) hl)
  go_wp2_with (first | (go_at_call 73; (with_reducible refine (unhide HQ).mono ?_); rintro e w4 ⟨rfl, he4, hp4⟩; clear HQ; refine stop ?_))
  unfold Stop
  have he4 : EyeAt w4 g (eat s 4) := he4
  have hx4 := hx3.put hp4 hn.symm
  have HP4 := HP3.trans (hp4.two gm)
  clear he3 hx3 HP3 hp4
  have HQ := hide (vec_at g s 4 w4 he4 (by omega) hl hv)
  go_wp2_with (first | (go_at_call 74; (with_reducible refine (unhide HQ).mono ?_); rintro e w5 ⟨rfl, he5, hp5⟩; clear HQ; refine stop ?_))
  unfold Stop
  have he5 : EyeAt w5 g (eat s 52) := he5
  have hx5 := hx4.put hp5 hn.symm
  have HP5 := HP4.trans (hp5.two gm)
  clear he4 hx4 HP4 hp5
  go_wp2_with (first | ((with_reducible refine gate0 rfl ?_); refine stop ?_))
  unfold Stop
  refine ev_setAll rfl 41 (.tmp 1) (.tmp 13) rfl rfl (vs := (⟨numAt s 0 1, numAt s 1 1, numAt s 2 1, numAt s 3 1, ⟨0, 0⟩, ⟨0, 0⟩, 0, 0, seeV (eat s 4), ⟨#[]⟩⟩ : Msg).arr) hx5 rfl (oneMsg _) sizeMsg rfl ?_
  intro w6 hx6 hp6
  have he6 : EyeAt w6 g (eat s 52) := Box.put he5 hp6 hn
  have HP6 := HP5.trans (hp6.two' g)
  clear hx5 he5 HP5 hp6
  obtain ⟨c0, c1, c2, c3, c4, c5, c6, c7, c8, c9, c10, c11, c12, c13, c14, c15, c16, c17, c18⟩ := msgCells hx6
  clear c1 c2 c3 c10 c11 c12 c13 c14 c15 c16 c17
  have HQ := hide (mark_at g s 52 w6 he6 (by omega) hl)
  go_wp2_with (first | (go_at_call 75; (with_reducible refine (unhide HQ).mono ?_); rintro e w7 ⟨rfl, he7, hp7⟩; clear HQ; refine stop ?_))
  unfold Stop
  have he7 : EyeAt w7 g (eat s 64) := he7
  have hx7 := hx6.put hp7 hn.symm
  have HP7 := HP6.trans (hp7.two gm)
  clear he6 hx6 HP6 hp7
  have hc := hx7.cell
  have hf := hx7.frozen
  go_wp2
  have hs0 := Box.set_ hx7 6 (Value.int .i64 (numAt s 52 6)) (cs' := (⟨numAt s 0 1, numAt s 1 1, numAt s 2 1, numAt s 3 1, ⟨0, 0⟩, ⟨numAt s 52 6, 0⟩, 0, 0, seeV (eat s 4), ⟨#[]⟩⟩ : Msg).arr) rfl
  have hs1 := Box.set_ hs0 7 (Value.int .i64 (numAt s 58 6)) (cs' := (⟨numAt s 0 1, numAt s 1 1, numAt s 2 1, numAt s 3 1, ⟨0, 0⟩, ⟨numAt s 52 6, numAt s 58 6⟩, 0, 0, seeV (eat s 4), ⟨#[]⟩⟩ : Msg).arr) rfl
  have hE : EyeAt ((w7.setCell ⟨gm, 6, none⟩ (Value.int .i64 (numAt s 52 6))).setCell ⟨gm, 7, none⟩ (Value.int .i64 (numAt s 58 6))) g (eat s 64) := (Box.put (Box.put he7 (Box.setPut _ gm 6 (Value.int .i64 (numAt s 52 6))) hn) (Box.setPut _ gm 7 (Value.int .i64 (numAt s 58 6))) hn)
  have hP := ((HP7.trans ((Box.setPut _ gm 6 (Value.int .i64 (numAt s 52 6))).two' g)).trans ((Box.setPut _ gm 7 (Value.int .i64 (numAt s 58 6))).two' g))
  go_end0
  exact ⟨rfl, hE, hs1, hP⟩
theorem body3 (g gm : Nat) (s : ByteArray) (w : World) (he0 : EyeAt w g s) (hx0 : Box w gm Msg.zero.arr 41) (hn : g ≠ gm) (hs : 52 ≤ s.size) (hl : s.size ≤ 100000000000) (hv : (seeV (eat s 4)).good = true) (hk : numAt s 0 1 = 3) :
    Calls Tryd.prog 72 #[.pointer (some ⟨g, 0, none⟩), .pointer (some ⟨gm, 0, none⟩)] w fun e w' => e = .returned (.tuple #[]) ∧ EyeAt w' g (eat s 52) ∧ Box w' gm (⟨numAt s 0 1, numAt s 1 1, numAt s 2 1, numAt s 3 1, ⟨0, 0⟩, ⟨0, 0⟩, 0, 0, seeV (eat s 4), ⟨#[]⟩⟩ : Msg).arr 41 ∧ Put2 w w' g gm := by
  have HP0 : Put2 w w g gm := ⟨rfl, rfl, rfl, Nat.le_refl _, fun _ _ _ _ => rfl⟩
  have he00 := he0
  rw [← eat_zero s] at he00
  clear he0
  obtain ⟨w0, rfl⟩ : ∃ w0, w0 = w := ⟨w, rfl⟩
  have he0 := he00
  clear he00
  have b1 : (numAt s 0 1 == 1) = false := by simp [hk]
  have b2 : (numAt s 0 1 == 2) = false := by simp [hk]
  have b4 : (numAt s 0 1 == 4) = false := by simp [hk]
  have HK := Lib.hid hk
  clear hk
  go_enter Tryd.func72, Tryd.ntmps72
  have HQ := hide (num_at g s 0 1 1 rfl w0 he0 (by omega) (by omega) (by omega) hl)
  go_wp2_with (first | (go_at_call 73; (with_reducible refine (unhide HQ).mono ?_); rintro e w1 ⟨rfl, he1, hp1⟩; clear HQ; refine stop ?_))
  unfold Stop
  have he1 : EyeAt w1 g (eat s 1) := he1
  have hx1 := hx0.put hp1 hn.symm
  have HP1 := HP0.trans (hp1.two gm)
  clear he0 hx0 HP0 hp1
  have HQ := hide (num_at g s 1 1 1 rfl w1 he1 (by omega) (by omega) (by omega) hl)
  go_wp2_with (first | (go_at_call 73; (with_reducible refine (unhide HQ).mono ?_); rintro e w2 ⟨rfl, he2, hp2⟩; clear HQ; refine stop ?_))
  unfold Stop
  have he2 : EyeAt w2 g (eat s 2) := he2
  have hx2 := hx1.put hp2 hn.symm
  have HP2 := HP1.trans (hp2.two gm)
  clear he1 hx1 HP1 hp2
  have HQ := hide (num_at g s 2 1 1 rfl w2 he2 (by omega) (by omega) (by omega) hl)
  go_wp2_with (first | (go_at_call 73; (with_reducible refine (unhide HQ).mono ?_); rintro e w3 ⟨rfl, he3, hp3⟩; clear HQ; refine stop ?_))
  unfold Stop
  have he3 : EyeAt w3 g (eat s 3) := he3
  have hx3 := hx2.put hp3 hn.symm
  have HP3 := HP2.trans (hp3.two gm)
  clear he2 hx2 HP2 hp3
  have HQ := hide (num_at g s 3 1 1 rfl w3 he3 (by omega) (by omega) (by omega) hl)
  go_wp2_with (first | (go_at_call 73; (with_reducible refine (unhide HQ).mono ?_); rintro e w4 ⟨rfl, he4, hp4⟩; clear HQ; refine stop ?_))
  unfold Stop
  have he4 : EyeAt w4 g (eat s 4) := he4
  have hx4 := hx3.put hp4 hn.symm
  have HP4 := HP3.trans (hp4.two gm)
  clear he3 hx3 HP3 hp4
  have HQ := hide (vec_at g s 4 w4 he4 (by omega) hl hv)
  go_wp2_with (first | (go_at_call 74; (with_reducible refine (unhide HQ).mono ?_); rintro e w5 ⟨rfl, he5, hp5⟩; clear HQ; refine stop ?_))
  unfold Stop
  have he5 : EyeAt w5 g (eat s 52) := he5
  have hx5 := hx4.put hp5 hn.symm
  have HP5 := HP4.trans (hp5.two gm)
  clear he4 hx4 HP4 hp5
  go_wp2_with (first | ((with_reducible refine gate0 rfl ?_); refine stop ?_))
  unfold Stop
  refine ev_setAll rfl 41 (.tmp 1) (.tmp 13) rfl rfl (vs := (⟨numAt s 0 1, numAt s 1 1, numAt s 2 1, numAt s 3 1, ⟨0, 0⟩, ⟨0, 0⟩, 0, 0, seeV (eat s 4), ⟨#[]⟩⟩ : Msg).arr) hx5 rfl (oneMsg _) sizeMsg rfl ?_
  intro w6 hx6 hp6
  have he6 : EyeAt w6 g (eat s 52) := Box.put he5 hp6 hn
  have HP6 := HP5.trans (hp6.two' g)
  clear hx5 he5 HP5 hp6
  obtain ⟨c0, c1, c2, c3, c4, c5, c6, c7, c8, c9, c10, c11, c12, c13, c14, c15, c16, c17, c18⟩ := msgCells hx6
  clear c1 c2 c3 c10 c11 c12 c13 c14 c15 c16 c17
  go_wp2
  go_end0
  exact ⟨rfl, he6, hx6, HP6⟩
end Go.Proofs.YtbkffeabikjnhaaDoor

/- octet.Read with the closure of msg.Get, where the bytes can be. -/
namespace Go.Proofs.YtbkffeabikjnhaaDoor
open Go.RowKit

theorem ev_alloc1 {P : Program} {ops : Array Oper} {rest : List Oper} {o : Oper} {a : Act} {Q : Exit → Act → World → Prop} {W : World} (hgd : o.guard = none) (t : TypeId) (ho : o.op = .alloc t) {z : Value} (hz : (P.info? t).map (·.zero) = some (some z)) (hc : z.cells = #[z])
    (h : ∀ g w1, Box w1 g #[z] t → Below W.heap.size W w1 → W.heap.size ≤ g → g < w1.heap.size → wpList P ops Q rest (a.put o.dst (.pointer (some ⟨g, 0, none⟩))) w1) : wpList P ops Q (o :: rest) a W := by
  refine event hgd (v := .pointer (some ⟨W.heap.size, 0, none⟩)) (w1 := W.alloc (.cells #[z] t)) ?_ (h _ _ (Box.new W #[z] t) (bl_alloc (Below.refl _ _) _) (Nat.le_refl _) (by simp))
  obtain ⟨i, hi, hzz⟩ := Option.map_eq_some_iff.1 hz
  simp [execOp, ho, Instr.alloc, zeroValue, typeInfo, hi, hzz, hc, newVar, newRow]
theorem zeroErrno : (Tryd.prog.info? 42).map (·.zero) = some (some (.int .i64 0)) := by kernel_rfl
theorem zeroPEye : (Tryd.prog.info? 99).map (·.zero) = some (some (.pointer none)) := by kernel_rfl

theorem sizePEye : (Tryd.prog.info? 99).map (·.size) = some 1 := by kernel_rfl
/-- What is deferred, nobody panicking: the eye is shut. -/
theorem read_defer (ge gv gr : Nat) (s : ByteArray) (b : Bool) (_ : Value) (w : World) (hv : Box w gv #[.pointer (some ⟨ge, 0, none⟩)] 99) (he : Box w ge #[.string s, .bool b] 143) (_ : ge ≠ gv) :
    CallsD Tryd.prog 107 #[.pointer (some ⟨gv, 0, none⟩), .pointer (some ⟨gr, 0, none⟩)] .returning w fun e u' w' => u' = .returning ∧ (e = .returned (.tuple #[]) ∧ w' = w.setCell ⟨ge, 1, none⟩ (.bool false)) := by
  have c0 := Box.cell hv 0
  have c1 := Box.cell he 1
  have f1 := Box.frozen he 1
  refine callsD_of_wpS Tryd.func107 rfl fun c₀ cs hu => ?_
  have c0' : w.cell? ⟨gv, 0, none⟩ = some (.pointer (some ⟨ge, 0, none⟩)) := c0
  have c1' : w.cell? ⟨ge, 1, none⟩ = some (.bool b) := c1
  clear c0 c1
  apply wpS_seq
  refine wpS_of_wp ?_
  simp only [Tryd.ntmps107, List.size_toArray, List.length_cons, List.length_nil, Nat.reduceAdd, Nat.reduceSub, Array.replicate_succ, Array.replicate_zero, List.push_toArray, List.append_toArray, List.nil_append, List.cons_append]
  go_wp2
  simp only [Exit.thenS]
  apply wpS_seq
  apply wpS_region
  simp [wpOpsS, go_sem, recoverD, hu, Exit.thenS]
  refine wpS_of_wp ?_
  go_wp2
  clear c0' c1' f1 hv he
  cases c₀
  simp_all [bodyPostS, results, Tryd.results107]

theorem fn_neq_nil (f : Fn) (a c : Array Value) : ∀ w, (binOp .neq 103 (.func f a c) .nilFunc).run Tryd.prog w = .ok (.bool true) w := by
  intro w
  have h : ∀ d, (Op.equalIn (d + 1) 103 (.func f a c) .nilFunc).run Tryd.prog w = .ok false w := fun d => by
    simp [Op.equalIn, run_underlying Tryd.underlying103]
  have h2 := h 9999
  simp only [binOp, Op.equal, Op.maxDepth, Sem.run_bind]
  rw [h2]
  rfl
/-- What the closure is to do to the eye and to m. -/
def Body (r : Msg) (s : ByteArray) (gm : Nat) : Prop := ∀ (g : Nat) (w : World), EyeAt w g s → Box w gm Msg.zero.arr 41 → g ≠ gm →
  Calls Tryd.prog 72 #[.pointer (some ⟨g, 0, none⟩), .pointer (some ⟨gm, 0, none⟩)] w fun e w' => e = .returned (.tuple #[]) ∧ EyeAt w' g ⟨#[]⟩ ∧ Box w' gm r.arr 41 ∧ Put2 w w' g gm

theorem read_ok (r : Msg) (l : List UInt8) (gm : Nat) (v : Value) (w : World) (hb : Body r ⟨l.toArray⟩ gm) (hr : encB.R w v l) (hm : Box w gm Msg.zero.arr 41) :
    Calls Tryd.prog 71 #[v, .func (.func 72) #[] #[.pointer (some ⟨gm, 0, none⟩)]] w fun e w' => e = .returned (.int .i64 0) ∧ Box w' gm r.arr 41 ∧ Put w w' gm := by
  have hmf : ∀ (fn : Fn) (first cap : Array Value) (w : World), (Instr.makeFunc fn first cap).run Tryd.prog w = .ok (.func fn first cap) w := fun _ _ _ _ => rfl
  have hconv : ∀ w1, Below w.heap.size w w1 → (convert 54 9 v).run Tryd.prog w1 = .ok (.string ⟨l.toArray⟩) w1 := fun w1 hb1 => conv_bytes (hr.below hb1) 54 9 5 Tryd.underlying54 Tryd.underlying5 Tryd.underlying9
  have hnf := fn_neq_nil
  have HB := hide hb
  clear hb
  go_enter_defers Tryd.func71, Tryd.ntmps71
  go_wp2_with (first
    | ((with_reducible refine gate (N := 4) rfl ?_); refine ev_alloc1 rfl 42 rfl zeroErrno rfl ?_; intro g4 w4 hx4 hb4 hg4 hl4; have hc4 := hconv w4 hb4; clear hconv)
    | ((with_reducible refine gate (N := 9) rfl ?_); refine ev_box rfl 143 (.tmp 8) rfl rfl ?_; intro g9 w9 hx9 hb9 hg9 hl9)
    | ((with_reducible refine gate (N := 5) rfl ?_); refine ev_alloc1 rfl 99 rfl zeroPEye rfl ?_; intro g5 w5 hx5 hb5 hg5 hl5; refine stop ?_))
  unfold Stop
  refine ev_set rfl 99 (.tmp 5) (.tmp 9) rfl rfl hx5 (v := .pointer (some ⟨g9, 0, none⟩)) (cs' := #[.pointer (some ⟨g9, 0, none⟩)]) rfl (by simp [Value.cells, Value.oneCell']) sizePEye (by simp [Value.cells]) (by simp [Value.cells]) ?_
  intro w6 hx6 hp6
  have n95 : g9 ≠ g5 := by omega
  have n45 : g4 ≠ g5 := by have := hb9.size; omega
  have n49 : g4 ≠ g9 := by omega
  have hlm := hm.lt
  have nm5 : gm ≠ g5 := by have := hb4.size; have := hb9.size; omega
  have nm9 : gm ≠ g9 := by have := hb4.size; omega
  have nm4 : gm ≠ g4 := by omega
  have he6 : EyeAt w6 g9 ⟨l.toArray⟩ := (hx9.below hb5).put hp6 n95
  have hm6 := ((hm.below hb4).below hb9 |>.below hb5).put hp6 nm5
  have hx46 := ((hx4.below hb9).below hb5).put hp6 n45
  have hge9 : w.heap.size ≤ g9 := by have := hb4.size; omega
  have hge5 : w.heap.size ≤ g5 := by have := hb4.size; have := hb9.size; omega
  have HB6 := Put.below (bl_then (bl_then hb4 hb9) hb5) hp6 hge5
  clear hx4 hx5 hx9 hm hr hb4 hb9 hb5 hp6 hc4 hl4 hg9 hl9 hg5 hl5
  have c5 := hx6.cell
  have he := hide (unhide HB g9 w6 he6 hm6 nm9.symm)
  clear HB
  go_wp2_with (first
    | (go_at_call 72; (with_reducible refine (unhide he).mono ?_); rintro e w7 ⟨rfl, he7, hm7, hp7⟩; clear he; have hx57 := hx6.put2 hp7 n95.symm nm5.symm; have hx47 := hx46.put2 hp7 n49 nm4.symm; clear c5; have c5 := hx57.cell; have c9 := Box.cell he7; have c4 := hx47.cell; have f4 := hx47.frozen; refine stop ?_))
  unfold Stop
  go_wp2
  clear c5 c9 c4 f4 hmf hnf
  have hx8 := hx47.set_ 0 (.int .i64 0) (cs' := #[.int .i64 0]) rfl
  have hp8 := Box.setPut w7 g4 0 (.int .i64 0)
  have hv8 := hx57.put hp8 n45.symm
  have he8 : EyeAt _ g9 ⟨#[]⟩ := Box.put he7 hp8 n49.symm
  have hm8 := hm7.put hp8 nm4
  have hP7 : Put w w7 gm := ⟨hp7.os.trans HB6.os, hp7.tape.trans HB6.tape, hp7.output.trans HB6.output, Nat.le_trans HB6.size hp7.size, fun k hk h1 => (hp7.block k (Nat.lt_of_lt_of_le hk HB6.size) (by omega) h1).trans (HB6.block k hk)⟩
  have hP8 := hP7.newPut hp8 hg4
  generalize w7.setCell ⟨g4, 0, none⟩ (.int .i64 0) = w8 at *
  refine leaves_cons (f := 107) (args := #[.pointer (some ⟨g5, 0, none⟩), .pointer (some ⟨g4, 0, none⟩)]) (by simp) (by simp [go_sem]) ?_
  refine (read_defer g9 g5 g4 ⟨#[]⟩ true (.tuple #[]) w8 hv8 he8 n95).mono ?_
  rintro e u' w'' ⟨rfl, rfl, rfl⟩
  have hx9 := hx8.put (Box.setPut w8 g9 1 (.bool false)) n49
  have hm9 := hm8.put (Box.setPut w8 g9 1 (.bool false)) nm9
  have hP9 := hP8.newSet (p := ⟨g9, 1, none⟩) hge9 (.bool false)
  generalize w8.setCell ⟨g9, 1, none⟩ (.bool false) = w9 at *
  have c4 : w9.cell? ⟨g4, 0, none⟩ = some (.int .i64 0) := hx9.cell 0
  refine ⟨.int .i64 0, ?_, rfl, hm9, hP9⟩
  simp [results, Tryd.results71, go_sem, c4]
end Go.Proofs.YtbkffeabikjnhaaDoor

/- Bytes of messages, and back: the plain law. -/
namespace Go.Proofs.YtbkffeabikjnhaaDoor
open Go.RowKit

theorem putN_succ (x : Int) (n : Nat) : putN x (n + 1) = putN (x / 256) n ++ [u8 x] := by
  unfold putN
  rw [List.range_succ_eq_map, List.reverse_cons, List.map_append, ← List.map_reverse, List.map_map]
  congr 1
  · apply List.map_congr_left
    intro i _
    simp only [Function.comp]
    congr 1
    rw [show 8 * Nat.succ i = 8 + 8 * i from by omega, Int.pow_add, ← Int.ediv_ediv_of_nonneg (by decide)]
    rfl
  · simp
theorem numOf_putN : ∀ (n : Nat) (x : Int), 0 ≤ x → x < 256 ^ n → numOf (putN x n) = x
  | 0, x, h0, h1 => by
    have : x = 0 := by simp at h1; omega
    subst this; rfl
  | n + 1, x, h0, h1 => by
    rw [putN_succ, numOf_snoc, u8_val, numOf_putN n (x / 256) (by omega) (by rw [Int.pow_succ] at h1; omega)]
    omega
def encP (ps : List (Int × Nat)) : List UInt8 := ps.flatMap fun p => putN p.1 p.2
def wid (ps : List (Int × Nat)) (i : Nat) : Nat := ((ps.take i).map (·.2)).sum
theorem drop_encP : ∀ (ps : List (Int × Nat)) (i : Nat) (t : List UInt8), i ≤ ps.length → (encP ps ++ t).drop (wid ps i) = encP (ps.drop i) ++ t
  | ps, 0, t, _ => by simp [wid]
  | [], i + 1, t, h => by simp at h
  | p :: ps, i + 1, t, h => by
    have ih := drop_encP ps i t (by simpa using h)
    have e1 : wid (p :: ps) (i + 1) = (putN p.1 p.2).length + wid ps i := by simp [wid, putN_length]
    have e2 : encP (p :: ps) = putN p.1 p.2 ++ encP ps := by simp [encP]
    rw [e1, e2, List.append_assoc, List.drop_length_add_append, ih]
    simp
theorem num_enc (ps : List (Int × Nat)) (i : Nat) (x : Int) (n off : Nat) (t : List UInt8) (s : ByteArray) (hs : s.data.toList = encP ps ++ t) (hi : ps[i]? = some (x, n)) (ho : wid ps i = off) (h0 : 0 ≤ x) (h1 : x < 256 ^ n) : numAt s off n = x := by
  have hlt : i < ps.length := (List.getElem?_eq_some_iff.1 hi).1
  rw [numAt_def, hs, ← ho, drop_encP ps i t (by omega)]
  have e : ps.drop i = (x, n) :: ps.drop (i + 1) := by
    rw [List.drop_eq_getElem_cons hlt]
    congr 1
    exact (List.getElem?_eq_some_iff.1 hi).2
  have e2 : encP (ps.drop i) = putN x n ++ encP (ps.drop (i + 1)) := by rw [e]; simp [encP]
  rw [e2, List.append_assoc, List.take_append_of_le_length (by rw [putN_length]; exact Nat.le_refl _), List.take_of_length_le (by rw [putN_length]; exact Nat.le_refl _)]
  exact numOf_putN n x h0 h1

def Msg.headP (m : Msg) : List (Int × Nat) := [(m.kind, 1), (m.src, 1), (m.dst, 1), (m.vol, 1), (m.seen.a0, 6), (m.seen.a1, 6), (m.seen.a2, 6), (m.seen.a3, 6), (m.seen.a4, 6), (m.seen.a5, 6), (m.seen.a6, 6), (m.seen.a7, 6)]
def Mk.P (m : Mk) : List (Int × Nat) := [(m.boot, 6), (m.n, 6)]
def Msg.P (m : Msg) : List (Int × Nat) :=
  if m.kind = 1 then m.headP ++ m.base.P ++ m.mark.P ++ [(m.index, 2)]
  else if m.kind = 2 then m.headP ++ m.base.P ++ m.mark.P ++ [(m.index, 2), (m.total, 2), ((m.data.size : Int), 2)]
  else if m.kind = 4 then m.headP ++ m.mark.P
  else m.headP
def Msg.tail (m : Msg) : List UInt8 := if m.kind = 2 then m.data.data.toList else []
theorem encP_append (a b : List (Int × Nat)) : encP (a ++ b) = encP a ++ encP b := by simp [encP]
theorem Msg.encHead (m : Msg) : encP m.headP = m.headBytes := by simp [encP, Msg.headP, Msg.headBytes, V8.bytes, V8.list]
theorem Msg.bytesP (m : Msg) : m.bytes = encP m.P ++ m.tail := by
  unfold Msg.bytes Msg.P Msg.tail
  split
  · rename_i h; simp [encP_append, Msg.encHead, Mk.bytes, Mk.P, h]; simp [encP]
  · split
    · simp [encP_append, Msg.encHead, Mk.bytes, Mk.P]; simp [encP]
    · split
      · simp [encP_append, Msg.encHead, Mk.bytes, Mk.P]; simp [encP]
      · simp [Msg.encHead]
end Go.Proofs.YtbkffeabikjnhaaDoor

/- The reader: what ends it; each look as an Option. -/
namespace Go.Proofs.YtbkffeabikjnhaaDoor
open Go.RowKit

/-- What is thrown. -/
def flt (c : Int) : List PanicEntry := [{ v := .iface 145 (.agg #[.int .i64 c]), recovered := false }]
theorem eye_fail (g : Nat) (s : ByteArray) (c : Int) (w : World) (h : EyeAt w g s) :
    Calls Tryd.prog 108 #[.pointer (some ⟨g, 0, none⟩), .int .i64 c] w fun e w' => e = .panicked (flt c) ∧ w = w' := by
  go_enter Tryd.func108, Tryd.ntmps108
  go_wp2_with (go_at_call 109; (with_reducible refine (eye_dead g s _ h).mono ?_); rintro e w' ⟨rfl, rfl⟩)
  exact ⟨rfl, rfl, rfl⟩
theorem eye_rawNo (g : Nat) (s : ByteArray) (n : Nat) (w : World) (h : EyeAt w g s) (hs : s.size < n) (hl : s.size ≤ 100000000000) :
    Calls Tryd.prog 110 #[.pointer (some ⟨g, 0, none⟩), .int .i64 n] w fun e w' => e = .panicked (flt 201) ∧ w = w' := by
  have c0 := h.c0
  have hf := Box.frozen h 0
  have hd : decide ((n : Int) < 0) = false := by simp
  have hge : decide ((s.size : Int) < (n : Int)) = true := by simp; omega
  go_enter Tryd.func110, Tryd.ntmps110
  go_wp2_with (first
    | (go_at_call 109; (with_reducible refine (eye_dead g s _ h).mono ?_); rintro e w' ⟨rfl, rfl⟩)
    | (go_at_call 108; (with_reducible refine (eye_fail g s 201 _ h).mono ?_); rintro e w' ⟨rfl, rfl⟩))
  exact ⟨rfl, rfl, rfl⟩
theorem eye_numNo (g : Nat) (s : ByteArray) (n : Nat) (w : World) (h : EyeAt w g s) (hn : 1 ≤ n) (hn6 : n ≤ 6) (hs : s.size < n) (hl : s.size ≤ 100000000000) :
    Calls Tryd.prog 73 #[.pointer (some ⟨g, 0, none⟩), .int .i64 n] w fun e w' => e = .panicked (flt 201) ∧ w = w' := by
  have hd1 : decide ((n : Int) ≤ 8) = true := by simp; omega
  have hd2 : decide ((1 : Int) ≤ n) = true := by simp; omega
  go_enter Tryd.func73, Tryd.ntmps73
  go_wp2_with (first
    | (go_at_call 109; (with_reducible refine (eye_dead g s _ h).mono ?_); rintro e w' ⟨rfl, rfl⟩)
    | (go_at_call 104; (with_reducible refine (wide_any _ _).mono ?_); rintro e w' ⟨rfl, rfl⟩)
    | (go_at_call 110; have hq := eye_rawNo g s n w h hs hl; (with_reducible refine hq.mono ?_); rintro e w1 ⟨rfl, rfl⟩; clear hq))
  exact ⟨rfl, rfl, rfl⟩
/-- The next n bytes as a number, and what is left. -/
def num? (n : Nat) (s : ByteArray) : Option (Int × ByteArray) := if n ≤ s.size then some (numOf (s.data.toList.take n), eat s n) else none
def text? (most : Int) (s : ByteArray) : Option (ByteArray × ByteArray) :=
  (num? 2 s).bind fun p => if most < p.1 then none else if p.1.toNat ≤ p.2.size then some (p.2.extract 0 p.1.toNat, eat p.2 p.1.toNat) else none
/-- How a look at an eye ends. -/
def Ans {α : Type} (mk : α → Value) (r : Option (α × ByteArray)) (g : Nat) (w : World) (e : Ending) (w' : World) : Prop :=
  match r with
  | some (x, s') => e = .returned (mk x) ∧ EyeAt w' g s' ∧ Put w w' g
  | none => (∃ c, c ≠ 0 ∧ e = .panicked (flt c)) ∧ (∃ s', EyeAt w' g s') ∧ Put w w' g
theorem Put.refl (w : World) (g : Nat) : Put w w g := ⟨rfl, rfl, rfl, Nat.le_refl _, fun _ _ _ => rfl⟩
theorem eye_Num (g : Nat) (s : ByteArray) (n : Nat) (w : World) (h : EyeAt w g s) (hn : 1 ≤ n) (hn6 : n ≤ 6) (hl : s.size ≤ 100000000000) :
    Calls Tryd.prog 73 #[.pointer (some ⟨g, 0, none⟩), .int .i64 n] w (Ans (.int .i64) (num? n s) g w) := by
  unfold num?
  by_cases hs : n ≤ s.size
  · rw [if_pos hs]
    refine (eye_num g s n w h (by omega) (by omega) (by omega) hl).mono fun e w' ⟨he, h1, h2⟩ => ?_
    rw [Int.toNat_natCast] at he h1
    exact ⟨he, h1, h2⟩
  · rw [if_neg hs]
    exact (eye_numNo g s n w h hn hn6 (by omega) hl).mono fun e w' ⟨he, h1⟩ => ⟨⟨201, by decide, he⟩, ⟨s, h1 ▸ h⟩, h1 ▸ Put.refl _ _⟩
theorem eye_Num1 (g : Nat) (s : ByteArray) (w : World) (h : EyeAt w g s) (hl : s.size ≤ 100000000000) :
    Calls Tryd.prog 73 #[.pointer (some ⟨g, 0, none⟩), .int .i64 1] w (Ans (.int .i64) (num? 1 s) g w) := eye_Num g s 1 w h (by omega) (by omega) hl
theorem eye_Num2 (g : Nat) (s : ByteArray) (w : World) (h : EyeAt w g s) (hl : s.size ≤ 100000000000) :
    Calls Tryd.prog 73 #[.pointer (some ⟨g, 0, none⟩), .int .i64 2] w (Ans (.int .i64) (num? 2 s) g w) := eye_Num g s 2 w h (by omega) (by omega) hl
theorem eye_Num6 (g : Nat) (s : ByteArray) (w : World) (h : EyeAt w g s) (hl : s.size ≤ 100000000000) :
    Calls Tryd.prog 73 #[.pointer (some ⟨g, 0, none⟩), .int .i64 6] w (Ans (.int .i64) (num? 6 s) g w) := eye_Num g s 6 w h (by omega) (by omega) hl
theorem numOf_lt2 (l : List UInt8) (h : l.length ≤ 2) : numOf l < 65536 := by
  have hb := (numOf_bound l).2
  have h2 : l.length = 0 ∨ l.length = 1 ∨ l.length = 2 := by omega
  rcases h2 with h | h | h <;> (rw [h] at hb; simp at hb; omega)
theorem eye_Text (g : Nat) (s : ByteArray) (most : Int) (w : World) (h : EyeAt w g s) (hl : s.size ≤ 100000000000) :
    Calls Tryd.prog 76 #[.pointer (some ⟨g, 0, none⟩), .int .i64 most] w (Ans .string (text? most s) g w) := by
  by_cases h2 : 2 ≤ s.size
  · have hx := numOf_bound (s.data.toList.take 2)
    have hx2 := numOf_lt2 (s.data.toList.take 2) (by rw [List.length_take]; omega)
    obtain ⟨n, hn⟩ := Int.eq_ofNat_of_zero_le hx.1
    have hs2 : (eat s 2).size = s.size - 2 := by unfold eat; rw [ByteArray.size_extract]; omega
    have hr : num? 2 s = some ((n : Int), eat s 2) := by unfold num?; rw [if_pos h2, hn]
    by_cases hm : most < n
    · have hd : decide (most < (n : Int)) = true := by simpa using hm
      have ht : text? most s = none := by unfold text?; rw [hr]; simp [hm]
      rw [ht]
      have H1 := hide (eye_Num2 g s w h hl)
      rw [hr] at H1
      clear ht hr hx hx2 hn
      go_enter Tryd.func76, Tryd.ntmps76
      go_wp2_with (first
        | (go_at_call 73; (with_reducible refine (unhide H1).mono ?_); rintro e w1 ⟨rfl, h1, hp1⟩)
        | (go_at_call 108; (with_reducible refine (eye_fail g (eat s 2) 203 _ h1).mono ?_); rintro e w' ⟨rfl, rfl⟩))
      exact ⟨rfl, ⟨203, by decide, rfl⟩, ⟨_, h1⟩, hp1⟩
    · by_cases hf : n ≤ s.size - 2
      · have ht : text? most s = some ((eat s 2).extract 0 n, eat (eat s 2) n) := by unfold text?; rw [hr]; simp [hm, hs2, hf]
        rw [ht]
        exact eye_text g s most n w h (by omega) hn (by omega) hl
      · have hd : decide (most < (n : Int)) = false := by simp; omega
        have ht : text? most s = none := by unfold text?; rw [hr]; simp [hm, hs2, hf]
        rw [ht]
        have H1 := hide (eye_Num2 g s w h hl)
        rw [hr] at H1
        clear ht hr hx hx2 hn hm
        go_enter Tryd.func76, Tryd.ntmps76
        go_wp2_with (first
          | (go_at_call 73; (with_reducible refine (unhide H1).mono ?_); rintro e w1 ⟨rfl, h1, hp1⟩)
          | (go_at_call 110; have hq := eye_rawNo g (eat s 2) n w1 h1 (by omega) (by omega); (with_reducible refine hq.mono ?_); rintro e w2 ⟨rfl, rfl⟩; clear hq))
        exact ⟨rfl, ⟨201, by decide, rfl⟩, ⟨_, h1⟩, hp1⟩
  · have hr : num? 2 s = none := by unfold num?; rw [if_neg h2]
    have ht : text? most s = none := by unfold text?; rw [hr]; rfl
    rw [ht]
    have H1 := hide (eye_Num2 g s w h hl)
    rw [hr] at H1
    clear ht hr
    go_enter Tryd.func76, Tryd.ntmps76
    go_wp2_with (go_at_call 73; (with_reducible refine (unhide H1).mono ?_); rintro e w1 ⟨⟨c, hc, rfl⟩, h1, hp1⟩)
    exact ⟨rfl, ⟨c, hc, rfl⟩, h1, hp1⟩
end Go.Proofs.YtbkffeabikjnhaaDoor
