/- Texts laid together: Back18, Gets18. -/
import Derived.Test.YtbkffeabikjnhaaDoorGg9
/- MsgBack walked. -/
namespace Go.Proofs.YtbkffeabikjnhaaDoor
open Go.RowKit

abbrev RetP (P : Program) (f : FuncId) (args : Array Value) (v : Value) : Prop := ∀ w : World, Hid (Calls P f args w fun e w' => e = .returned v ∧ Below w.heap.size w w')
set_option maxRecDepth 20000 in
set_option maxHeartbeats 1000000 in
theorem back_walk00 (m k : Msg) (s B : ByteArray) (c : Int) (w : World) (ht0 : Tb w) (hd : m.data.size ≤ 4096) (hs : s.size ≤ 4096) (hp : RetP Tryd.prog 25 #[m.val] (.tuple #[.string B, .int .i64 c])) (t0 : (c == 0) = false) (hg2 : RetP Tryd.prog 27 #[.string s] (.tuple #[exZ.val, .int .i64 201])) :
    Calls Tryd.prog 7 #[m.val, .string s] w fun e w' => e = .returned (.bool true) ∧ Below w.heap.size w w' := by
  have hL := Loc.nil w NoM
  have d1 : decide (4096 < (m.data.size : Int)) = false := by simp; omega
  have d2 : decide (4096 < (s.size : Int)) = false := by simp; omega
  have hbb : (s.toList == s.toList) = true := by simp
  have hne : ∀ w, (binOp .neq 41 m.val m.val).run Tryd.prog w = .ok (.bool false) w := fun w => by rw [msg_neq]; simp
  have heq : ∀ w, (binOp .eql 41 (.agg #[.int .i64 0, .int .i64 0, .int .i64 0, .int .i64 0, .int .i64 0, .int .i64 0, .int .i64 0, .int .i64 0, .int .i64 0, .int .i64 0, .int .i64 0, .int .i64 0, .int .i64 0, .int .i64 0, .int .i64 0, .int .i64 0, .int .i64 0, .int .i64 0, .string ⟨#[]⟩]) (.agg #[.int .i64 0, .int .i64 0, .int .i64 0, .int .i64 0, .int .i64 0, .int .i64 0, .int .i64 0, .int .i64 0, .int .i64 0, .int .i64 0, .int .i64 0, .int .i64 0, .int .i64 0, .int .i64 0, .int .i64 0, .int .i64 0, .int .i64 0, .int .i64 0, .string ⟨#[]⟩])).run Tryd.prog w = .ok (.bool true) w := fun w => by have h := msg_eq exZ exZ w; simp at h; exact h
  clear hd hs
  go_enter Tryd.func7, Tryd.ntmps7
  go_wp2_with (first
    | (go_at_call 16; have hq := aw18_c; (with_reducible refine (hq _ (ht0.below hL.below)).mono ?_); rintro e w7 ⟨rfl, hb7⟩; have hL := hL.call hb7; clear hb7 hq)
    | (go_at_call 25; (with_reducible refine (unhide (hp _)).mono ?_); rintro e w3 ⟨rfl, hb3⟩; have hL := hL.call hb3; clear hb3)
    | (go_at_call 27; (with_reducible refine (unhide (hg2 _)).mono ?_); rintro e w3 ⟨rfl, hb3⟩; have hL := hL.call hb3; clear hb3)
    | ((with_reducible refine gAlloc rfl rfl ?_); (refine ev_allocL rfl hL rfl (by first | exact cells_agg _ rfl | exact cells_int _ _ | exact cells_str _ | exact cells_bool _ | exact cells_slice _ _ _ | exact cells_ptr _ | exact cells_map _ | exact cells_func _ _ _ | exact cells_nilFunc | exact cells_one (by assumption) (by assumption)) ?_; clear hL; intro gq wq hL)) | ((with_reducible refine gBox rfl rfl ?_); (refine ev_boxL rfl hL rfl rfl (by first | exact cells_agg _ rfl | exact cells_int _ _ | exact cells_str _ | exact cells_bool _ | exact cells_slice _ _ _ | exact cells_ptr _ | exact cells_map _ | exact cells_func _ _ _ | exact cells_nilFunc | exact cells_one (by assumption) (by assumption)) ?_; clear hL; intro gq wq hL)) | ((with_reducible refine gLoad rfl rfl ?_); (first | (refine ev_load1L rfl hL rfl rfl HasV.mem (by rfl) ?_) | (refine ev_loadAllL rfl hL rfl rfl HasV.mem (by rfl) ?_) | (refine ev_loadL rfl hL rfl rfl HasV.mem SegC.seg ?_))) | ((with_reducible refine gStore rfl rfl ?_); (first | (refine ev_storeC rfl hL rfl rfl rfl (by first | exact cells_agg _ rfl | exact cells_int _ _ | exact cells_str _ | exact cells_bool _ | exact cells_slice _ _ _ | exact cells_ptr _ | exact cells_map _ | exact cells_func _ _ _ | exact cells_nilFunc | exact cells_one (by assumption) (by assumption)) (by rfl) ?_) | (refine ev_storeAllC rfl hL rfl rfl rfl (by first | exact cells_agg _ rfl | exact cells_int _ _ | exact cells_str _ | exact cells_bool _ | exact cells_slice _ _ _ | exact cells_ptr _ | exact cells_map _ | exact cells_func _ _ _ | exact cells_nilFunc | exact cells_one (by assumption) (by assumption)) (by rfl) (by rfl) ?_)); clear hL; intro wq hL) | ((with_reducible refine gLoadG rfl rfl ?_ ?_); (exact wanted_some rfl rfl rfl (by with_reducible rfl)); (first | (refine ev_load1G (wanted_some rfl rfl rfl rfl) hL rfl rfl HasV.mem (by rfl) ?_) | (refine ev_loadAllG (wanted_some rfl rfl rfl rfl) hL rfl rfl HasV.mem (by rfl) ?_) | (refine ev_loadG_ (wanted_some rfl rfl rfl rfl) hL rfl rfl HasV.mem SegC.seg ?_))))
  go_ret
  exact ⟨rfl, hL.below⟩
set_option maxRecDepth 20000 in
set_option maxHeartbeats 1000000 in
theorem back_walk01 (m k : Msg) (s B : ByteArray) (c : Int) (w : World) (ht0 : Tb w) (hd : m.data.size ≤ 4096) (hs : s.size ≤ 4096) (hp : RetP Tryd.prog 25 #[m.val] (.tuple #[.string B, .int .i64 c])) (t0 : (c == 0) = false) (hg2 : RetP Tryd.prog 27 #[.string s] (.tuple #[k.val, .int .i64 0])) (hp2 : RetP Tryd.prog 25 #[k.val] (.tuple #[.string s, .int .i64 0])) (hc2 : RetP Tryd.prog 17 #[k.val] (.int .i64 0)) :
    Calls Tryd.prog 7 #[m.val, .string s] w fun e w' => e = .returned (.bool true) ∧ Below w.heap.size w w' := by
  have hL := Loc.nil w NoM
  have d1 : decide (4096 < (m.data.size : Int)) = false := by simp; omega
  have d2 : decide (4096 < (s.size : Int)) = false := by simp; omega
  have hbb : (s.toList == s.toList) = true := by simp
  have hne : ∀ w, (binOp .neq 41 m.val m.val).run Tryd.prog w = .ok (.bool false) w := fun w => by rw [msg_neq]; simp
  have heq : ∀ w, (binOp .eql 41 (.agg #[.int .i64 0, .int .i64 0, .int .i64 0, .int .i64 0, .int .i64 0, .int .i64 0, .int .i64 0, .int .i64 0, .int .i64 0, .int .i64 0, .int .i64 0, .int .i64 0, .int .i64 0, .int .i64 0, .int .i64 0, .int .i64 0, .int .i64 0, .int .i64 0, .string ⟨#[]⟩]) (.agg #[.int .i64 0, .int .i64 0, .int .i64 0, .int .i64 0, .int .i64 0, .int .i64 0, .int .i64 0, .int .i64 0, .int .i64 0, .int .i64 0, .int .i64 0, .int .i64 0, .int .i64 0, .int .i64 0, .int .i64 0, .int .i64 0, .int .i64 0, .int .i64 0, .string ⟨#[]⟩])).run Tryd.prog w = .ok (.bool true) w := fun w => by have h := msg_eq exZ exZ w; simp at h; exact h
  clear hd hs
  go_enter Tryd.func7, Tryd.ntmps7
  go_wp2_with (first
    | (go_at_call 16; have hq := aw18_c; (with_reducible refine (hq _ (ht0.below hL.below)).mono ?_); rintro e w7 ⟨rfl, hb7⟩; have hL := hL.call hb7; clear hb7 hq)
    | (go_at_call 25; (with_reducible refine (unhide (hp _)).mono ?_); rintro e w3 ⟨rfl, hb3⟩; have hL := hL.call hb3; clear hb3)
    | (go_at_call 27; (with_reducible refine (unhide (hg2 _)).mono ?_); rintro e w3 ⟨rfl, hb3⟩; have hL := hL.call hb3; clear hb3)
    | (go_at_call 25; (with_reducible refine (unhide (hp2 _)).mono ?_); rintro e w3 ⟨rfl, hb3⟩; have hL := hL.call hb3; clear hb3)
    | (go_at_call 17; (with_reducible refine (unhide (hc2 _)).mono ?_); rintro e w3 ⟨rfl, hb3⟩; have hL := hL.call hb3; clear hb3)
    | ((with_reducible refine gAlloc rfl rfl ?_); (refine ev_allocL rfl hL rfl (by first | exact cells_agg _ rfl | exact cells_int _ _ | exact cells_str _ | exact cells_bool _ | exact cells_slice _ _ _ | exact cells_ptr _ | exact cells_map _ | exact cells_func _ _ _ | exact cells_nilFunc | exact cells_one (by assumption) (by assumption)) ?_; clear hL; intro gq wq hL)) | ((with_reducible refine gBox rfl rfl ?_); (refine ev_boxL rfl hL rfl rfl (by first | exact cells_agg _ rfl | exact cells_int _ _ | exact cells_str _ | exact cells_bool _ | exact cells_slice _ _ _ | exact cells_ptr _ | exact cells_map _ | exact cells_func _ _ _ | exact cells_nilFunc | exact cells_one (by assumption) (by assumption)) ?_; clear hL; intro gq wq hL)) | ((with_reducible refine gLoad rfl rfl ?_); (first | (refine ev_load1L rfl hL rfl rfl HasV.mem (by rfl) ?_) | (refine ev_loadAllL rfl hL rfl rfl HasV.mem (by rfl) ?_) | (refine ev_loadL rfl hL rfl rfl HasV.mem SegC.seg ?_))) | ((with_reducible refine gStore rfl rfl ?_); (first | (refine ev_storeC rfl hL rfl rfl rfl (by first | exact cells_agg _ rfl | exact cells_int _ _ | exact cells_str _ | exact cells_bool _ | exact cells_slice _ _ _ | exact cells_ptr _ | exact cells_map _ | exact cells_func _ _ _ | exact cells_nilFunc | exact cells_one (by assumption) (by assumption)) (by rfl) ?_) | (refine ev_storeAllC rfl hL rfl rfl rfl (by first | exact cells_agg _ rfl | exact cells_int _ _ | exact cells_str _ | exact cells_bool _ | exact cells_slice _ _ _ | exact cells_ptr _ | exact cells_map _ | exact cells_func _ _ _ | exact cells_nilFunc | exact cells_one (by assumption) (by assumption)) (by rfl) (by rfl) ?_)); clear hL; intro wq hL) | ((with_reducible refine gLoadG rfl rfl ?_ ?_); (exact wanted_some rfl rfl rfl (by with_reducible rfl)); (first | (refine ev_load1G (wanted_some rfl rfl rfl rfl) hL rfl rfl HasV.mem (by rfl) ?_) | (refine ev_loadAllG (wanted_some rfl rfl rfl rfl) hL rfl rfl HasV.mem (by rfl) ?_) | (refine ev_loadG_ (wanted_some rfl rfl rfl rfl) hL rfl rfl HasV.mem SegC.seg ?_))))
  go_ret
  exact ⟨rfl, hL.below⟩
set_option maxRecDepth 20000 in
set_option maxHeartbeats 1000000 in
theorem back_walk10 (m k : Msg) (s B : ByteArray) (c : Int) (w : World) (ht0 : Tb w) (hd : m.data.size ≤ 4096) (hs : s.size ≤ 4096) (hp : RetP Tryd.prog 25 #[m.val] (.tuple #[.string B, .int .i64 c])) (t0 : (c == 0) = true) (hg1 : RetP Tryd.prog 27 #[.string B] (.tuple #[m.val, .int .i64 0])) (hg2 : RetP Tryd.prog 27 #[.string s] (.tuple #[exZ.val, .int .i64 201])) :
    Calls Tryd.prog 7 #[m.val, .string s] w fun e w' => e = .returned (.bool true) ∧ Below w.heap.size w w' := by
  have hL := Loc.nil w NoM
  have d1 : decide (4096 < (m.data.size : Int)) = false := by simp; omega
  have d2 : decide (4096 < (s.size : Int)) = false := by simp; omega
  have hbb : (s.toList == s.toList) = true := by simp
  have hne : ∀ w, (binOp .neq 41 m.val m.val).run Tryd.prog w = .ok (.bool false) w := fun w => by rw [msg_neq]; simp
  have heq : ∀ w, (binOp .eql 41 (.agg #[.int .i64 0, .int .i64 0, .int .i64 0, .int .i64 0, .int .i64 0, .int .i64 0, .int .i64 0, .int .i64 0, .int .i64 0, .int .i64 0, .int .i64 0, .int .i64 0, .int .i64 0, .int .i64 0, .int .i64 0, .int .i64 0, .int .i64 0, .int .i64 0, .string ⟨#[]⟩]) (.agg #[.int .i64 0, .int .i64 0, .int .i64 0, .int .i64 0, .int .i64 0, .int .i64 0, .int .i64 0, .int .i64 0, .int .i64 0, .int .i64 0, .int .i64 0, .int .i64 0, .int .i64 0, .int .i64 0, .int .i64 0, .int .i64 0, .int .i64 0, .int .i64 0, .string ⟨#[]⟩])).run Tryd.prog w = .ok (.bool true) w := fun w => by have h := msg_eq exZ exZ w; simp at h; exact h
  clear hd hs
  go_enter Tryd.func7, Tryd.ntmps7
  go_wp2_with (first
    | (go_at_call 16; have hq := aw18_c; (with_reducible refine (hq _ (ht0.below hL.below)).mono ?_); rintro e w7 ⟨rfl, hb7⟩; have hL := hL.call hb7; clear hb7 hq)
    | (go_at_call 25; (with_reducible refine (unhide (hp _)).mono ?_); rintro e w3 ⟨rfl, hb3⟩; have hL := hL.call hb3; clear hb3)
    | (go_at_call 27; (with_reducible refine (unhide (hg1 _)).mono ?_); rintro e w3 ⟨rfl, hb3⟩; have hL := hL.call hb3; clear hb3)
    | (go_at_call 27; (with_reducible refine (unhide (hg2 _)).mono ?_); rintro e w3 ⟨rfl, hb3⟩; have hL := hL.call hb3; clear hb3)
    | ((with_reducible refine gAlloc rfl rfl ?_); (refine ev_allocL rfl hL rfl (by first | exact cells_agg _ rfl | exact cells_int _ _ | exact cells_str _ | exact cells_bool _ | exact cells_slice _ _ _ | exact cells_ptr _ | exact cells_map _ | exact cells_func _ _ _ | exact cells_nilFunc | exact cells_one (by assumption) (by assumption)) ?_; clear hL; intro gq wq hL)) | ((with_reducible refine gBox rfl rfl ?_); (refine ev_boxL rfl hL rfl rfl (by first | exact cells_agg _ rfl | exact cells_int _ _ | exact cells_str _ | exact cells_bool _ | exact cells_slice _ _ _ | exact cells_ptr _ | exact cells_map _ | exact cells_func _ _ _ | exact cells_nilFunc | exact cells_one (by assumption) (by assumption)) ?_; clear hL; intro gq wq hL)) | ((with_reducible refine gLoad rfl rfl ?_); (first | (refine ev_load1L rfl hL rfl rfl HasV.mem (by rfl) ?_) | (refine ev_loadAllL rfl hL rfl rfl HasV.mem (by rfl) ?_) | (refine ev_loadL rfl hL rfl rfl HasV.mem SegC.seg ?_))) | ((with_reducible refine gStore rfl rfl ?_); (first | (refine ev_storeC rfl hL rfl rfl rfl (by first | exact cells_agg _ rfl | exact cells_int _ _ | exact cells_str _ | exact cells_bool _ | exact cells_slice _ _ _ | exact cells_ptr _ | exact cells_map _ | exact cells_func _ _ _ | exact cells_nilFunc | exact cells_one (by assumption) (by assumption)) (by rfl) ?_) | (refine ev_storeAllC rfl hL rfl rfl rfl (by first | exact cells_agg _ rfl | exact cells_int _ _ | exact cells_str _ | exact cells_bool _ | exact cells_slice _ _ _ | exact cells_ptr _ | exact cells_map _ | exact cells_func _ _ _ | exact cells_nilFunc | exact cells_one (by assumption) (by assumption)) (by rfl) (by rfl) ?_)); clear hL; intro wq hL) | ((with_reducible refine gLoadG rfl rfl ?_ ?_); (exact wanted_some rfl rfl rfl (by with_reducible rfl)); (first | (refine ev_load1G (wanted_some rfl rfl rfl rfl) hL rfl rfl HasV.mem (by rfl) ?_) | (refine ev_loadAllG (wanted_some rfl rfl rfl rfl) hL rfl rfl HasV.mem (by rfl) ?_) | (refine ev_loadG_ (wanted_some rfl rfl rfl rfl) hL rfl rfl HasV.mem SegC.seg ?_))))
  go_ret
  exact ⟨rfl, hL.below⟩
set_option maxRecDepth 20000 in
set_option maxHeartbeats 1000000 in
theorem back_walk11 (m k : Msg) (s B : ByteArray) (c : Int) (w : World) (ht0 : Tb w) (hd : m.data.size ≤ 4096) (hs : s.size ≤ 4096) (hp : RetP Tryd.prog 25 #[m.val] (.tuple #[.string B, .int .i64 c])) (t0 : (c == 0) = true) (hg1 : RetP Tryd.prog 27 #[.string B] (.tuple #[m.val, .int .i64 0])) (hg2 : RetP Tryd.prog 27 #[.string s] (.tuple #[k.val, .int .i64 0])) (hp2 : RetP Tryd.prog 25 #[k.val] (.tuple #[.string s, .int .i64 0])) (hc2 : RetP Tryd.prog 17 #[k.val] (.int .i64 0)) :
    Calls Tryd.prog 7 #[m.val, .string s] w fun e w' => e = .returned (.bool true) ∧ Below w.heap.size w w' := by
  have hL := Loc.nil w NoM
  have d1 : decide (4096 < (m.data.size : Int)) = false := by simp; omega
  have d2 : decide (4096 < (s.size : Int)) = false := by simp; omega
  have hbb : (s.toList == s.toList) = true := by simp
  have hne : ∀ w, (binOp .neq 41 m.val m.val).run Tryd.prog w = .ok (.bool false) w := fun w => by rw [msg_neq]; simp
  have heq : ∀ w, (binOp .eql 41 (.agg #[.int .i64 0, .int .i64 0, .int .i64 0, .int .i64 0, .int .i64 0, .int .i64 0, .int .i64 0, .int .i64 0, .int .i64 0, .int .i64 0, .int .i64 0, .int .i64 0, .int .i64 0, .int .i64 0, .int .i64 0, .int .i64 0, .int .i64 0, .int .i64 0, .string ⟨#[]⟩]) (.agg #[.int .i64 0, .int .i64 0, .int .i64 0, .int .i64 0, .int .i64 0, .int .i64 0, .int .i64 0, .int .i64 0, .int .i64 0, .int .i64 0, .int .i64 0, .int .i64 0, .int .i64 0, .int .i64 0, .int .i64 0, .int .i64 0, .int .i64 0, .int .i64 0, .string ⟨#[]⟩])).run Tryd.prog w = .ok (.bool true) w := fun w => by have h := msg_eq exZ exZ w; simp at h; exact h
  clear hd hs
  go_enter Tryd.func7, Tryd.ntmps7
  go_wp2_with (first
    | (go_at_call 16; have hq := aw18_c; (with_reducible refine (hq _ (ht0.below hL.below)).mono ?_); rintro e w7 ⟨rfl, hb7⟩; have hL := hL.call hb7; clear hb7 hq)
    | (go_at_call 25; (with_reducible refine (unhide (hp _)).mono ?_); rintro e w3 ⟨rfl, hb3⟩; have hL := hL.call hb3; clear hb3)
    | (go_at_call 27; (with_reducible refine (unhide (hg1 _)).mono ?_); rintro e w3 ⟨rfl, hb3⟩; have hL := hL.call hb3; clear hb3)
    | (go_at_call 27; (with_reducible refine (unhide (hg2 _)).mono ?_); rintro e w3 ⟨rfl, hb3⟩; have hL := hL.call hb3; clear hb3)
    | (go_at_call 25; (with_reducible refine (unhide (hp2 _)).mono ?_); rintro e w3 ⟨rfl, hb3⟩; have hL := hL.call hb3; clear hb3)
    | (go_at_call 17; (with_reducible refine (unhide (hc2 _)).mono ?_); rintro e w3 ⟨rfl, hb3⟩; have hL := hL.call hb3; clear hb3)
    | ((with_reducible refine gAlloc rfl rfl ?_); (refine ev_allocL rfl hL rfl (by first | exact cells_agg _ rfl | exact cells_int _ _ | exact cells_str _ | exact cells_bool _ | exact cells_slice _ _ _ | exact cells_ptr _ | exact cells_map _ | exact cells_func _ _ _ | exact cells_nilFunc | exact cells_one (by assumption) (by assumption)) ?_; clear hL; intro gq wq hL)) | ((with_reducible refine gBox rfl rfl ?_); (refine ev_boxL rfl hL rfl rfl (by first | exact cells_agg _ rfl | exact cells_int _ _ | exact cells_str _ | exact cells_bool _ | exact cells_slice _ _ _ | exact cells_ptr _ | exact cells_map _ | exact cells_func _ _ _ | exact cells_nilFunc | exact cells_one (by assumption) (by assumption)) ?_; clear hL; intro gq wq hL)) | ((with_reducible refine gLoad rfl rfl ?_); (first | (refine ev_load1L rfl hL rfl rfl HasV.mem (by rfl) ?_) | (refine ev_loadAllL rfl hL rfl rfl HasV.mem (by rfl) ?_) | (refine ev_loadL rfl hL rfl rfl HasV.mem SegC.seg ?_))) | ((with_reducible refine gStore rfl rfl ?_); (first | (refine ev_storeC rfl hL rfl rfl rfl (by first | exact cells_agg _ rfl | exact cells_int _ _ | exact cells_str _ | exact cells_bool _ | exact cells_slice _ _ _ | exact cells_ptr _ | exact cells_map _ | exact cells_func _ _ _ | exact cells_nilFunc | exact cells_one (by assumption) (by assumption)) (by rfl) ?_) | (refine ev_storeAllC rfl hL rfl rfl rfl (by first | exact cells_agg _ rfl | exact cells_int _ _ | exact cells_str _ | exact cells_bool _ | exact cells_slice _ _ _ | exact cells_ptr _ | exact cells_map _ | exact cells_func _ _ _ | exact cells_nilFunc | exact cells_one (by assumption) (by assumption)) (by rfl) (by rfl) ?_)); clear hL; intro wq hL) | ((with_reducible refine gLoadG rfl rfl ?_ ?_); (exact wanted_some rfl rfl rfl (by with_reducible rfl)); (first | (refine ev_load1G (wanted_some rfl rfl rfl rfl) hL rfl rfl HasV.mem (by rfl) ?_) | (refine ev_loadAllG (wanted_some rfl rfl rfl rfl) hL rfl rfl HasV.mem (by rfl) ?_) | (refine ev_loadG_ (wanted_some rfl rfl rfl rfl) hL rfl rfl HasV.mem SegC.seg ?_))))
  go_ret
  exact ⟨rfl, hL.below⟩
theorem back_long (m : Msg) (s : ByteArray) (w : World) (ht0 : Tb w) (h : 4096 < m.data.size ∨ 4096 < s.size) :
    Calls Tryd.prog 7 #[m.val, .string s] w fun e w' => e = .returned (.bool true) ∧ Below w.heap.size w w' := by
  have hL := Loc.nil w NoM
  by_cases hd : 4096 < m.data.size
  · have d1 : decide (4096 < (m.data.size : Int)) = true := by simp; omega
    clear h
    go_enter Tryd.func7, Tryd.ntmps7
    go_wp2_with (first
      | (go_at_call 16; have hq := aw18_c; (with_reducible refine (hq _ (ht0.below hL.below)).mono ?_); rintro e w7 ⟨rfl, hb7⟩; have hL := hL.call hb7; clear hb7 hq)
      | ((with_reducible refine gAlloc rfl rfl ?_); (refine ev_allocL rfl hL rfl (by first | exact cells_agg _ rfl | exact cells_int _ _ | exact cells_str _ | exact cells_bool _ | exact cells_slice _ _ _ | exact cells_ptr _ | exact cells_map _ | exact cells_func _ _ _ | exact cells_nilFunc | exact cells_one (by assumption) (by assumption)) ?_; clear hL; intro gq wq hL)) | ((with_reducible refine gBox rfl rfl ?_); (refine ev_boxL rfl hL rfl rfl (by first | exact cells_agg _ rfl | exact cells_int _ _ | exact cells_str _ | exact cells_bool _ | exact cells_slice _ _ _ | exact cells_ptr _ | exact cells_map _ | exact cells_func _ _ _ | exact cells_nilFunc | exact cells_one (by assumption) (by assumption)) ?_; clear hL; intro gq wq hL)) | ((with_reducible refine gLoad rfl rfl ?_); (first | (refine ev_load1L rfl hL rfl rfl HasV.mem (by rfl) ?_) | (refine ev_loadAllL rfl hL rfl rfl HasV.mem (by rfl) ?_) | (refine ev_loadL rfl hL rfl rfl HasV.mem SegC.seg ?_))) | ((with_reducible refine gStore rfl rfl ?_); (first | (refine ev_storeC rfl hL rfl rfl rfl (by first | exact cells_agg _ rfl | exact cells_int _ _ | exact cells_str _ | exact cells_bool _ | exact cells_slice _ _ _ | exact cells_ptr _ | exact cells_map _ | exact cells_func _ _ _ | exact cells_nilFunc | exact cells_one (by assumption) (by assumption)) (by rfl) ?_) | (refine ev_storeAllC rfl hL rfl rfl rfl (by first | exact cells_agg _ rfl | exact cells_int _ _ | exact cells_str _ | exact cells_bool _ | exact cells_slice _ _ _ | exact cells_ptr _ | exact cells_map _ | exact cells_func _ _ _ | exact cells_nilFunc | exact cells_one (by assumption) (by assumption)) (by rfl) (by rfl) ?_)); clear hL; intro wq hL) | ((with_reducible refine gLoadG rfl rfl ?_ ?_); (exact wanted_some rfl rfl rfl (by with_reducible rfl)); (first | (refine ev_load1G (wanted_some rfl rfl rfl rfl) hL rfl rfl HasV.mem (by rfl) ?_) | (refine ev_loadAllG (wanted_some rfl rfl rfl rfl) hL rfl rfl HasV.mem (by rfl) ?_) | (refine ev_loadG_ (wanted_some rfl rfl rfl rfl) hL rfl rfl HasV.mem SegC.seg ?_))))
    go_ret
    exact ⟨rfl, hL.below⟩
  · have d1 : decide (4096 < (m.data.size : Int)) = false := by simp; omega
    have d2 : decide (4096 < (s.size : Int)) = true := by simp; omega
    clear h
    go_enter Tryd.func7, Tryd.ntmps7
    go_wp2_with (first
      | (go_at_call 16; have hq := aw18_c; (with_reducible refine (hq _ (ht0.below hL.below)).mono ?_); rintro e w7 ⟨rfl, hb7⟩; have hL := hL.call hb7; clear hb7 hq)
      | ((with_reducible refine gAlloc rfl rfl ?_); (refine ev_allocL rfl hL rfl (by first | exact cells_agg _ rfl | exact cells_int _ _ | exact cells_str _ | exact cells_bool _ | exact cells_slice _ _ _ | exact cells_ptr _ | exact cells_map _ | exact cells_func _ _ _ | exact cells_nilFunc | exact cells_one (by assumption) (by assumption)) ?_; clear hL; intro gq wq hL)) | ((with_reducible refine gBox rfl rfl ?_); (refine ev_boxL rfl hL rfl rfl (by first | exact cells_agg _ rfl | exact cells_int _ _ | exact cells_str _ | exact cells_bool _ | exact cells_slice _ _ _ | exact cells_ptr _ | exact cells_map _ | exact cells_func _ _ _ | exact cells_nilFunc | exact cells_one (by assumption) (by assumption)) ?_; clear hL; intro gq wq hL)) | ((with_reducible refine gLoad rfl rfl ?_); (first | (refine ev_load1L rfl hL rfl rfl HasV.mem (by rfl) ?_) | (refine ev_loadAllL rfl hL rfl rfl HasV.mem (by rfl) ?_) | (refine ev_loadL rfl hL rfl rfl HasV.mem SegC.seg ?_))) | ((with_reducible refine gStore rfl rfl ?_); (first | (refine ev_storeC rfl hL rfl rfl rfl (by first | exact cells_agg _ rfl | exact cells_int _ _ | exact cells_str _ | exact cells_bool _ | exact cells_slice _ _ _ | exact cells_ptr _ | exact cells_map _ | exact cells_func _ _ _ | exact cells_nilFunc | exact cells_one (by assumption) (by assumption)) (by rfl) ?_) | (refine ev_storeAllC rfl hL rfl rfl rfl (by first | exact cells_agg _ rfl | exact cells_int _ _ | exact cells_str _ | exact cells_bool _ | exact cells_slice _ _ _ | exact cells_ptr _ | exact cells_map _ | exact cells_func _ _ _ | exact cells_nilFunc | exact cells_one (by assumption) (by assumption)) (by rfl) (by rfl) ?_)); clear hL; intro wq hL) | ((with_reducible refine gLoadG rfl rfl ?_ ?_); (exact wanted_some rfl rfl rfl (by with_reducible rfl)); (first | (refine ev_load1G (wanted_some rfl rfl rfl rfl) hL rfl rfl HasV.mem (by rfl) ?_) | (refine ev_loadAllG (wanted_some rfl rfl rfl rfl) hL rfl rfl HasV.mem (by rfl) ?_) | (refine ev_loadG_ (wanted_some rfl rfl rfl rfl) hL rfl rfl HasV.mem SegC.seg ?_))))
    go_ret
    exact ⟨rfl, hL.below⟩
/-- What msg.Get hands back of s, in every world. -/
theorem get_det (s : ByteArray) (hs : s.size ≤ 10000000000) :
    (∃ k : Msg, gotM s = some k ∧ RetP Tryd.prog 27 #[.string s] (.tuple #[k.val, .int .i64 0])) ∨ (gotM s = none ∧ RetP Tryd.prog 27 #[.string s] (.tuple #[exZ.val, .int .i64 201])) := by
  cases hg : gotM s with
  | none =>
    refine .inr ⟨rfl, fun w => hide ((msg_Get s w hs).mono fun e w' ⟨h1, h2⟩ => ⟨?_, h2⟩)⟩
    rcases h1 with ⟨m, e1, _⟩ | ⟨_, h1⟩
    · rw [hg] at e1; cases e1
    · exact h1
  | some k =>
    refine .inl ⟨k, rfl, fun w => hide ((msg_Get s w hs).mono fun e w' ⟨h1, h2⟩ => ⟨?_, h2⟩)⟩
    rcases h1 with ⟨m, e1, h1⟩ | ⟨e1, _⟩
    · rw [hg] at e1; injection e1 with e1; rw [e1]; exact h1
    · rw [hg] at e1; cases e1
theorem msg_back (m : Msg) (s : ByteArray) (w : World) (_ : m.data.size ≤ 4096 → m.wf) (_ : s.size ≤ maxLen) (ht0 : Tb w) :
    Calls Tryd.prog 7 #[m.val, .string s] w fun e w' => e = .returned (.bool true) ∧ Below w.heap.size w w' := by
  by_cases hd : m.data.size ≤ 4096
  · by_cases hs : s.size ≤ 4096
    · have hp : RetP Tryd.prog 25 #[m.val] (.tuple #[.string m.putB, .int .i64 m.code]) := fun w => hide (msg_Put m w)
      have hk : ∀ k : Msg, gotM s = some k → RetP Tryd.prog 25 #[k.val] (.tuple #[.string s, .int .i64 0]) ∧ RetP Tryd.prog 17 #[k.val] (.int .i64 0) := fun k hg => by
        obtain ⟨h1, h2⟩ := gotM_put hg
        refine ⟨fun w => hide ?_, fun w => hide ?_⟩
        · have h3 := msg_Put k w
          rw [k.code_ok h1, h2] at h3
          exact h3
        · have h3 := msg_check k w
          rw [k.code_ok h1] at h3
          exact h3
      cases hok : m.ok
      · have t0 : (m.code == 0) = false := by simp [Msg.code, hok]
        rcases get_det s (by omega) with ⟨k, hg, hg2⟩ | ⟨hg, hg2⟩
        · exact back_walk01 m k s _ _ w ht0 hd hs hp t0 hg2 (hk k hg).1 (hk k hg).2
        · exact back_walk00 m m s _ _ w ht0 hd hs hp t0 hg2
      · have t0 : (m.code == 0) = true := by simp [Msg.code, hok]
        have hg1 : RetP Tryd.prog 27 #[.string m.putB] (.tuple #[m.val, .int .i64 0]) := fun w => hide (by rw [show m.putB = ⟨(sealed m.bytes).toArray⟩ by simp [Msg.putB, hok]]; exact msg_get m w hok)
        rcases get_det s (by omega) with ⟨k, hg, hg2⟩ | ⟨hg, hg2⟩
        · exact back_walk11 m k s _ _ w ht0 hd hs hp t0 hg1 hg2 (hk k hg).1 (hk k hg).2
        · exact back_walk10 m m s _ _ w ht0 hd hs hp t0 hg1 hg2
    · exact back_long m s w ht0 (.inr (by omega))
  · exact back_long m s w ht0 (.inl (by omega))
end Go.Proofs.YtbkffeabikjnhaaDoor

/- MsgGets walked. -/
namespace Go.Proofs.YtbkffeabikjnhaaDoor
open Go.RowKit

theorem rget_det (s : ByteArray) (hs : s.size ≤ 10000000000) :
    (∃ k : Msg, gotM s = some k ∧ RetP Tryd.prog 28 #[.string s] (.tuple #[k.val, .int .i64 0])) ∨ (gotM s = none ∧ RetP Tryd.prog 28 #[.string s] (.tuple #[exZ.val, .int .i64 201])) := by
  have hB : (if 8 ≤ s.size then openCut s else ⟨#[]⟩).size ≤ 100000000000 := by
    split
    · unfold openCut; rw [ByteArray.size_extract]; omega
    · show (0 : Nat) ≤ _; omega
  have hw := fun w => rget_walk s _ (openOk s) w hB (fun w => ropen s w hs)
  cases hg : gotM s with
  | none =>
    refine .inr ⟨rfl, fun w => hide ((hw w).mono fun e w' ⟨h1, h2⟩ => ⟨?_, h2⟩)⟩
    rcases h1 with ⟨m, ho, hm, hok, _⟩ | ⟨_, h1⟩
    · have h8 : 8 ≤ s.size := by unfold openOk at ho; simp only [Bool.and_eq_true, decide_eq_true_eq] at ho; exact ho.1
      rw [if_pos h8] at hm
      unfold gotM at hg
      rw [if_pos ho, hm, Option.bind_some, if_pos ⟨rfl, hok⟩] at hg
      cases hg
    · exact h1
  | some k =>
    refine .inl ⟨k, rfl, fun w => hide ((hw w).mono fun e w' ⟨h1, h2⟩ => ⟨?_, h2⟩)⟩
    unfold gotM at hg
    split at hg
    · rename_i ho
      have h8 : 8 ≤ s.size := by unfold openOk at ho; simp only [Bool.and_eq_true, decide_eq_true_eq] at ho; exact ho.1
      rw [if_pos h8] at h1
      simp only [Option.bind_eq_some_iff] at hg
      obtain ⟨⟨m, r⟩, hm, hg⟩ := hg
      simp only at hg
      split at hg
      · rename_i hr
        obtain ⟨rfl, hok⟩ := hr
        simp only [Option.some.injEq] at hg
        subst hg
        rcases h1 with ⟨m', _, hm', _, he⟩ | ⟨hno, _⟩
        · rw [hm] at hm'
          simp only [Option.some.injEq, Prod.mk.injEq, and_true] at hm'
          rw [hm']; exact he
        · rw [hno m ho hm] at hok; cases hok
      · cases hg
    · cases hg
theorem gets_walk (s : ByteArray) (v : Value) (cs : List Value) (c : Int) (w : World) (ht0 : Tb w) (hs : s.size ≤ 4096) (hv : v = .agg cs.toArray) (hcs : cs.length = 19) (h1 : ∀ u ∈ cs, u.oneCell' = true) (heq : ∀ w, (binOp .eql 41 (.agg cs.toArray) (.agg cs.toArray)).run Tryd.prog w = .ok (.bool true) w)
    (hg : RetP Tryd.prog 27 #[.string s] (.tuple #[.agg cs.toArray, .int .i64 c])) (hr : RetP Tryd.prog 28 #[.string s] (.tuple #[.agg cs.toArray, .int .i64 c])) :
    Calls Tryd.prog 6 #[.string s] w fun e w' => e = .returned (.bool true) ∧ Below w.heap.size w w' := by
  have hL := Loc.nil w NoM
  have d2 : decide (4096 < (s.size : Int)) = false := by simp; omega
  have hcc : (c == c) = true := by simp
  have hco : CellsOf (.agg cs.toArray) cs := ⟨rfl, h1⟩
  clear hs h1 hv
  go_enter Tryd.func6, Tryd.ntmps6
  go_wp2_with (first
    | (go_at_call 27; (with_reducible refine (unhide (hg _)).mono ?_); rintro e w3 ⟨rfl, hb3⟩; have hL := hL.call hb3; clear hb3)
    | (go_at_call 28; (with_reducible refine (unhide (hr _)).mono ?_); rintro e w3 ⟨rfl, hb3⟩; have hL := hL.call hb3; clear hb3)
    | (go_at_call 16; have hq := aw18_c; (with_reducible refine (hq _ (ht0.below hL.below)).mono ?_); rintro e w7 ⟨rfl, hb7⟩; have hL := hL.call hb7; clear hb7 hq)
    | ((with_reducible refine gStore rfl rfl ?_); (refine ev_storeAllC rfl hL rfl rfl rfl hco hcs (by rw [hcs]; rfl) ?_; clear hL; intro wq hL))
    | ((with_reducible refine gLoad rfl rfl ?_); (refine ev_loadAllL rfl hL rfl rfl HasV.mem hcs ?_))
    | ((with_reducible refine gAlloc rfl rfl ?_); (refine ev_allocL rfl hL rfl (by first | exact cells_agg _ rfl | exact cells_int _ _ | exact cells_str _ | exact cells_bool _ | exact cells_slice _ _ _ | exact cells_ptr _ | exact cells_map _ | exact cells_func _ _ _ | exact cells_nilFunc | exact cells_one (by assumption) (by assumption)) ?_; clear hL; intro gq wq hL)) | ((with_reducible refine gBox rfl rfl ?_); (refine ev_boxL rfl hL rfl rfl (by first | exact cells_agg _ rfl | exact cells_int _ _ | exact cells_str _ | exact cells_bool _ | exact cells_slice _ _ _ | exact cells_ptr _ | exact cells_map _ | exact cells_func _ _ _ | exact cells_nilFunc | exact cells_one (by assumption) (by assumption)) ?_; clear hL; intro gq wq hL)) | ((with_reducible refine gLoad rfl rfl ?_); (first | (refine ev_load1L rfl hL rfl rfl HasV.mem (by rfl) ?_) | (refine ev_loadAllL rfl hL rfl rfl HasV.mem (by rfl) ?_) | (refine ev_loadL rfl hL rfl rfl HasV.mem SegC.seg ?_))) | ((with_reducible refine gStore rfl rfl ?_); (first | (refine ev_storeC rfl hL rfl rfl rfl (by first | exact cells_agg _ rfl | exact cells_int _ _ | exact cells_str _ | exact cells_bool _ | exact cells_slice _ _ _ | exact cells_ptr _ | exact cells_map _ | exact cells_func _ _ _ | exact cells_nilFunc | exact cells_one (by assumption) (by assumption)) (by rfl) ?_) | (refine ev_storeAllC rfl hL rfl rfl rfl (by first | exact cells_agg _ rfl | exact cells_int _ _ | exact cells_str _ | exact cells_bool _ | exact cells_slice _ _ _ | exact cells_ptr _ | exact cells_map _ | exact cells_func _ _ _ | exact cells_nilFunc | exact cells_one (by assumption) (by assumption)) (by rfl) (by rfl) ?_)); clear hL; intro wq hL) | ((with_reducible refine gLoadG rfl rfl ?_ ?_); (exact wanted_some rfl rfl rfl (by with_reducible rfl)); (first | (refine ev_load1G (wanted_some rfl rfl rfl rfl) hL rfl rfl HasV.mem (by rfl) ?_) | (refine ev_loadAllG (wanted_some rfl rfl rfl rfl) hL rfl rfl HasV.mem (by rfl) ?_) | (refine ev_loadG_ (wanted_some rfl rfl rfl rfl) hL rfl rfl HasV.mem SegC.seg ?_))))
  go_ret
  exact ⟨rfl, hL.below⟩
theorem gets_long (s : ByteArray) (w : World) (ht0 : Tb w) (h : 4096 < s.size) :
    Calls Tryd.prog 6 #[.string s] w fun e w' => e = .returned (.bool true) ∧ Below w.heap.size w w' := by
  have hL := Loc.nil w NoM
  have d2 : decide (4096 < (s.size : Int)) = true := by simp; omega
  clear h
  go_enter Tryd.func6, Tryd.ntmps6
  go_wp2_with (first
    | (go_at_call 16; have hq := aw18_c; (with_reducible refine (hq _ (ht0.below hL.below)).mono ?_); rintro e w7 ⟨rfl, hb7⟩; have hL := hL.call hb7; clear hb7 hq)
    | ((with_reducible refine gAlloc rfl rfl ?_); (refine ev_allocL rfl hL rfl (by first | exact cells_agg _ rfl | exact cells_int _ _ | exact cells_str _ | exact cells_bool _ | exact cells_slice _ _ _ | exact cells_ptr _ | exact cells_map _ | exact cells_func _ _ _ | exact cells_nilFunc | exact cells_one (by assumption) (by assumption)) ?_; clear hL; intro gq wq hL)) | ((with_reducible refine gBox rfl rfl ?_); (refine ev_boxL rfl hL rfl rfl (by first | exact cells_agg _ rfl | exact cells_int _ _ | exact cells_str _ | exact cells_bool _ | exact cells_slice _ _ _ | exact cells_ptr _ | exact cells_map _ | exact cells_func _ _ _ | exact cells_nilFunc | exact cells_one (by assumption) (by assumption)) ?_; clear hL; intro gq wq hL)) | ((with_reducible refine gLoad rfl rfl ?_); (first | (refine ev_load1L rfl hL rfl rfl HasV.mem (by rfl) ?_) | (refine ev_loadAllL rfl hL rfl rfl HasV.mem (by rfl) ?_) | (refine ev_loadL rfl hL rfl rfl HasV.mem SegC.seg ?_))) | ((with_reducible refine gStore rfl rfl ?_); (first | (refine ev_storeC rfl hL rfl rfl rfl (by first | exact cells_agg _ rfl | exact cells_int _ _ | exact cells_str _ | exact cells_bool _ | exact cells_slice _ _ _ | exact cells_ptr _ | exact cells_map _ | exact cells_func _ _ _ | exact cells_nilFunc | exact cells_one (by assumption) (by assumption)) (by rfl) ?_) | (refine ev_storeAllC rfl hL rfl rfl rfl (by first | exact cells_agg _ rfl | exact cells_int _ _ | exact cells_str _ | exact cells_bool _ | exact cells_slice _ _ _ | exact cells_ptr _ | exact cells_map _ | exact cells_func _ _ _ | exact cells_nilFunc | exact cells_one (by assumption) (by assumption)) (by rfl) (by rfl) ?_)); clear hL; intro wq hL) | ((with_reducible refine gLoadG rfl rfl ?_ ?_); (exact wanted_some rfl rfl rfl (by with_reducible rfl)); (first | (refine ev_load1G (wanted_some rfl rfl rfl rfl) hL rfl rfl HasV.mem (by rfl) ?_) | (refine ev_loadAllG (wanted_some rfl rfl rfl rfl) hL rfl rfl HasV.mem (by rfl) ?_) | (refine ev_loadG_ (wanted_some rfl rfl rfl rfl) hL rfl rfl HasV.mem SegC.seg ?_))))
  go_ret
  exact ⟨rfl, hL.below⟩
theorem msg_gets (s : ByteArray) (w : World) (_ : s.size ≤ maxLen) (ht0 : Tb w) :
    Calls Tryd.prog 6 #[.string s] w fun e w' => e = .returned (.bool true) ∧ Below w.heap.size w w' := by
  by_cases hs : s.size ≤ 4096
  · have heq : ∀ (m : Msg) w, (binOp .eql 41 (.agg m.cells.toArray) (.agg m.cells.toArray)).run Tryd.prog w = .ok (.bool true) w := fun m w => by have h := msg_eq m m w; simp at h; exact h
    have hone : ∀ m : Msg, ∀ u ∈ m.cells, u.oneCell' = true := fun m => by simp [Msg.cells, Value.oneCell']
    rcases get_det s (by omega) with ⟨k, hk, hg⟩ | ⟨hk, hg⟩
    · rcases rget_det s (by omega) with ⟨k2, hk2, hr⟩ | ⟨hk2, _⟩
      · rw [hk] at hk2
        injection hk2 with hk2
        subst hk2
        exact gets_walk s _ k.cells 0 w ht0 hs rfl rfl (hone k) (heq k) hg hr
      · rw [hk] at hk2; cases hk2
    · rcases rget_det s (by omega) with ⟨k2, hk2, _⟩ | ⟨_, hr⟩
      · rw [hk] at hk2; cases hk2
      · exact gets_walk s _ exZ.cells 201 w ht0 hs rfl rfl (hone exZ) (heq exZ) hg hr
  · exact gets_long s w ht0 (by omega)
end Go.Proofs.YtbkffeabikjnhaaDoor
