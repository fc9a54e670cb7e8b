/- Chapter 29: how two events stand. -/
import Derived.Test.YtebpacmhdkgfeaaDoorSto3
import Derived.Test.YtebpacmhdkgfeaaDoorV8
namespace Go.Proofs.YtebpacmhdkgfeaaDoor
open Go.RowKit

structure Evt where
  at_ : Mk
  vol : Int
  (knew seen : V8)
  (na : Option Addr)
  (nn nc : Nat)
  (la : Option Addr)
  (ln lc : Nat)
def Evt.cells (e : Evt) : List Value := [.int .i64 e.at_.boot, .int .i64 e.at_.n, .int .i64 e.vol, .int .i64 e.knew.a0, .int .i64 e.knew.a1, .int .i64 e.knew.a2, .int .i64 e.knew.a3, .int .i64 e.knew.a4, .int .i64 e.knew.a5, .int .i64 e.knew.a6, .int .i64 e.knew.a7, .int .i64 e.seen.a0, .int .i64 e.seen.a1, .int .i64 e.seen.a2, .int .i64 e.seen.a3, .int .i64 e.seen.a4, .int .i64 e.seen.a5, .int .i64 e.seen.a6, .int .i64 e.seen.a7, .slice e.na e.nn e.nc, .slice e.la e.ln e.lc]
def Evt.cmp (a b : Evt) : Int := if a.at_.less b.at_ = true then -1 else if a.at_ = b.at_ then (if a.vol < b.vol then -1 else if a.vol = b.vol then 0 else 1) else 1
set_option maxHeartbeats 1000000
theorem order_less (a b : Evt) (w : World) (hl : a.at_.less b.at_ = true) (he : decide (a.at_ = b.at_) = false) :
    Calls Tryd.prog 32 #[.agg a.cells.toArray, .agg b.cells.toArray] w fun e w' => e = .returned (.int .i64 (-1)) ∧ Below w.heap.size w w' := by
  have hL := Loc.nil w NoM
  have hq : ∀ w, Hid (Calls Tryd.prog 51 #[.agg #[.int .i64 a.at_.boot, .int .i64 a.at_.n], .agg #[.int .i64 b.at_.boot, .int .i64 b.at_.n]] w fun e w' => e = .returned (.bool true) ∧ Below w.heap.size w w') := fun w => hide (by have q := vec_less a.at_ b.at_ w; rw [hl] at q; exact q)
  have heq : ∀ w, (binOp .eql 23 (.agg #[.int .i64 a.at_.boot, .int .i64 a.at_.n]) (.agg #[.int .i64 b.at_.boot, .int .i64 b.at_.n])).run Tryd.prog w = .ok (.bool false) w := fun w => by have q := stamp_eq a.at_ b.at_ w; rw [he] at q; exact q
  clear hl he
  unfold Evt.cells
  go_enter Tryd.func32, Tryd.ntmps32
  go_wp2_with (first
    | (go_at_call 51; (with_reducible refine (unhide (hq _)).mono ?_); rintro e w3 ⟨rfl, hb3⟩; have hL := hL.call hb3; clear hb3 hq)
    | ((with_reducible refine gAlloc rfl rfl ?_); (refine ev_allocL rfl hL rfl (by first | exact cells_agg _ rfl | exact cells_int _ _ | exact cells_str _ | exact cells_bool _ | exact cells_slice _ _ _ | exact cells_ptr _ | exact cells_map _ | exact cells_func _ _ _ | exact cells_nilFunc | exact cells_one (by assumption) (by assumption)) ?_; clear hL; intro gq wq hL)) | ((with_reducible refine gBox rfl rfl ?_); (refine ev_boxL rfl hL rfl rfl (by first | exact cells_agg _ rfl | exact cells_int _ _ | exact cells_str _ | exact cells_bool _ | exact cells_slice _ _ _ | exact cells_ptr _ | exact cells_map _ | exact cells_func _ _ _ | exact cells_nilFunc | exact cells_one (by assumption) (by assumption)) ?_; clear hL; intro gq wq hL)) | ((with_reducible refine gLoad rfl rfl ?_); (first | (refine ev_load1L rfl hL rfl rfl HasV.mem (by rfl) ?_) | (refine ev_loadAllL rfl hL rfl rfl HasV.mem (by rfl) ?_) | (refine ev_loadL rfl hL rfl rfl HasV.mem SegC.seg ?_))) | ((with_reducible refine gStore rfl rfl ?_); (first | (refine ev_storeC rfl hL rfl rfl rfl (by first | exact cells_agg _ rfl | exact cells_int _ _ | exact cells_str _ | exact cells_bool _ | exact cells_slice _ _ _ | exact cells_ptr _ | exact cells_map _ | exact cells_func _ _ _ | exact cells_nilFunc | exact cells_one (by assumption) (by assumption)) (by rfl) ?_) | (refine ev_storeAllC rfl hL rfl rfl rfl (by first | exact cells_agg _ rfl | exact cells_int _ _ | exact cells_str _ | exact cells_bool _ | exact cells_slice _ _ _ | exact cells_ptr _ | exact cells_map _ | exact cells_func _ _ _ | exact cells_nilFunc | exact cells_one (by assumption) (by assumption)) (by rfl) (by rfl) ?_)); clear hL; intro wq hL) | ((with_reducible refine gLoadG rfl rfl ?_ ?_); (exact wanted_some rfl rfl rfl (by with_reducible rfl)); (first | (refine ev_load1G (wanted_some rfl rfl rfl rfl) hL rfl rfl HasV.mem (by rfl) ?_) | (refine ev_loadAllG (wanted_some rfl rfl rfl rfl) hL rfl rfl HasV.mem (by rfl) ?_) | (refine ev_loadG_ (wanted_some rfl rfl rfl rfl) hL rfl rfl HasV.mem SegC.seg ?_))))
  go_ret
  exact ⟨rfl, hL.below⟩
theorem order_vol (a b : Evt) (w : World) (hl : a.at_.less b.at_ = false) (he : decide (a.at_ = b.at_) = true) (hv : a.vol < b.vol) :
    Calls Tryd.prog 32 #[.agg a.cells.toArray, .agg b.cells.toArray] w fun e w' => e = .returned (.int .i64 (-1)) ∧ Below w.heap.size w w' := by
  have hL := Loc.nil w NoM
  have hq : ∀ w, Hid (Calls Tryd.prog 51 #[.agg #[.int .i64 a.at_.boot, .int .i64 a.at_.n], .agg #[.int .i64 b.at_.boot, .int .i64 b.at_.n]] w fun e w' => e = .returned (.bool false) ∧ Below w.heap.size w w') := fun w => hide (by have q := vec_less a.at_ b.at_ w; rw [hl] at q; exact q)
  have heq : ∀ w, (binOp .eql 23 (.agg #[.int .i64 a.at_.boot, .int .i64 a.at_.n]) (.agg #[.int .i64 b.at_.boot, .int .i64 b.at_.n])).run Tryd.prog w = .ok (.bool true) w := fun w => by have q := stamp_eq a.at_ b.at_ w; rw [he] at q; exact q
  clear hl he
  unfold Evt.cells
  go_enter Tryd.func32, Tryd.ntmps32
  go_wp2_with (first
    | (go_at_call 51; (with_reducible refine (unhide (hq _)).mono ?_); rintro e w3 ⟨rfl, hb3⟩; have hL := hL.call hb3; clear hb3 hq)
    | ((with_reducible refine gAlloc rfl rfl ?_); (refine ev_allocL rfl hL rfl (by first | exact cells_agg _ rfl | exact cells_int _ _ | exact cells_str _ | exact cells_bool _ | exact cells_slice _ _ _ | exact cells_ptr _ | exact cells_map _ | exact cells_func _ _ _ | exact cells_nilFunc | exact cells_one (by assumption) (by assumption)) ?_; clear hL; intro gq wq hL)) | ((with_reducible refine gBox rfl rfl ?_); (refine ev_boxL rfl hL rfl rfl (by first | exact cells_agg _ rfl | exact cells_int _ _ | exact cells_str _ | exact cells_bool _ | exact cells_slice _ _ _ | exact cells_ptr _ | exact cells_map _ | exact cells_func _ _ _ | exact cells_nilFunc | exact cells_one (by assumption) (by assumption)) ?_; clear hL; intro gq wq hL)) | ((with_reducible refine gLoad rfl rfl ?_); (first | (refine ev_load1L rfl hL rfl rfl HasV.mem (by rfl) ?_) | (refine ev_loadAllL rfl hL rfl rfl HasV.mem (by rfl) ?_) | (refine ev_loadL rfl hL rfl rfl HasV.mem SegC.seg ?_))) | ((with_reducible refine gStore rfl rfl ?_); (first | (refine ev_storeC rfl hL rfl rfl rfl (by first | exact cells_agg _ rfl | exact cells_int _ _ | exact cells_str _ | exact cells_bool _ | exact cells_slice _ _ _ | exact cells_ptr _ | exact cells_map _ | exact cells_func _ _ _ | exact cells_nilFunc | exact cells_one (by assumption) (by assumption)) (by rfl) ?_) | (refine ev_storeAllC rfl hL rfl rfl rfl (by first | exact cells_agg _ rfl | exact cells_int _ _ | exact cells_str _ | exact cells_bool _ | exact cells_slice _ _ _ | exact cells_ptr _ | exact cells_map _ | exact cells_func _ _ _ | exact cells_nilFunc | exact cells_one (by assumption) (by assumption)) (by rfl) (by rfl) ?_)); clear hL; intro wq hL) | ((with_reducible refine gLoadG rfl rfl ?_ ?_); (exact wanted_some rfl rfl rfl (by with_reducible rfl)); (first | (refine ev_load1G (wanted_some rfl rfl rfl rfl) hL rfl rfl HasV.mem (by rfl) ?_) | (refine ev_loadAllG (wanted_some rfl rfl rfl rfl) hL rfl rfl HasV.mem (by rfl) ?_) | (refine ev_loadG_ (wanted_some rfl rfl rfl rfl) hL rfl rfl HasV.mem SegC.seg ?_))))
  go_ret
  exact ⟨rfl, hL.below⟩
theorem order_same (a b : Evt) (w : World) (hl : a.at_.less b.at_ = false) (he : decide (a.at_ = b.at_) = true) (hv : a.vol = b.vol) :
    Calls Tryd.prog 32 #[.agg a.cells.toArray, .agg b.cells.toArray] w fun e w' => e = .returned (.int .i64 (0)) ∧ Below w.heap.size w w' := by
  have hL := Loc.nil w NoM
  have hq : ∀ w, Hid (Calls Tryd.prog 51 #[.agg #[.int .i64 a.at_.boot, .int .i64 a.at_.n], .agg #[.int .i64 b.at_.boot, .int .i64 b.at_.n]] w fun e w' => e = .returned (.bool false) ∧ Below w.heap.size w w') := fun w => hide (by have q := vec_less a.at_ b.at_ w; rw [hl] at q; exact q)
  have heq : ∀ w, (binOp .eql 23 (.agg #[.int .i64 a.at_.boot, .int .i64 a.at_.n]) (.agg #[.int .i64 b.at_.boot, .int .i64 b.at_.n])).run Tryd.prog w = .ok (.bool true) w := fun w => by have q := stamp_eq a.at_ b.at_ w; rw [he] at q; exact q
  have t1 : decide (a.vol < b.vol) = false := by simp; omega
  have t2 : (a.vol == b.vol) = true := by simp [hv]
  have hv2 : ¬ a.vol < b.vol := by omega
  clear hl he hv
  unfold Evt.cells
  go_enter Tryd.func32, Tryd.ntmps32
  go_wp2_with (first
    | (go_at_call 51; (with_reducible refine (unhide (hq _)).mono ?_); rintro e w3 ⟨rfl, hb3⟩; have hL := hL.call hb3; clear hb3 hq)
    | ((with_reducible refine gAlloc rfl rfl ?_); (refine ev_allocL rfl hL rfl (by first | exact cells_agg _ rfl | exact cells_int _ _ | exact cells_str _ | exact cells_bool _ | exact cells_slice _ _ _ | exact cells_ptr _ | exact cells_map _ | exact cells_func _ _ _ | exact cells_nilFunc | exact cells_one (by assumption) (by assumption)) ?_; clear hL; intro gq wq hL)) | ((with_reducible refine gBox rfl rfl ?_); (refine ev_boxL rfl hL rfl rfl (by first | exact cells_agg _ rfl | exact cells_int _ _ | exact cells_str _ | exact cells_bool _ | exact cells_slice _ _ _ | exact cells_ptr _ | exact cells_map _ | exact cells_func _ _ _ | exact cells_nilFunc | exact cells_one (by assumption) (by assumption)) ?_; clear hL; intro gq wq hL)) | ((with_reducible refine gLoad rfl rfl ?_); (first | (refine ev_load1L rfl hL rfl rfl HasV.mem (by rfl) ?_) | (refine ev_loadAllL rfl hL rfl rfl HasV.mem (by rfl) ?_) | (refine ev_loadL rfl hL rfl rfl HasV.mem SegC.seg ?_))) | ((with_reducible refine gStore rfl rfl ?_); (first | (refine ev_storeC rfl hL rfl rfl rfl (by first | exact cells_agg _ rfl | exact cells_int _ _ | exact cells_str _ | exact cells_bool _ | exact cells_slice _ _ _ | exact cells_ptr _ | exact cells_map _ | exact cells_func _ _ _ | exact cells_nilFunc | exact cells_one (by assumption) (by assumption)) (by rfl) ?_) | (refine ev_storeAllC rfl hL rfl rfl rfl (by first | exact cells_agg _ rfl | exact cells_int _ _ | exact cells_str _ | exact cells_bool _ | exact cells_slice _ _ _ | exact cells_ptr _ | exact cells_map _ | exact cells_func _ _ _ | exact cells_nilFunc | exact cells_one (by assumption) (by assumption)) (by rfl) (by rfl) ?_)); clear hL; intro wq hL) | ((with_reducible refine gLoadG rfl rfl ?_ ?_); (exact wanted_some rfl rfl rfl (by with_reducible rfl)); (first | (refine ev_load1G (wanted_some rfl rfl rfl rfl) hL rfl rfl HasV.mem (by rfl) ?_) | (refine ev_loadAllG (wanted_some rfl rfl rfl rfl) hL rfl rfl HasV.mem (by rfl) ?_) | (refine ev_loadG_ (wanted_some rfl rfl rfl rfl) hL rfl rfl HasV.mem SegC.seg ?_))))
  go_ret
  exact ⟨rfl, hL.below⟩
theorem order_volgt (a b : Evt) (w : World) (hl : a.at_.less b.at_ = false) (he : decide (a.at_ = b.at_) = true) (hv : ¬ a.vol < b.vol) (hv2 : ¬ a.vol = b.vol) :
    Calls Tryd.prog 32 #[.agg a.cells.toArray, .agg b.cells.toArray] w fun e w' => e = .returned (.int .i64 (1)) ∧ Below w.heap.size w w' := by
  have hL := Loc.nil w NoM
  have hq : ∀ w, Hid (Calls Tryd.prog 51 #[.agg #[.int .i64 a.at_.boot, .int .i64 a.at_.n], .agg #[.int .i64 b.at_.boot, .int .i64 b.at_.n]] w fun e w' => e = .returned (.bool false) ∧ Below w.heap.size w w') := fun w => hide (by have q := vec_less a.at_ b.at_ w; rw [hl] at q; exact q)
  have heq : ∀ w, (binOp .eql 23 (.agg #[.int .i64 a.at_.boot, .int .i64 a.at_.n]) (.agg #[.int .i64 b.at_.boot, .int .i64 b.at_.n])).run Tryd.prog w = .ok (.bool true) w := fun w => by have q := stamp_eq a.at_ b.at_ w; rw [he] at q; exact q
  have t1 : decide (a.vol < b.vol) = false := by simp; omega
  have t2 : (a.vol == b.vol) = false := by simp [hv2]
  clear hl he
  unfold Evt.cells
  go_enter Tryd.func32, Tryd.ntmps32
  go_wp2_with (first
    | (go_at_call 51; (with_reducible refine (unhide (hq _)).mono ?_); rintro e w3 ⟨rfl, hb3⟩; have hL := hL.call hb3; clear hb3 hq)
    | ((with_reducible refine gAlloc rfl rfl ?_); (refine ev_allocL rfl hL rfl (by first | exact cells_agg _ rfl | exact cells_int _ _ | exact cells_str _ | exact cells_bool _ | exact cells_slice _ _ _ | exact cells_ptr _ | exact cells_map _ | exact cells_func _ _ _ | exact cells_nilFunc | exact cells_one (by assumption) (by assumption)) ?_; clear hL; intro gq wq hL)) | ((with_reducible refine gBox rfl rfl ?_); (refine ev_boxL rfl hL rfl rfl (by first | exact cells_agg _ rfl | exact cells_int _ _ | exact cells_str _ | exact cells_bool _ | exact cells_slice _ _ _ | exact cells_ptr _ | exact cells_map _ | exact cells_func _ _ _ | exact cells_nilFunc | exact cells_one (by assumption) (by assumption)) ?_; clear hL; intro gq wq hL)) | ((with_reducible refine gLoad rfl rfl ?_); (first | (refine ev_load1L rfl hL rfl rfl HasV.mem (by rfl) ?_) | (refine ev_loadAllL rfl hL rfl rfl HasV.mem (by rfl) ?_) | (refine ev_loadL rfl hL rfl rfl HasV.mem SegC.seg ?_))) | ((with_reducible refine gStore rfl rfl ?_); (first | (refine ev_storeC rfl hL rfl rfl rfl (by first | exact cells_agg _ rfl | exact cells_int _ _ | exact cells_str _ | exact cells_bool _ | exact cells_slice _ _ _ | exact cells_ptr _ | exact cells_map _ | exact cells_func _ _ _ | exact cells_nilFunc | exact cells_one (by assumption) (by assumption)) (by rfl) ?_) | (refine ev_storeAllC rfl hL rfl rfl rfl (by first | exact cells_agg _ rfl | exact cells_int _ _ | exact cells_str _ | exact cells_bool _ | exact cells_slice _ _ _ | exact cells_ptr _ | exact cells_map _ | exact cells_func _ _ _ | exact cells_nilFunc | exact cells_one (by assumption) (by assumption)) (by rfl) (by rfl) ?_)); clear hL; intro wq hL) | ((with_reducible refine gLoadG rfl rfl ?_ ?_); (exact wanted_some rfl rfl rfl (by with_reducible rfl)); (first | (refine ev_load1G (wanted_some rfl rfl rfl rfl) hL rfl rfl HasV.mem (by rfl) ?_) | (refine ev_loadAllG (wanted_some rfl rfl rfl rfl) hL rfl rfl HasV.mem (by rfl) ?_) | (refine ev_loadG_ (wanted_some rfl rfl rfl rfl) hL rfl rfl HasV.mem SegC.seg ?_))))
  go_ret
  exact ⟨rfl, hL.below⟩
theorem order_more (a b : Evt) (w : World) (hl : a.at_.less b.at_ = false) (he : decide (a.at_ = b.at_) = false) :
    Calls Tryd.prog 32 #[.agg a.cells.toArray, .agg b.cells.toArray] w fun e w' => e = .returned (.int .i64 (1)) ∧ Below w.heap.size w w' := by
  have hL := Loc.nil w NoM
  have hq : ∀ w, Hid (Calls Tryd.prog 51 #[.agg #[.int .i64 a.at_.boot, .int .i64 a.at_.n], .agg #[.int .i64 b.at_.boot, .int .i64 b.at_.n]] w fun e w' => e = .returned (.bool false) ∧ Below w.heap.size w w') := fun w => hide (by have q := vec_less a.at_ b.at_ w; rw [hl] at q; exact q)
  have heq : ∀ w, (binOp .eql 23 (.agg #[.int .i64 a.at_.boot, .int .i64 a.at_.n]) (.agg #[.int .i64 b.at_.boot, .int .i64 b.at_.n])).run Tryd.prog w = .ok (.bool false) w := fun w => by have q := stamp_eq a.at_ b.at_ w; rw [he] at q; exact q
  clear hl he
  unfold Evt.cells
  go_enter Tryd.func32, Tryd.ntmps32
  go_wp2_with (first
    | (go_at_call 51; (with_reducible refine (unhide (hq _)).mono ?_); rintro e w3 ⟨rfl, hb3⟩; have hL := hL.call hb3; clear hb3 hq)
    | ((with_reducible refine gAlloc rfl rfl ?_); (refine ev_allocL rfl hL rfl (by first | exact cells_agg _ rfl | exact cells_int _ _ | exact cells_str _ | exact cells_bool _ | exact cells_slice _ _ _ | exact cells_ptr _ | exact cells_map _ | exact cells_func _ _ _ | exact cells_nilFunc | exact cells_one (by assumption) (by assumption)) ?_; clear hL; intro gq wq hL)) | ((with_reducible refine gBox rfl rfl ?_); (refine ev_boxL rfl hL rfl rfl (by first | exact cells_agg _ rfl | exact cells_int _ _ | exact cells_str _ | exact cells_bool _ | exact cells_slice _ _ _ | exact cells_ptr _ | exact cells_map _ | exact cells_func _ _ _ | exact cells_nilFunc | exact cells_one (by assumption) (by assumption)) ?_; clear hL; intro gq wq hL)) | ((with_reducible refine gLoad rfl rfl ?_); (first | (refine ev_load1L rfl hL rfl rfl HasV.mem (by rfl) ?_) | (refine ev_loadAllL rfl hL rfl rfl HasV.mem (by rfl) ?_) | (refine ev_loadL rfl hL rfl rfl HasV.mem SegC.seg ?_))) | ((with_reducible refine gStore rfl rfl ?_); (first | (refine ev_storeC rfl hL rfl rfl rfl (by first | exact cells_agg _ rfl | exact cells_int _ _ | exact cells_str _ | exact cells_bool _ | exact cells_slice _ _ _ | exact cells_ptr _ | exact cells_map _ | exact cells_func _ _ _ | exact cells_nilFunc | exact cells_one (by assumption) (by assumption)) (by rfl) ?_) | (refine ev_storeAllC rfl hL rfl rfl rfl (by first | exact cells_agg _ rfl | exact cells_int _ _ | exact cells_str _ | exact cells_bool _ | exact cells_slice _ _ _ | exact cells_ptr _ | exact cells_map _ | exact cells_func _ _ _ | exact cells_nilFunc | exact cells_one (by assumption) (by assumption)) (by rfl) (by rfl) ?_)); clear hL; intro wq hL) | ((with_reducible refine gLoadG rfl rfl ?_ ?_); (exact wanted_some rfl rfl rfl (by with_reducible rfl)); (first | (refine ev_load1G (wanted_some rfl rfl rfl rfl) hL rfl rfl HasV.mem (by rfl) ?_) | (refine ev_loadAllG (wanted_some rfl rfl rfl rfl) hL rfl rfl HasV.mem (by rfl) ?_) | (refine ev_loadG_ (wanted_some rfl rfl rfl rfl) hL rfl rfl HasV.mem SegC.seg ?_))))
  go_ret
  exact ⟨rfl, hL.below⟩
theorem Mk.less_ne (a b : Mk) (h : a.less b = true) : decide (a = b) = false := by
  rw [decide_eq_false_iff_not]
  rintro rfl
  unfold Mk.less at h
  rw [if_pos rfl] at h
  simp at h
theorem story_order (a b : Evt) (w : World) :
    Calls Tryd.prog 32 #[.agg a.cells.toArray, .agg b.cells.toArray] w fun e w' => e = .returned (.int .i64 (a.cmp b)) ∧ Below w.heap.size w w' := by
  unfold Evt.cmp
  cases hl : a.at_.less b.at_
  · rw [if_neg (by simp)]
    by_cases he : a.at_ = b.at_
    · rw [if_pos he]
      by_cases hv : a.vol < b.vol
      · rw [if_pos hv]; exact order_vol a b w hl (by simpa using he) hv
      · rw [if_neg hv]
        by_cases hv2 : a.vol = b.vol
        · rw [if_pos hv2]; exact order_same a b w hl (by simpa using he) hv2
        · rw [if_neg hv2]; exact order_volgt a b w hl (by simpa using he) hv hv2
    · rw [if_neg he]; exact order_more a b w hl (by simpa using he)
  · rw [if_pos rfl]; exact order_less a b w hl (Mk.less_ne _ _ hl)
end Go.Proofs.YtebpacmhdkgfeaaDoor
