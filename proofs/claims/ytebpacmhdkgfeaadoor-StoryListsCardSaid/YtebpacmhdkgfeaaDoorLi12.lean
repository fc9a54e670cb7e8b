/- Texts laid together: Has, Pr, ApaS. -/
import Derived.Test.YtebpacmhdkgfeaaDoorLi11
/- Is a stamp an event's; is an event known by a vector? -/
namespace Go.Proofs.YtebpacmhdkgfeaaDoor
open Go.RowKit
set_option maxHeartbeats 2000000

def Mk.is (m : Mk) : Bool := decide (1 ≤ m.boot) && (decide (m.boot ≤ 1099511627776) && (decide (0 ≤ m.n) && decide (m.n < 8)))
def V8.has (v : V8) (m : Mk) : Bool := m.is && decide (m.boot ≤ v.get m.n.toNat)
theorem Mk.is_n {m : Mk} (h : m.is = true) : m.n = 0 ∨ m.n = 1 ∨ m.n = 2 ∨ m.n = 3 ∨ m.n = 4 ∨ m.n = 5 ∨ m.n = 6 ∨ m.n = 7 := by
  unfold Mk.is at h
  simp only [Bool.and_eq_true, decide_eq_true_eq] at h
  omega
theorem vec_is (m : Mk) (w : World) : Calls Tryd.prog 55 #[.agg #[.int .i64 m.boot, .int .i64 m.n]] w fun e w' => e = .returned (.bool m.is) ∧ Below w.heap.size w w' := by
  have hL := Loc.nil w NoM
  unfold Mk.is
  by_cases c1 : 1 ≤ m.boot
  · by_cases c2 : m.boot ≤ 1099511627776
    · by_cases c3 : 0 ≤ m.n
      · rw [decide_eq_true c1, decide_eq_true c2, decide_eq_true c3]
        simp only [Bool.true_and]
        go_enter Tryd.func55, Tryd.ntmps55
        go_wp2_with (first | ((with_reducible refine gAlloc rfl rfl ?_); (refine ev_allocL rfl hL rfl (by first | exact CellsC.of | exact cells_one (by assumption) (by assumption) | exact cells_agg _ rfl) ?_; clear hL; intro gq wq hL)) | ((with_reducible refine gBox rfl rfl ?_); (refine ev_boxL rfl hL rfl rfl (by first | exact CellsC.of | exact cells_one (by assumption) (by assumption) | exact cells_agg _ rfl) ?_; clear hL; intro gq wq hL)) | ((with_reducible refine gLoad rfl rfl ?_); (first | (refine ev_load1L rfl hL rfl rfl HasV.mem (by rfl) ?_) | (refine ev_loadAllL rfl hL rfl rfl HasV.mem (by rfl) ?_) | (refine ev_loadL rfl hL rfl rfl HasV.mem SegC.seg ?_))) | ((with_reducible refine gStore rfl rfl ?_); (first | (refine ev_storeC rfl hL rfl rfl rfl (by first | exact CellsC.of | exact cells_one (by assumption) (by assumption) | exact cells_agg _ rfl) (by rfl) ?_) | (refine ev_storeAllC rfl hL rfl rfl rfl (by first | exact CellsC.of | exact cells_one (by assumption) (by assumption) | exact cells_agg _ rfl) (by rfl) (by rfl) ?_)); clear hL; intro wq hL) | ((with_reducible refine gLoadG rfl rfl ?_ ?_); (exact wanted_some rfl rfl rfl (by with_reducible rfl)); (first | (refine ev_load1G (wanted_some rfl rfl rfl rfl) hL rfl rfl HasV.mem (by rfl) ?_) | (refine ev_loadAllG (wanted_some rfl rfl rfl rfl) hL rfl rfl HasV.mem (by rfl) ?_) | (refine ev_loadG_ (wanted_some rfl rfl rfl rfl) hL rfl rfl HasV.mem SegC.seg ?_))))
        go_ret
        exact ⟨rfl, hL.below⟩
      · rw [decide_eq_true c1, decide_eq_true c2, decide_eq_false c3]
        simp only [Bool.true_and, Bool.false_and]
        have t3 : decide (0 ≤ m.n) = false := decide_eq_false c3
        go_enter Tryd.func55, Tryd.ntmps55
        go_wp2_with (first | ((with_reducible refine gAlloc rfl rfl ?_); (refine ev_allocL rfl hL rfl (by first | exact CellsC.of | exact cells_one (by assumption) (by assumption) | exact cells_agg _ rfl) ?_; clear hL; intro gq wq hL)) | ((with_reducible refine gBox rfl rfl ?_); (refine ev_boxL rfl hL rfl rfl (by first | exact CellsC.of | exact cells_one (by assumption) (by assumption) | exact cells_agg _ rfl) ?_; clear hL; intro gq wq hL)) | ((with_reducible refine gLoad rfl rfl ?_); (first | (refine ev_load1L rfl hL rfl rfl HasV.mem (by rfl) ?_) | (refine ev_loadAllL rfl hL rfl rfl HasV.mem (by rfl) ?_) | (refine ev_loadL rfl hL rfl rfl HasV.mem SegC.seg ?_))) | ((with_reducible refine gStore rfl rfl ?_); (first | (refine ev_storeC rfl hL rfl rfl rfl (by first | exact CellsC.of | exact cells_one (by assumption) (by assumption) | exact cells_agg _ rfl) (by rfl) ?_) | (refine ev_storeAllC rfl hL rfl rfl rfl (by first | exact CellsC.of | exact cells_one (by assumption) (by assumption) | exact cells_agg _ rfl) (by rfl) (by rfl) ?_)); clear hL; intro wq hL) | ((with_reducible refine gLoadG rfl rfl ?_ ?_); (exact wanted_some rfl rfl rfl (by with_reducible rfl)); (first | (refine ev_load1G (wanted_some rfl rfl rfl rfl) hL rfl rfl HasV.mem (by rfl) ?_) | (refine ev_loadAllG (wanted_some rfl rfl rfl rfl) hL rfl rfl HasV.mem (by rfl) ?_) | (refine ev_loadG_ (wanted_some rfl rfl rfl rfl) hL rfl rfl HasV.mem SegC.seg ?_))))
        go_ret
        exact ⟨rfl, hL.below⟩
    · rw [decide_eq_true c1, decide_eq_false c2]
      simp only [Bool.true_and, Bool.false_and]
      have t2 : decide (m.boot ≤ 1099511627776) = false := decide_eq_false c2
      go_enter Tryd.func55, Tryd.ntmps55
      go_wp2_with (first | ((with_reducible refine gAlloc rfl rfl ?_); (refine ev_allocL rfl hL rfl (by first | exact CellsC.of | exact cells_one (by assumption) (by assumption) | exact cells_agg _ rfl) ?_; clear hL; intro gq wq hL)) | ((with_reducible refine gBox rfl rfl ?_); (refine ev_boxL rfl hL rfl rfl (by first | exact CellsC.of | exact cells_one (by assumption) (by assumption) | exact cells_agg _ rfl) ?_; clear hL; intro gq wq hL)) | ((with_reducible refine gLoad rfl rfl ?_); (first | (refine ev_load1L rfl hL rfl rfl HasV.mem (by rfl) ?_) | (refine ev_loadAllL rfl hL rfl rfl HasV.mem (by rfl) ?_) | (refine ev_loadL rfl hL rfl rfl HasV.mem SegC.seg ?_))) | ((with_reducible refine gStore rfl rfl ?_); (first | (refine ev_storeC rfl hL rfl rfl rfl (by first | exact CellsC.of | exact cells_one (by assumption) (by assumption) | exact cells_agg _ rfl) (by rfl) ?_) | (refine ev_storeAllC rfl hL rfl rfl rfl (by first | exact CellsC.of | exact cells_one (by assumption) (by assumption) | exact cells_agg _ rfl) (by rfl) (by rfl) ?_)); clear hL; intro wq hL) | ((with_reducible refine gLoadG rfl rfl ?_ ?_); (exact wanted_some rfl rfl rfl (by with_reducible rfl)); (first | (refine ev_load1G (wanted_some rfl rfl rfl rfl) hL rfl rfl HasV.mem (by rfl) ?_) | (refine ev_loadAllG (wanted_some rfl rfl rfl rfl) hL rfl rfl HasV.mem (by rfl) ?_) | (refine ev_loadG_ (wanted_some rfl rfl rfl rfl) hL rfl rfl HasV.mem SegC.seg ?_))))
      go_ret
      exact ⟨rfl, hL.below⟩
  · rw [decide_eq_false c1]
    simp only [Bool.false_and]
    have t1 : decide (1 ≤ m.boot) = false := decide_eq_false c1
    go_enter Tryd.func55, Tryd.ntmps55
    go_wp2_with (first | ((with_reducible refine gAlloc rfl rfl ?_); (refine ev_allocL rfl hL rfl (by first | exact CellsC.of | exact cells_one (by assumption) (by assumption) | exact cells_agg _ rfl) ?_; clear hL; intro gq wq hL)) | ((with_reducible refine gBox rfl rfl ?_); (refine ev_boxL rfl hL rfl rfl (by first | exact CellsC.of | exact cells_one (by assumption) (by assumption) | exact cells_agg _ rfl) ?_; clear hL; intro gq wq hL)) | ((with_reducible refine gLoad rfl rfl ?_); (first | (refine ev_load1L rfl hL rfl rfl HasV.mem (by rfl) ?_) | (refine ev_loadAllL rfl hL rfl rfl HasV.mem (by rfl) ?_) | (refine ev_loadL rfl hL rfl rfl HasV.mem SegC.seg ?_))) | ((with_reducible refine gStore rfl rfl ?_); (first | (refine ev_storeC rfl hL rfl rfl rfl (by first | exact CellsC.of | exact cells_one (by assumption) (by assumption) | exact cells_agg _ rfl) (by rfl) ?_) | (refine ev_storeAllC rfl hL rfl rfl rfl (by first | exact CellsC.of | exact cells_one (by assumption) (by assumption) | exact cells_agg _ rfl) (by rfl) (by rfl) ?_)); clear hL; intro wq hL) | ((with_reducible refine gLoadG rfl rfl ?_ ?_); (exact wanted_some rfl rfl rfl (by with_reducible rfl)); (first | (refine ev_load1G (wanted_some rfl rfl rfl rfl) hL rfl rfl HasV.mem (by rfl) ?_) | (refine ev_loadAllG (wanted_some rfl rfl rfl rfl) hL rfl rfl HasV.mem (by rfl) ?_) | (refine ev_loadG_ (wanted_some rfl rfl rfl rfl) hL rfl rfl HasV.mem SegC.seg ?_))))
    go_ret
    exact ⟨rfl, hL.below⟩
theorem vec_is_ext {W : World} {e : Ext W} (a b : Int) (r : Bool) (h : (Mk.mk a b).is = r) : Calls Tryd.prog 55 #[.agg #[.int .i64 a, .int .i64 b]] e.w fun en w'' => en = .returned (.bool r) ∧ ∃ x : Ext W, w'' = x.w :=
  calls_ext (by subst h; exact vec_is ⟨a, b⟩ _)
theorem vec_has (v : V8) (m : Mk) (w : World) : Calls Tryd.prog 42 #[.agg #[.int .i64 v.a0, .int .i64 v.a1, .int .i64 v.a2, .int .i64 v.a3, .int .i64 v.a4, .int .i64 v.a5, .int .i64 v.a6, .int .i64 v.a7], .agg #[.int .i64 m.boot, .int .i64 m.n]] w fun e w' => e = .returned (.bool (v.has m)) ∧ Below w.heap.size w w' := by
  have hL := Loc.nil w NoM
  unfold V8.has
  obtain ⟨a, b⟩ := m
  cases his : (Mk.mk a b).is
  · have HI := Lib.hid his
    clear his
    simp only [Bool.false_and]
    go_enter Tryd.func42, Tryd.ntmps42
    go_wp2_with (first | ((with_reducible refine gAlloc rfl rfl ?_); (refine ev_allocL rfl hL rfl (by first | exact CellsC.of | exact cells_one (by assumption) (by assumption) | exact cells_agg _ rfl) ?_; clear hL; intro gq wq hL)) | ((with_reducible refine gBox rfl rfl ?_); (refine ev_boxL rfl hL rfl rfl (by first | exact CellsC.of | exact cells_one (by assumption) (by assumption) | exact cells_agg _ rfl) ?_; clear hL; intro gq wq hL)) | ((with_reducible refine gLoad rfl rfl ?_); (first | (refine ev_load1L rfl hL rfl rfl HasV.mem (by rfl) ?_) | (refine ev_loadAllL rfl hL rfl rfl HasV.mem (by rfl) ?_) | (refine ev_loadL rfl hL rfl rfl HasV.mem SegC.seg ?_))) | ((with_reducible refine gStore rfl rfl ?_); (first | (refine ev_storeC rfl hL rfl rfl rfl (by first | exact CellsC.of | exact cells_one (by assumption) (by assumption) | exact cells_agg _ rfl) (by rfl) ?_) | (refine ev_storeAllC rfl hL rfl rfl rfl (by first | exact CellsC.of | exact cells_one (by assumption) (by assumption) | exact cells_agg _ rfl) (by rfl) (by rfl) ?_)); clear hL; intro wq hL) | ((with_reducible refine gLoadG rfl rfl ?_ ?_); (exact wanted_some rfl rfl rfl (by with_reducible rfl)); (first | (refine ev_load1G (wanted_some rfl rfl rfl rfl) hL rfl rfl HasV.mem (by rfl) ?_) | (refine ev_loadAllG (wanted_some rfl rfl rfl rfl) hL rfl rfl HasV.mem (by rfl) ?_) | (refine ev_loadG_ (wanted_some rfl rfl rfl rfl) hL rfl rfl HasV.mem SegC.seg ?_))))
    refine wp_region_ext (by kernel_rfl) (by kernel_rfl) ?_
    repeat (first
      | (go_big_quiet_want; (first | refine quiet_load1L hL rfl rfl HasV.mem (by rfl) ?_ | refine quiet_loadAllL hL rfl rfl HasV.mem (by rfl) ?_ | refine quiet_loadL hL rfl rfl HasV.mem SegC.seg ?_); go_big_quiet_on; simp only [Act.put, List.setIfInBounds_toArray, List.set_cons_succ, List.set_cons_zero])
      | go_big_quiet_step (first | (go_at_call 55; with_reducible exact vec_is_ext a b false HI.out)))
    refine wpQuiet_nil ?_
    rintro _ ⟨⟨w2, hb2⟩, rfl⟩
    replace hL := hL.call hb2
    go_wp2
    go_ret
    exact ⟨rfl, hL.below⟩
  · have hn := Mk.is_n his
    have HI := Lib.hid his
    clear his
    simp only [Bool.true_and]
    replace hn : b = 0 ∨ b = 1 ∨ b = 2 ∨ b = 3 ∨ b = 4 ∨ b = 5 ∨ b = 6 ∨ b = 7 := hn
    rcases hn with rfl | rfl | rfl | rfl | rfl | rfl | rfl | rfl
    · show Calls _ _ _ w fun e w' => e = .returned (.bool (decide (a ≤ v.a0))) ∧ Below w.heap.size w w'
      go_enter Tryd.func42, Tryd.ntmps42
      go_wp2_with (first | ((with_reducible refine gAlloc rfl rfl ?_); (refine ev_allocL rfl hL rfl (by first | exact CellsC.of | exact cells_one (by assumption) (by assumption) | exact cells_agg _ rfl) ?_; clear hL; intro gq wq hL)) | ((with_reducible refine gBox rfl rfl ?_); (refine ev_boxL rfl hL rfl rfl (by first | exact CellsC.of | exact cells_one (by assumption) (by assumption) | exact cells_agg _ rfl) ?_; clear hL; intro gq wq hL)) | ((with_reducible refine gLoad rfl rfl ?_); (first | (refine ev_load1L rfl hL rfl rfl HasV.mem (by rfl) ?_) | (refine ev_loadAllL rfl hL rfl rfl HasV.mem (by rfl) ?_) | (refine ev_loadL rfl hL rfl rfl HasV.mem SegC.seg ?_))) | ((with_reducible refine gStore rfl rfl ?_); (first | (refine ev_storeC rfl hL rfl rfl rfl (by first | exact CellsC.of | exact cells_one (by assumption) (by assumption) | exact cells_agg _ rfl) (by rfl) ?_) | (refine ev_storeAllC rfl hL rfl rfl rfl (by first | exact CellsC.of | exact cells_one (by assumption) (by assumption) | exact cells_agg _ rfl) (by rfl) (by rfl) ?_)); clear hL; intro wq hL) | ((with_reducible refine gLoadG rfl rfl ?_ ?_); (exact wanted_some rfl rfl rfl (by with_reducible rfl)); (first | (refine ev_load1G (wanted_some rfl rfl rfl rfl) hL rfl rfl HasV.mem (by rfl) ?_) | (refine ev_loadAllG (wanted_some rfl rfl rfl rfl) hL rfl rfl HasV.mem (by rfl) ?_) | (refine ev_loadG_ (wanted_some rfl rfl rfl rfl) hL rfl rfl HasV.mem SegC.seg ?_))))
      refine wp_region_ext (by kernel_rfl) (by kernel_rfl) ?_
      repeat (first
        | (go_big_quiet_want; (first | refine quiet_load1L hL rfl rfl HasV.mem (by rfl) ?_ | refine quiet_loadAllL hL rfl rfl HasV.mem (by rfl) ?_ | refine quiet_loadL hL rfl rfl HasV.mem SegC.seg ?_); go_big_quiet_on; simp only [Act.put, List.setIfInBounds_toArray, List.set_cons_succ, List.set_cons_zero])
        | go_big_quiet_step (first | (go_at_call 55; with_reducible exact vec_is_ext a 0 true HI.out)))
      refine wpQuiet_nil ?_
      rintro _ ⟨⟨w2, hb2⟩, rfl⟩
      replace hL := hL.call hb2
      go_wp2
      go_ret
      exact ⟨rfl, hL.below⟩
    · show Calls _ _ _ w fun e w' => e = .returned (.bool (decide (a ≤ v.a1))) ∧ Below w.heap.size w w'
      go_enter Tryd.func42, Tryd.ntmps42
      go_wp2_with (first | ((with_reducible refine gAlloc rfl rfl ?_); (refine ev_allocL rfl hL rfl (by first | exact CellsC.of | exact cells_one (by assumption) (by assumption) | exact cells_agg _ rfl) ?_; clear hL; intro gq wq hL)) | ((with_reducible refine gBox rfl rfl ?_); (refine ev_boxL rfl hL rfl rfl (by first | exact CellsC.of | exact cells_one (by assumption) (by assumption) | exact cells_agg _ rfl) ?_; clear hL; intro gq wq hL)) | ((with_reducible refine gLoad rfl rfl ?_); (first | (refine ev_load1L rfl hL rfl rfl HasV.mem (by rfl) ?_) | (refine ev_loadAllL rfl hL rfl rfl HasV.mem (by rfl) ?_) | (refine ev_loadL rfl hL rfl rfl HasV.mem SegC.seg ?_))) | ((with_reducible refine gStore rfl rfl ?_); (first | (refine ev_storeC rfl hL rfl rfl rfl (by first | exact CellsC.of | exact cells_one (by assumption) (by assumption) | exact cells_agg _ rfl) (by rfl) ?_) | (refine ev_storeAllC rfl hL rfl rfl rfl (by first | exact CellsC.of | exact cells_one (by assumption) (by assumption) | exact cells_agg _ rfl) (by rfl) (by rfl) ?_)); clear hL; intro wq hL) | ((with_reducible refine gLoadG rfl rfl ?_ ?_); (exact wanted_some rfl rfl rfl (by with_reducible rfl)); (first | (refine ev_load1G (wanted_some rfl rfl rfl rfl) hL rfl rfl HasV.mem (by rfl) ?_) | (refine ev_loadAllG (wanted_some rfl rfl rfl rfl) hL rfl rfl HasV.mem (by rfl) ?_) | (refine ev_loadG_ (wanted_some rfl rfl rfl rfl) hL rfl rfl HasV.mem SegC.seg ?_))))
      refine wp_region_ext (by kernel_rfl) (by kernel_rfl) ?_
      repeat (first
        | (go_big_quiet_want; (first | refine quiet_load1L hL rfl rfl HasV.mem (by rfl) ?_ | refine quiet_loadAllL hL rfl rfl HasV.mem (by rfl) ?_ | refine quiet_loadL hL rfl rfl HasV.mem SegC.seg ?_); go_big_quiet_on; simp only [Act.put, List.setIfInBounds_toArray, List.set_cons_succ, List.set_cons_zero])
        | go_big_quiet_step (first | (go_at_call 55; with_reducible exact vec_is_ext a 1 true HI.out)))
      refine wpQuiet_nil ?_
      rintro _ ⟨⟨w2, hb2⟩, rfl⟩
      replace hL := hL.call hb2
      go_wp2
      go_ret
      exact ⟨rfl, hL.below⟩
    · show Calls _ _ _ w fun e w' => e = .returned (.bool (decide (a ≤ v.a2))) ∧ Below w.heap.size w w'
      go_enter Tryd.func42, Tryd.ntmps42
      go_wp2_with (first | ((with_reducible refine gAlloc rfl rfl ?_); (refine ev_allocL rfl hL rfl (by first | exact CellsC.of | exact cells_one (by assumption) (by assumption) | exact cells_agg _ rfl) ?_; clear hL; intro gq wq hL)) | ((with_reducible refine gBox rfl rfl ?_); (refine ev_boxL rfl hL rfl rfl (by first | exact CellsC.of | exact cells_one (by assumption) (by assumption) | exact cells_agg _ rfl) ?_; clear hL; intro gq wq hL)) | ((with_reducible refine gLoad rfl rfl ?_); (first | (refine ev_load1L rfl hL rfl rfl HasV.mem (by rfl) ?_) | (refine ev_loadAllL rfl hL rfl rfl HasV.mem (by rfl) ?_) | (refine ev_loadL rfl hL rfl rfl HasV.mem SegC.seg ?_))) | ((with_reducible refine gStore rfl rfl ?_); (first | (refine ev_storeC rfl hL rfl rfl rfl (by first | exact CellsC.of | exact cells_one (by assumption) (by assumption) | exact cells_agg _ rfl) (by rfl) ?_) | (refine ev_storeAllC rfl hL rfl rfl rfl (by first | exact CellsC.of | exact cells_one (by assumption) (by assumption) | exact cells_agg _ rfl) (by rfl) (by rfl) ?_)); clear hL; intro wq hL) | ((with_reducible refine gLoadG rfl rfl ?_ ?_); (exact wanted_some rfl rfl rfl (by with_reducible rfl)); (first | (refine ev_load1G (wanted_some rfl rfl rfl rfl) hL rfl rfl HasV.mem (by rfl) ?_) | (refine ev_loadAllG (wanted_some rfl rfl rfl rfl) hL rfl rfl HasV.mem (by rfl) ?_) | (refine ev_loadG_ (wanted_some rfl rfl rfl rfl) hL rfl rfl HasV.mem SegC.seg ?_))))
      refine wp_region_ext (by kernel_rfl) (by kernel_rfl) ?_
      repeat (first
        | (go_big_quiet_want; (first | refine quiet_load1L hL rfl rfl HasV.mem (by rfl) ?_ | refine quiet_loadAllL hL rfl rfl HasV.mem (by rfl) ?_ | refine quiet_loadL hL rfl rfl HasV.mem SegC.seg ?_); go_big_quiet_on; simp only [Act.put, List.setIfInBounds_toArray, List.set_cons_succ, List.set_cons_zero])
        | go_big_quiet_step (first | (go_at_call 55; with_reducible exact vec_is_ext a 2 true HI.out)))
      refine wpQuiet_nil ?_
      rintro _ ⟨⟨w2, hb2⟩, rfl⟩
      replace hL := hL.call hb2
      go_wp2
      go_ret
      exact ⟨rfl, hL.below⟩
    · show Calls _ _ _ w fun e w' => e = .returned (.bool (decide (a ≤ v.a3))) ∧ Below w.heap.size w w'
      go_enter Tryd.func42, Tryd.ntmps42
      go_wp2_with (first | ((with_reducible refine gAlloc rfl rfl ?_); (refine ev_allocL rfl hL rfl (by first | exact CellsC.of | exact cells_one (by assumption) (by assumption) | exact cells_agg _ rfl) ?_; clear hL; intro gq wq hL)) | ((with_reducible refine gBox rfl rfl ?_); (refine ev_boxL rfl hL rfl rfl (by first | exact CellsC.of | exact cells_one (by assumption) (by assumption) | exact cells_agg _ rfl) ?_; clear hL; intro gq wq hL)) | ((with_reducible refine gLoad rfl rfl ?_); (first | (refine ev_load1L rfl hL rfl rfl HasV.mem (by rfl) ?_) | (refine ev_loadAllL rfl hL rfl rfl HasV.mem (by rfl) ?_) | (refine ev_loadL rfl hL rfl rfl HasV.mem SegC.seg ?_))) | ((with_reducible refine gStore rfl rfl ?_); (first | (refine ev_storeC rfl hL rfl rfl rfl (by first | exact CellsC.of | exact cells_one (by assumption) (by assumption) | exact cells_agg _ rfl) (by rfl) ?_) | (refine ev_storeAllC rfl hL rfl rfl rfl (by first | exact CellsC.of | exact cells_one (by assumption) (by assumption) | exact cells_agg _ rfl) (by rfl) (by rfl) ?_)); clear hL; intro wq hL) | ((with_reducible refine gLoadG rfl rfl ?_ ?_); (exact wanted_some rfl rfl rfl (by with_reducible rfl)); (first | (refine ev_load1G (wanted_some rfl rfl rfl rfl) hL rfl rfl HasV.mem (by rfl) ?_) | (refine ev_loadAllG (wanted_some rfl rfl rfl rfl) hL rfl rfl HasV.mem (by rfl) ?_) | (refine ev_loadG_ (wanted_some rfl rfl rfl rfl) hL rfl rfl HasV.mem SegC.seg ?_))))
      refine wp_region_ext (by kernel_rfl) (by kernel_rfl) ?_
      repeat (first
        | (go_big_quiet_want; (first | refine quiet_load1L hL rfl rfl HasV.mem (by rfl) ?_ | refine quiet_loadAllL hL rfl rfl HasV.mem (by rfl) ?_ | refine quiet_loadL hL rfl rfl HasV.mem SegC.seg ?_); go_big_quiet_on; simp only [Act.put, List.setIfInBounds_toArray, List.set_cons_succ, List.set_cons_zero])
        | go_big_quiet_step (first | (go_at_call 55; with_reducible exact vec_is_ext a 3 true HI.out)))
      refine wpQuiet_nil ?_
      rintro _ ⟨⟨w2, hb2⟩, rfl⟩
      replace hL := hL.call hb2
      go_wp2
      go_ret
      exact ⟨rfl, hL.below⟩
    · show Calls _ _ _ w fun e w' => e = .returned (.bool (decide (a ≤ v.a4))) ∧ Below w.heap.size w w'
      go_enter Tryd.func42, Tryd.ntmps42
      go_wp2_with (first | ((with_reducible refine gAlloc rfl rfl ?_); (refine ev_allocL rfl hL rfl (by first | exact CellsC.of | exact cells_one (by assumption) (by assumption) | exact cells_agg _ rfl) ?_; clear hL; intro gq wq hL)) | ((with_reducible refine gBox rfl rfl ?_); (refine ev_boxL rfl hL rfl rfl (by first | exact CellsC.of | exact cells_one (by assumption) (by assumption) | exact cells_agg _ rfl) ?_; clear hL; intro gq wq hL)) | ((with_reducible refine gLoad rfl rfl ?_); (first | (refine ev_load1L rfl hL rfl rfl HasV.mem (by rfl) ?_) | (refine ev_loadAllL rfl hL rfl rfl HasV.mem (by rfl) ?_) | (refine ev_loadL rfl hL rfl rfl HasV.mem SegC.seg ?_))) | ((with_reducible refine gStore rfl rfl ?_); (first | (refine ev_storeC rfl hL rfl rfl rfl (by first | exact CellsC.of | exact cells_one (by assumption) (by assumption) | exact cells_agg _ rfl) (by rfl) ?_) | (refine ev_storeAllC rfl hL rfl rfl rfl (by first | exact CellsC.of | exact cells_one (by assumption) (by assumption) | exact cells_agg _ rfl) (by rfl) (by rfl) ?_)); clear hL; intro wq hL) | ((with_reducible refine gLoadG rfl rfl ?_ ?_); (exact wanted_some rfl rfl rfl (by with_reducible rfl)); (first | (refine ev_load1G (wanted_some rfl rfl rfl rfl) hL rfl rfl HasV.mem (by rfl) ?_) | (refine ev_loadAllG (wanted_some rfl rfl rfl rfl) hL rfl rfl HasV.mem (by rfl) ?_) | (refine ev_loadG_ (wanted_some rfl rfl rfl rfl) hL rfl rfl HasV.mem SegC.seg ?_))))
      refine wp_region_ext (by kernel_rfl) (by kernel_rfl) ?_
      repeat (first
        | (go_big_quiet_want; (first | refine quiet_load1L hL rfl rfl HasV.mem (by rfl) ?_ | refine quiet_loadAllL hL rfl rfl HasV.mem (by rfl) ?_ | refine quiet_loadL hL rfl rfl HasV.mem SegC.seg ?_); go_big_quiet_on; simp only [Act.put, List.setIfInBounds_toArray, List.set_cons_succ, List.set_cons_zero])
        | go_big_quiet_step (first | (go_at_call 55; with_reducible exact vec_is_ext a 4 true HI.out)))
      refine wpQuiet_nil ?_
      rintro _ ⟨⟨w2, hb2⟩, rfl⟩
      replace hL := hL.call hb2
      go_wp2
      go_ret
      exact ⟨rfl, hL.below⟩
    · show Calls _ _ _ w fun e w' => e = .returned (.bool (decide (a ≤ v.a5))) ∧ Below w.heap.size w w'
      go_enter Tryd.func42, Tryd.ntmps42
      go_wp2_with (first | ((with_reducible refine gAlloc rfl rfl ?_); (refine ev_allocL rfl hL rfl (by first | exact CellsC.of | exact cells_one (by assumption) (by assumption) | exact cells_agg _ rfl) ?_; clear hL; intro gq wq hL)) | ((with_reducible refine gBox rfl rfl ?_); (refine ev_boxL rfl hL rfl rfl (by first | exact CellsC.of | exact cells_one (by assumption) (by assumption) | exact cells_agg _ rfl) ?_; clear hL; intro gq wq hL)) | ((with_reducible refine gLoad rfl rfl ?_); (first | (refine ev_load1L rfl hL rfl rfl HasV.mem (by rfl) ?_) | (refine ev_loadAllL rfl hL rfl rfl HasV.mem (by rfl) ?_) | (refine ev_loadL rfl hL rfl rfl HasV.mem SegC.seg ?_))) | ((with_reducible refine gStore rfl rfl ?_); (first | (refine ev_storeC rfl hL rfl rfl rfl (by first | exact CellsC.of | exact cells_one (by assumption) (by assumption) | exact cells_agg _ rfl) (by rfl) ?_) | (refine ev_storeAllC rfl hL rfl rfl rfl (by first | exact CellsC.of | exact cells_one (by assumption) (by assumption) | exact cells_agg _ rfl) (by rfl) (by rfl) ?_)); clear hL; intro wq hL) | ((with_reducible refine gLoadG rfl rfl ?_ ?_); (exact wanted_some rfl rfl rfl (by with_reducible rfl)); (first | (refine ev_load1G (wanted_some rfl rfl rfl rfl) hL rfl rfl HasV.mem (by rfl) ?_) | (refine ev_loadAllG (wanted_some rfl rfl rfl rfl) hL rfl rfl HasV.mem (by rfl) ?_) | (refine ev_loadG_ (wanted_some rfl rfl rfl rfl) hL rfl rfl HasV.mem SegC.seg ?_))))
      refine wp_region_ext (by kernel_rfl) (by kernel_rfl) ?_
      repeat (first
        | (go_big_quiet_want; (first | refine quiet_load1L hL rfl rfl HasV.mem (by rfl) ?_ | refine quiet_loadAllL hL rfl rfl HasV.mem (by rfl) ?_ | refine quiet_loadL hL rfl rfl HasV.mem SegC.seg ?_); go_big_quiet_on; simp only [Act.put, List.setIfInBounds_toArray, List.set_cons_succ, List.set_cons_zero])
        | go_big_quiet_step (first | (go_at_call 55; with_reducible exact vec_is_ext a 5 true HI.out)))
      refine wpQuiet_nil ?_
      rintro _ ⟨⟨w2, hb2⟩, rfl⟩
      replace hL := hL.call hb2
      go_wp2
      go_ret
      exact ⟨rfl, hL.below⟩
    · show Calls _ _ _ w fun e w' => e = .returned (.bool (decide (a ≤ v.a6))) ∧ Below w.heap.size w w'
      go_enter Tryd.func42, Tryd.ntmps42
      go_wp2_with (first | ((with_reducible refine gAlloc rfl rfl ?_); (refine ev_allocL rfl hL rfl (by first | exact CellsC.of | exact cells_one (by assumption) (by assumption) | exact cells_agg _ rfl) ?_; clear hL; intro gq wq hL)) | ((with_reducible refine gBox rfl rfl ?_); (refine ev_boxL rfl hL rfl rfl (by first | exact CellsC.of | exact cells_one (by assumption) (by assumption) | exact cells_agg _ rfl) ?_; clear hL; intro gq wq hL)) | ((with_reducible refine gLoad rfl rfl ?_); (first | (refine ev_load1L rfl hL rfl rfl HasV.mem (by rfl) ?_) | (refine ev_loadAllL rfl hL rfl rfl HasV.mem (by rfl) ?_) | (refine ev_loadL rfl hL rfl rfl HasV.mem SegC.seg ?_))) | ((with_reducible refine gStore rfl rfl ?_); (first | (refine ev_storeC rfl hL rfl rfl rfl (by first | exact CellsC.of | exact cells_one (by assumption) (by assumption) | exact cells_agg _ rfl) (by rfl) ?_) | (refine ev_storeAllC rfl hL rfl rfl rfl (by first | exact CellsC.of | exact cells_one (by assumption) (by assumption) | exact cells_agg _ rfl) (by rfl) (by rfl) ?_)); clear hL; intro wq hL) | ((with_reducible refine gLoadG rfl rfl ?_ ?_); (exact wanted_some rfl rfl rfl (by with_reducible rfl)); (first | (refine ev_load1G (wanted_some rfl rfl rfl rfl) hL rfl rfl HasV.mem (by rfl) ?_) | (refine ev_loadAllG (wanted_some rfl rfl rfl rfl) hL rfl rfl HasV.mem (by rfl) ?_) | (refine ev_loadG_ (wanted_some rfl rfl rfl rfl) hL rfl rfl HasV.mem SegC.seg ?_))))
      refine wp_region_ext (by kernel_rfl) (by kernel_rfl) ?_
      repeat (first
        | (go_big_quiet_want; (first | refine quiet_load1L hL rfl rfl HasV.mem (by rfl) ?_ | refine quiet_loadAllL hL rfl rfl HasV.mem (by rfl) ?_ | refine quiet_loadL hL rfl rfl HasV.mem SegC.seg ?_); go_big_quiet_on; simp only [Act.put, List.setIfInBounds_toArray, List.set_cons_succ, List.set_cons_zero])
        | go_big_quiet_step (first | (go_at_call 55; with_reducible exact vec_is_ext a 6 true HI.out)))
      refine wpQuiet_nil ?_
      rintro _ ⟨⟨w2, hb2⟩, rfl⟩
      replace hL := hL.call hb2
      go_wp2
      go_ret
      exact ⟨rfl, hL.below⟩
    · show Calls _ _ _ w fun e w' => e = .returned (.bool (decide (a ≤ v.a7))) ∧ Below w.heap.size w w'
      go_enter Tryd.func42, Tryd.ntmps42
      go_wp2_with (first | ((with_reducible refine gAlloc rfl rfl ?_); (refine ev_allocL rfl hL rfl (by first | exact CellsC.of | exact cells_one (by assumption) (by assumption) | exact cells_agg _ rfl) ?_; clear hL; intro gq wq hL)) | ((with_reducible refine gBox rfl rfl ?_); (refine ev_boxL rfl hL rfl rfl (by first | exact CellsC.of | exact cells_one (by assumption) (by assumption) | exact cells_agg _ rfl) ?_; clear hL; intro gq wq hL)) | ((with_reducible refine gLoad rfl rfl ?_); (first | (refine ev_load1L rfl hL rfl rfl HasV.mem (by rfl) ?_) | (refine ev_loadAllL rfl hL rfl rfl HasV.mem (by rfl) ?_) | (refine ev_loadL rfl hL rfl rfl HasV.mem SegC.seg ?_))) | ((with_reducible refine gStore rfl rfl ?_); (first | (refine ev_storeC rfl hL rfl rfl rfl (by first | exact CellsC.of | exact cells_one (by assumption) (by assumption) | exact cells_agg _ rfl) (by rfl) ?_) | (refine ev_storeAllC rfl hL rfl rfl rfl (by first | exact CellsC.of | exact cells_one (by assumption) (by assumption) | exact cells_agg _ rfl) (by rfl) (by rfl) ?_)); clear hL; intro wq hL) | ((with_reducible refine gLoadG rfl rfl ?_ ?_); (exact wanted_some rfl rfl rfl (by with_reducible rfl)); (first | (refine ev_load1G (wanted_some rfl rfl rfl rfl) hL rfl rfl HasV.mem (by rfl) ?_) | (refine ev_loadAllG (wanted_some rfl rfl rfl rfl) hL rfl rfl HasV.mem (by rfl) ?_) | (refine ev_loadG_ (wanted_some rfl rfl rfl rfl) hL rfl rfl HasV.mem SegC.seg ?_))))
      refine wp_region_ext (by kernel_rfl) (by kernel_rfl) ?_
      repeat (first
        | (go_big_quiet_want; (first | refine quiet_load1L hL rfl rfl HasV.mem (by rfl) ?_ | refine quiet_loadAllL hL rfl rfl HasV.mem (by rfl) ?_ | refine quiet_loadL hL rfl rfl HasV.mem SegC.seg ?_); go_big_quiet_on; simp only [Act.put, List.setIfInBounds_toArray, List.set_cons_succ, List.set_cons_zero])
        | go_big_quiet_step (first | (go_at_call 55; with_reducible exact vec_is_ext a 7 true HI.out)))
      refine wpQuiet_nil ?_
      rintro _ ⟨⟨w2, hb2⟩, rfl⟩
      replace hL := hL.call hb2
      go_wp2
      go_ret
      exact ⟨rfl, hL.below⟩
theorem ref09_is (m : Mk) (w : World) : Calls Tryd.prog 56 #[.agg #[.int .i64 m.boot, .int .i64 m.n]] w fun e w' => e = .returned (.bool m.is) ∧ Below w.heap.size w w' := by
  have hL := Loc.nil w NoM
  unfold Mk.is
  by_cases c1 : 1 ≤ m.boot
  · by_cases c2 : m.boot ≤ 1099511627776
    · by_cases c3 : 0 ≤ m.n
      · rw [decide_eq_true c1, decide_eq_true c2, decide_eq_true c3]
        simp only [Bool.true_and]
        go_enter Tryd.func56, Tryd.ntmps56
        go_wp2_with (first | ((with_reducible refine gAlloc rfl rfl ?_); (refine ev_allocL rfl hL rfl (by first | exact CellsC.of | exact cells_one (by assumption) (by assumption) | exact cells_agg _ rfl) ?_; clear hL; intro gq wq hL)) | ((with_reducible refine gBox rfl rfl ?_); (refine ev_boxL rfl hL rfl rfl (by first | exact CellsC.of | exact cells_one (by assumption) (by assumption) | exact cells_agg _ rfl) ?_; clear hL; intro gq wq hL)) | ((with_reducible refine gLoad rfl rfl ?_); (first | (refine ev_load1L rfl hL rfl rfl HasV.mem (by rfl) ?_) | (refine ev_loadAllL rfl hL rfl rfl HasV.mem (by rfl) ?_) | (refine ev_loadL rfl hL rfl rfl HasV.mem SegC.seg ?_))) | ((with_reducible refine gStore rfl rfl ?_); (first | (refine ev_storeC rfl hL rfl rfl rfl (by first | exact CellsC.of | exact cells_one (by assumption) (by assumption) | exact cells_agg _ rfl) (by rfl) ?_) | (refine ev_storeAllC rfl hL rfl rfl rfl (by first | exact CellsC.of | exact cells_one (by assumption) (by assumption) | exact cells_agg _ rfl) (by rfl) (by rfl) ?_)); clear hL; intro wq hL) | ((with_reducible refine gLoadG rfl rfl ?_ ?_); (exact wanted_some rfl rfl rfl (by with_reducible rfl)); (first | (refine ev_load1G (wanted_some rfl rfl rfl rfl) hL rfl rfl HasV.mem (by rfl) ?_) | (refine ev_loadAllG (wanted_some rfl rfl rfl rfl) hL rfl rfl HasV.mem (by rfl) ?_) | (refine ev_loadG_ (wanted_some rfl rfl rfl rfl) hL rfl rfl HasV.mem SegC.seg ?_))))
        go_ret
        exact ⟨rfl, hL.below⟩
      · rw [decide_eq_true c1, decide_eq_true c2, decide_eq_false c3]
        simp only [Bool.true_and, Bool.false_and]
        have t3 : decide (0 ≤ m.n) = false := decide_eq_false c3
        go_enter Tryd.func56, Tryd.ntmps56
        go_wp2_with (first | ((with_reducible refine gAlloc rfl rfl ?_); (refine ev_allocL rfl hL rfl (by first | exact CellsC.of | exact cells_one (by assumption) (by assumption) | exact cells_agg _ rfl) ?_; clear hL; intro gq wq hL)) | ((with_reducible refine gBox rfl rfl ?_); (refine ev_boxL rfl hL rfl rfl (by first | exact CellsC.of | exact cells_one (by assumption) (by assumption) | exact cells_agg _ rfl) ?_; clear hL; intro gq wq hL)) | ((with_reducible refine gLoad rfl rfl ?_); (first | (refine ev_load1L rfl hL rfl rfl HasV.mem (by rfl) ?_) | (refine ev_loadAllL rfl hL rfl rfl HasV.mem (by rfl) ?_) | (refine ev_loadL rfl hL rfl rfl HasV.mem SegC.seg ?_))) | ((with_reducible refine gStore rfl rfl ?_); (first | (refine ev_storeC rfl hL rfl rfl rfl (by first | exact CellsC.of | exact cells_one (by assumption) (by assumption) | exact cells_agg _ rfl) (by rfl) ?_) | (refine ev_storeAllC rfl hL rfl rfl rfl (by first | exact CellsC.of | exact cells_one (by assumption) (by assumption) | exact cells_agg _ rfl) (by rfl) (by rfl) ?_)); clear hL; intro wq hL) | ((with_reducible refine gLoadG rfl rfl ?_ ?_); (exact wanted_some rfl rfl rfl (by with_reducible rfl)); (first | (refine ev_load1G (wanted_some rfl rfl rfl rfl) hL rfl rfl HasV.mem (by rfl) ?_) | (refine ev_loadAllG (wanted_some rfl rfl rfl rfl) hL rfl rfl HasV.mem (by rfl) ?_) | (refine ev_loadG_ (wanted_some rfl rfl rfl rfl) hL rfl rfl HasV.mem SegC.seg ?_))))
        go_ret
        exact ⟨rfl, hL.below⟩
    · rw [decide_eq_true c1, decide_eq_false c2]
      simp only [Bool.true_and, Bool.false_and]
      have t2 : decide (m.boot ≤ 1099511627776) = false := decide_eq_false c2
      go_enter Tryd.func56, Tryd.ntmps56
      go_wp2_with (first | ((with_reducible refine gAlloc rfl rfl ?_); (refine ev_allocL rfl hL rfl (by first | exact CellsC.of | exact cells_one (by assumption) (by assumption) | exact cells_agg _ rfl) ?_; clear hL; intro gq wq hL)) | ((with_reducible refine gBox rfl rfl ?_); (refine ev_boxL rfl hL rfl rfl (by first | exact CellsC.of | exact cells_one (by assumption) (by assumption) | exact cells_agg _ rfl) ?_; clear hL; intro gq wq hL)) | ((with_reducible refine gLoad rfl rfl ?_); (first | (refine ev_load1L rfl hL rfl rfl HasV.mem (by rfl) ?_) | (refine ev_loadAllL rfl hL rfl rfl HasV.mem (by rfl) ?_) | (refine ev_loadL rfl hL rfl rfl HasV.mem SegC.seg ?_))) | ((with_reducible refine gStore rfl rfl ?_); (first | (refine ev_storeC rfl hL rfl rfl rfl (by first | exact CellsC.of | exact cells_one (by assumption) (by assumption) | exact cells_agg _ rfl) (by rfl) ?_) | (refine ev_storeAllC rfl hL rfl rfl rfl (by first | exact CellsC.of | exact cells_one (by assumption) (by assumption) | exact cells_agg _ rfl) (by rfl) (by rfl) ?_)); clear hL; intro wq hL) | ((with_reducible refine gLoadG rfl rfl ?_ ?_); (exact wanted_some rfl rfl rfl (by with_reducible rfl)); (first | (refine ev_load1G (wanted_some rfl rfl rfl rfl) hL rfl rfl HasV.mem (by rfl) ?_) | (refine ev_loadAllG (wanted_some rfl rfl rfl rfl) hL rfl rfl HasV.mem (by rfl) ?_) | (refine ev_loadG_ (wanted_some rfl rfl rfl rfl) hL rfl rfl HasV.mem SegC.seg ?_))))
      go_ret
      exact ⟨rfl, hL.below⟩
  · rw [decide_eq_false c1]
    simp only [Bool.false_and]
    have t1 : decide (1 ≤ m.boot) = false := decide_eq_false c1
    go_enter Tryd.func56, Tryd.ntmps56
    go_wp2_with (first | ((with_reducible refine gAlloc rfl rfl ?_); (refine ev_allocL rfl hL rfl (by first | exact CellsC.of | exact cells_one (by assumption) (by assumption) | exact cells_agg _ rfl) ?_; clear hL; intro gq wq hL)) | ((with_reducible refine gBox rfl rfl ?_); (refine ev_boxL rfl hL rfl rfl (by first | exact CellsC.of | exact cells_one (by assumption) (by assumption) | exact cells_agg _ rfl) ?_; clear hL; intro gq wq hL)) | ((with_reducible refine gLoad rfl rfl ?_); (first | (refine ev_load1L rfl hL rfl rfl HasV.mem (by rfl) ?_) | (refine ev_loadAllL rfl hL rfl rfl HasV.mem (by rfl) ?_) | (refine ev_loadL rfl hL rfl rfl HasV.mem SegC.seg ?_))) | ((with_reducible refine gStore rfl rfl ?_); (first | (refine ev_storeC rfl hL rfl rfl rfl (by first | exact CellsC.of | exact cells_one (by assumption) (by assumption) | exact cells_agg _ rfl) (by rfl) ?_) | (refine ev_storeAllC rfl hL rfl rfl rfl (by first | exact CellsC.of | exact cells_one (by assumption) (by assumption) | exact cells_agg _ rfl) (by rfl) (by rfl) ?_)); clear hL; intro wq hL) | ((with_reducible refine gLoadG rfl rfl ?_ ?_); (exact wanted_some rfl rfl rfl (by with_reducible rfl)); (first | (refine ev_load1G (wanted_some rfl rfl rfl rfl) hL rfl rfl HasV.mem (by rfl) ?_) | (refine ev_loadAllG (wanted_some rfl rfl rfl rfl) hL rfl rfl HasV.mem (by rfl) ?_) | (refine ev_loadG_ (wanted_some rfl rfl rfl rfl) hL rfl rfl HasV.mem SegC.seg ?_))))
    go_ret
    exact ⟨rfl, hL.below⟩
theorem ref09_is_ext {W : World} {e : Ext W} (a b : Int) (r : Bool) (h : (Mk.mk a b).is = r) : Calls Tryd.prog 56 #[.agg #[.int .i64 a, .int .i64 b]] e.w fun en w'' => en = .returned (.bool r) ∧ ∃ x : Ext W, w'' = x.w :=
  calls_ext (by subst h; exact ref09_is ⟨a, b⟩ _)
theorem ref09_has (v : V8) (m : Mk) (w : World) : Calls Tryd.prog 43 #[.agg #[.int .i64 v.a0, .int .i64 v.a1, .int .i64 v.a2, .int .i64 v.a3, .int .i64 v.a4, .int .i64 v.a5, .int .i64 v.a6, .int .i64 v.a7], .agg #[.int .i64 m.boot, .int .i64 m.n]] w fun e w' => e = .returned (.bool (v.has m)) ∧ Below w.heap.size w w' := by
  have hL := Loc.nil w NoM
  unfold V8.has
  obtain ⟨a, b⟩ := m
  cases his : (Mk.mk a b).is
  · have HI := Lib.hid his
    clear his
    simp only [Bool.false_and]
    go_enter Tryd.func43, Tryd.ntmps43
    go_wp2_with (first | ((with_reducible refine gAlloc rfl rfl ?_); (refine ev_allocL rfl hL rfl (by first | exact CellsC.of | exact cells_one (by assumption) (by assumption) | exact cells_agg _ rfl) ?_; clear hL; intro gq wq hL)) | ((with_reducible refine gBox rfl rfl ?_); (refine ev_boxL rfl hL rfl rfl (by first | exact CellsC.of | exact cells_one (by assumption) (by assumption) | exact cells_agg _ rfl) ?_; clear hL; intro gq wq hL)) | ((with_reducible refine gLoad rfl rfl ?_); (first | (refine ev_load1L rfl hL rfl rfl HasV.mem (by rfl) ?_) | (refine ev_loadAllL rfl hL rfl rfl HasV.mem (by rfl) ?_) | (refine ev_loadL rfl hL rfl rfl HasV.mem SegC.seg ?_))) | ((with_reducible refine gStore rfl rfl ?_); (first | (refine ev_storeC rfl hL rfl rfl rfl (by first | exact CellsC.of | exact cells_one (by assumption) (by assumption) | exact cells_agg _ rfl) (by rfl) ?_) | (refine ev_storeAllC rfl hL rfl rfl rfl (by first | exact CellsC.of | exact cells_one (by assumption) (by assumption) | exact cells_agg _ rfl) (by rfl) (by rfl) ?_)); clear hL; intro wq hL) | ((with_reducible refine gLoadG rfl rfl ?_ ?_); (exact wanted_some rfl rfl rfl (by with_reducible rfl)); (first | (refine ev_load1G (wanted_some rfl rfl rfl rfl) hL rfl rfl HasV.mem (by rfl) ?_) | (refine ev_loadAllG (wanted_some rfl rfl rfl rfl) hL rfl rfl HasV.mem (by rfl) ?_) | (refine ev_loadG_ (wanted_some rfl rfl rfl rfl) hL rfl rfl HasV.mem SegC.seg ?_))))
    refine wp_region_ext (by kernel_rfl) (by kernel_rfl) ?_
    repeat (first
      | (go_big_quiet_want; (first | refine quiet_load1L hL rfl rfl HasV.mem (by rfl) ?_ | refine quiet_loadAllL hL rfl rfl HasV.mem (by rfl) ?_ | refine quiet_loadL hL rfl rfl HasV.mem SegC.seg ?_); go_big_quiet_on; simp only [Act.put, List.setIfInBounds_toArray, List.set_cons_succ, List.set_cons_zero])
      | go_big_quiet_step (first | (go_at_call 56; with_reducible exact ref09_is_ext a b false HI.out)))
    refine wpQuiet_nil ?_
    rintro _ ⟨⟨w2, hb2⟩, rfl⟩
    replace hL := hL.call hb2
    go_wp2
    go_ret
    exact ⟨rfl, hL.below⟩
  · have hn := Mk.is_n his
    have HI := Lib.hid his
    clear his
    simp only [Bool.true_and]
    replace hn : b = 0 ∨ b = 1 ∨ b = 2 ∨ b = 3 ∨ b = 4 ∨ b = 5 ∨ b = 6 ∨ b = 7 := hn
    rcases hn with rfl | rfl | rfl | rfl | rfl | rfl | rfl | rfl
    · show Calls _ _ _ w fun e w' => e = .returned (.bool (decide (a ≤ v.a0))) ∧ Below w.heap.size w w'
      go_enter Tryd.func43, Tryd.ntmps43
      go_wp2_with (first | ((with_reducible refine gAlloc rfl rfl ?_); (refine ev_allocL rfl hL rfl (by first | exact CellsC.of | exact cells_one (by assumption) (by assumption) | exact cells_agg _ rfl) ?_; clear hL; intro gq wq hL)) | ((with_reducible refine gBox rfl rfl ?_); (refine ev_boxL rfl hL rfl rfl (by first | exact CellsC.of | exact cells_one (by assumption) (by assumption) | exact cells_agg _ rfl) ?_; clear hL; intro gq wq hL)) | ((with_reducible refine gLoad rfl rfl ?_); (first | (refine ev_load1L rfl hL rfl rfl HasV.mem (by rfl) ?_) | (refine ev_loadAllL rfl hL rfl rfl HasV.mem (by rfl) ?_) | (refine ev_loadL rfl hL rfl rfl HasV.mem SegC.seg ?_))) | ((with_reducible refine gStore rfl rfl ?_); (first | (refine ev_storeC rfl hL rfl rfl rfl (by first | exact CellsC.of | exact cells_one (by assumption) (by assumption) | exact cells_agg _ rfl) (by rfl) ?_) | (refine ev_storeAllC rfl hL rfl rfl rfl (by first | exact CellsC.of | exact cells_one (by assumption) (by assumption) | exact cells_agg _ rfl) (by rfl) (by rfl) ?_)); clear hL; intro wq hL) | ((with_reducible refine gLoadG rfl rfl ?_ ?_); (exact wanted_some rfl rfl rfl (by with_reducible rfl)); (first | (refine ev_load1G (wanted_some rfl rfl rfl rfl) hL rfl rfl HasV.mem (by rfl) ?_) | (refine ev_loadAllG (wanted_some rfl rfl rfl rfl) hL rfl rfl HasV.mem (by rfl) ?_) | (refine ev_loadG_ (wanted_some rfl rfl rfl rfl) hL rfl rfl HasV.mem SegC.seg ?_))))
      refine wp_region_ext (by kernel_rfl) (by kernel_rfl) ?_
      repeat (first
        | (go_big_quiet_want; (first | refine quiet_load1L hL rfl rfl HasV.mem (by rfl) ?_ | refine quiet_loadAllL hL rfl rfl HasV.mem (by rfl) ?_ | refine quiet_loadL hL rfl rfl HasV.mem SegC.seg ?_); go_big_quiet_on; simp only [Act.put, List.setIfInBounds_toArray, List.set_cons_succ, List.set_cons_zero])
        | go_big_quiet_step (first | (go_at_call 56; with_reducible exact ref09_is_ext a 0 true HI.out)))
      refine wpQuiet_nil ?_
      rintro _ ⟨⟨w2, hb2⟩, rfl⟩
      replace hL := hL.call hb2
      go_wp2
      go_ret
      exact ⟨rfl, hL.below⟩
    · show Calls _ _ _ w fun e w' => e = .returned (.bool (decide (a ≤ v.a1))) ∧ Below w.heap.size w w'
      go_enter Tryd.func43, Tryd.ntmps43
      go_wp2_with (first | ((with_reducible refine gAlloc rfl rfl ?_); (refine ev_allocL rfl hL rfl (by first | exact CellsC.of | exact cells_one (by assumption) (by assumption) | exact cells_agg _ rfl) ?_; clear hL; intro gq wq hL)) | ((with_reducible refine gBox rfl rfl ?_); (refine ev_boxL rfl hL rfl rfl (by first | exact CellsC.of | exact cells_one (by assumption) (by assumption) | exact cells_agg _ rfl) ?_; clear hL; intro gq wq hL)) | ((with_reducible refine gLoad rfl rfl ?_); (first | (refine ev_load1L rfl hL rfl rfl HasV.mem (by rfl) ?_) | (refine ev_loadAllL rfl hL rfl rfl HasV.mem (by rfl) ?_) | (refine ev_loadL rfl hL rfl rfl HasV.mem SegC.seg ?_))) | ((with_reducible refine gStore rfl rfl ?_); (first | (refine ev_storeC rfl hL rfl rfl rfl (by first | exact CellsC.of | exact cells_one (by assumption) (by assumption) | exact cells_agg _ rfl) (by rfl) ?_) | (refine ev_storeAllC rfl hL rfl rfl rfl (by first | exact CellsC.of | exact cells_one (by assumption) (by assumption) | exact cells_agg _ rfl) (by rfl) (by rfl) ?_)); clear hL; intro wq hL) | ((with_reducible refine gLoadG rfl rfl ?_ ?_); (exact wanted_some rfl rfl rfl (by with_reducible rfl)); (first | (refine ev_load1G (wanted_some rfl rfl rfl rfl) hL rfl rfl HasV.mem (by rfl) ?_) | (refine ev_loadAllG (wanted_some rfl rfl rfl rfl) hL rfl rfl HasV.mem (by rfl) ?_) | (refine ev_loadG_ (wanted_some rfl rfl rfl rfl) hL rfl rfl HasV.mem SegC.seg ?_))))
      refine wp_region_ext (by kernel_rfl) (by kernel_rfl) ?_
      repeat (first
        | (go_big_quiet_want; (first | refine quiet_load1L hL rfl rfl HasV.mem (by rfl) ?_ | refine quiet_loadAllL hL rfl rfl HasV.mem (by rfl) ?_ | refine quiet_loadL hL rfl rfl HasV.mem SegC.seg ?_); go_big_quiet_on; simp only [Act.put, List.setIfInBounds_toArray, List.set_cons_succ, List.set_cons_zero])
        | go_big_quiet_step (first | (go_at_call 56; with_reducible exact ref09_is_ext a 1 true HI.out)))
      refine wpQuiet_nil ?_
      rintro _ ⟨⟨w2, hb2⟩, rfl⟩
      replace hL := hL.call hb2
      go_wp2
      go_ret
      exact ⟨rfl, hL.below⟩
    · show Calls _ _ _ w fun e w' => e = .returned (.bool (decide (a ≤ v.a2))) ∧ Below w.heap.size w w'
      go_enter Tryd.func43, Tryd.ntmps43
      go_wp2_with (first | ((with_reducible refine gAlloc rfl rfl ?_); (refine ev_allocL rfl hL rfl (by first | exact CellsC.of | exact cells_one (by assumption) (by assumption) | exact cells_agg _ rfl) ?_; clear hL; intro gq wq hL)) | ((with_reducible refine gBox rfl rfl ?_); (refine ev_boxL rfl hL rfl rfl (by first | exact CellsC.of | exact cells_one (by assumption) (by assumption) | exact cells_agg _ rfl) ?_; clear hL; intro gq wq hL)) | ((with_reducible refine gLoad rfl rfl ?_); (first | (refine ev_load1L rfl hL rfl rfl HasV.mem (by rfl) ?_) | (refine ev_loadAllL rfl hL rfl rfl HasV.mem (by rfl) ?_) | (refine ev_loadL rfl hL rfl rfl HasV.mem SegC.seg ?_))) | ((with_reducible refine gStore rfl rfl ?_); (first | (refine ev_storeC rfl hL rfl rfl rfl (by first | exact CellsC.of | exact cells_one (by assumption) (by assumption) | exact cells_agg _ rfl) (by rfl) ?_) | (refine ev_storeAllC rfl hL rfl rfl rfl (by first | exact CellsC.of | exact cells_one (by assumption) (by assumption) | exact cells_agg _ rfl) (by rfl) (by rfl) ?_)); clear hL; intro wq hL) | ((with_reducible refine gLoadG rfl rfl ?_ ?_); (exact wanted_some rfl rfl rfl (by with_reducible rfl)); (first | (refine ev_load1G (wanted_some rfl rfl rfl rfl) hL rfl rfl HasV.mem (by rfl) ?_) | (refine ev_loadAllG (wanted_some rfl rfl rfl rfl) hL rfl rfl HasV.mem (by rfl) ?_) | (refine ev_loadG_ (wanted_some rfl rfl rfl rfl) hL rfl rfl HasV.mem SegC.seg ?_))))
      refine wp_region_ext (by kernel_rfl) (by kernel_rfl) ?_
      repeat (first
        | (go_big_quiet_want; (first | refine quiet_load1L hL rfl rfl HasV.mem (by rfl) ?_ | refine quiet_loadAllL hL rfl rfl HasV.mem (by rfl) ?_ | refine quiet_loadL hL rfl rfl HasV.mem SegC.seg ?_); go_big_quiet_on; simp only [Act.put, List.setIfInBounds_toArray, List.set_cons_succ, List.set_cons_zero])
        | go_big_quiet_step (first | (go_at_call 56; with_reducible exact ref09_is_ext a 2 true HI.out)))
      refine wpQuiet_nil ?_
      rintro _ ⟨⟨w2, hb2⟩, rfl⟩
      replace hL := hL.call hb2
      go_wp2
      go_ret
      exact ⟨rfl, hL.below⟩
    · show Calls _ _ _ w fun e w' => e = .returned (.bool (decide (a ≤ v.a3))) ∧ Below w.heap.size w w'
      go_enter Tryd.func43, Tryd.ntmps43
      go_wp2_with (first | ((with_reducible refine gAlloc rfl rfl ?_); (refine ev_allocL rfl hL rfl (by first | exact CellsC.of | exact cells_one (by assumption) (by assumption) | exact cells_agg _ rfl) ?_; clear hL; intro gq wq hL)) | ((with_reducible refine gBox rfl rfl ?_); (refine ev_boxL rfl hL rfl rfl (by first | exact CellsC.of | exact cells_one (by assumption) (by assumption) | exact cells_agg _ rfl) ?_; clear hL; intro gq wq hL)) | ((with_reducible refine gLoad rfl rfl ?_); (first | (refine ev_load1L rfl hL rfl rfl HasV.mem (by rfl) ?_) | (refine ev_loadAllL rfl hL rfl rfl HasV.mem (by rfl) ?_) | (refine ev_loadL rfl hL rfl rfl HasV.mem SegC.seg ?_))) | ((with_reducible refine gStore rfl rfl ?_); (first | (refine ev_storeC rfl hL rfl rfl rfl (by first | exact CellsC.of | exact cells_one (by assumption) (by assumption) | exact cells_agg _ rfl) (by rfl) ?_) | (refine ev_storeAllC rfl hL rfl rfl rfl (by first | exact CellsC.of | exact cells_one (by assumption) (by assumption) | exact cells_agg _ rfl) (by rfl) (by rfl) ?_)); clear hL; intro wq hL) | ((with_reducible refine gLoadG rfl rfl ?_ ?_); (exact wanted_some rfl rfl rfl (by with_reducible rfl)); (first | (refine ev_load1G (wanted_some rfl rfl rfl rfl) hL rfl rfl HasV.mem (by rfl) ?_) | (refine ev_loadAllG (wanted_some rfl rfl rfl rfl) hL rfl rfl HasV.mem (by rfl) ?_) | (refine ev_loadG_ (wanted_some rfl rfl rfl rfl) hL rfl rfl HasV.mem SegC.seg ?_))))
      refine wp_region_ext (by kernel_rfl) (by kernel_rfl) ?_
      repeat (first
        | (go_big_quiet_want; (first | refine quiet_load1L hL rfl rfl HasV.mem (by rfl) ?_ | refine quiet_loadAllL hL rfl rfl HasV.mem (by rfl) ?_ | refine quiet_loadL hL rfl rfl HasV.mem SegC.seg ?_); go_big_quiet_on; simp only [Act.put, List.setIfInBounds_toArray, List.set_cons_succ, List.set_cons_zero])
        | go_big_quiet_step (first | (go_at_call 56; with_reducible exact ref09_is_ext a 3 true HI.out)))
      refine wpQuiet_nil ?_
      rintro _ ⟨⟨w2, hb2⟩, rfl⟩
      replace hL := hL.call hb2
      go_wp2
      go_ret
      exact ⟨rfl, hL.below⟩
    · show Calls _ _ _ w fun e w' => e = .returned (.bool (decide (a ≤ v.a4))) ∧ Below w.heap.size w w'
      go_enter Tryd.func43, Tryd.ntmps43
      go_wp2_with (first | ((with_reducible refine gAlloc rfl rfl ?_); (refine ev_allocL rfl hL rfl (by first | exact CellsC.of | exact cells_one (by assumption) (by assumption) | exact cells_agg _ rfl) ?_; clear hL; intro gq wq hL)) | ((with_reducible refine gBox rfl rfl ?_); (refine ev_boxL rfl hL rfl rfl (by first | exact CellsC.of | exact cells_one (by assumption) (by assumption) | exact cells_agg _ rfl) ?_; clear hL; intro gq wq hL)) | ((with_reducible refine gLoad rfl rfl ?_); (first | (refine ev_load1L rfl hL rfl rfl HasV.mem (by rfl) ?_) | (refine ev_loadAllL rfl hL rfl rfl HasV.mem (by rfl) ?_) | (refine ev_loadL rfl hL rfl rfl HasV.mem SegC.seg ?_))) | ((with_reducible refine gStore rfl rfl ?_); (first | (refine ev_storeC rfl hL rfl rfl rfl (by first | exact CellsC.of | exact cells_one (by assumption) (by assumption) | exact cells_agg _ rfl) (by rfl) ?_) | (refine ev_storeAllC rfl hL rfl rfl rfl (by first | exact CellsC.of | exact cells_one (by assumption) (by assumption) | exact cells_agg _ rfl) (by rfl) (by rfl) ?_)); clear hL; intro wq hL) | ((with_reducible refine gLoadG rfl rfl ?_ ?_); (exact wanted_some rfl rfl rfl (by with_reducible rfl)); (first | (refine ev_load1G (wanted_some rfl rfl rfl rfl) hL rfl rfl HasV.mem (by rfl) ?_) | (refine ev_loadAllG (wanted_some rfl rfl rfl rfl) hL rfl rfl HasV.mem (by rfl) ?_) | (refine ev_loadG_ (wanted_some rfl rfl rfl rfl) hL rfl rfl HasV.mem SegC.seg ?_))))
      refine wp_region_ext (by kernel_rfl) (by kernel_rfl) ?_
      repeat (first
        | (go_big_quiet_want; (first | refine quiet_load1L hL rfl rfl HasV.mem (by rfl) ?_ | refine quiet_loadAllL hL rfl rfl HasV.mem (by rfl) ?_ | refine quiet_loadL hL rfl rfl HasV.mem SegC.seg ?_); go_big_quiet_on; simp only [Act.put, List.setIfInBounds_toArray, List.set_cons_succ, List.set_cons_zero])
        | go_big_quiet_step (first | (go_at_call 56; with_reducible exact ref09_is_ext a 4 true HI.out)))
      refine wpQuiet_nil ?_
      rintro _ ⟨⟨w2, hb2⟩, rfl⟩
      replace hL := hL.call hb2
      go_wp2
      go_ret
      exact ⟨rfl, hL.below⟩
    · show Calls _ _ _ w fun e w' => e = .returned (.bool (decide (a ≤ v.a5))) ∧ Below w.heap.size w w'
      go_enter Tryd.func43, Tryd.ntmps43
      go_wp2_with (first | ((with_reducible refine gAlloc rfl rfl ?_); (refine ev_allocL rfl hL rfl (by first | exact CellsC.of | exact cells_one (by assumption) (by assumption) | exact cells_agg _ rfl) ?_; clear hL; intro gq wq hL)) | ((with_reducible refine gBox rfl rfl ?_); (refine ev_boxL rfl hL rfl rfl (by first | exact CellsC.of | exact cells_one (by assumption) (by assumption) | exact cells_agg _ rfl) ?_; clear hL; intro gq wq hL)) | ((with_reducible refine gLoad rfl rfl ?_); (first | (refine ev_load1L rfl hL rfl rfl HasV.mem (by rfl) ?_) | (refine ev_loadAllL rfl hL rfl rfl HasV.mem (by rfl) ?_) | (refine ev_loadL rfl hL rfl rfl HasV.mem SegC.seg ?_))) | ((with_reducible refine gStore rfl rfl ?_); (first | (refine ev_storeC rfl hL rfl rfl rfl (by first | exact CellsC.of | exact cells_one (by assumption) (by assumption) | exact cells_agg _ rfl) (by rfl) ?_) | (refine ev_storeAllC rfl hL rfl rfl rfl (by first | exact CellsC.of | exact cells_one (by assumption) (by assumption) | exact cells_agg _ rfl) (by rfl) (by rfl) ?_)); clear hL; intro wq hL) | ((with_reducible refine gLoadG rfl rfl ?_ ?_); (exact wanted_some rfl rfl rfl (by with_reducible rfl)); (first | (refine ev_load1G (wanted_some rfl rfl rfl rfl) hL rfl rfl HasV.mem (by rfl) ?_) | (refine ev_loadAllG (wanted_some rfl rfl rfl rfl) hL rfl rfl HasV.mem (by rfl) ?_) | (refine ev_loadG_ (wanted_some rfl rfl rfl rfl) hL rfl rfl HasV.mem SegC.seg ?_))))
      refine wp_region_ext (by kernel_rfl) (by kernel_rfl) ?_
      repeat (first
        | (go_big_quiet_want; (first | refine quiet_load1L hL rfl rfl HasV.mem (by rfl) ?_ | refine quiet_loadAllL hL rfl rfl HasV.mem (by rfl) ?_ | refine quiet_loadL hL rfl rfl HasV.mem SegC.seg ?_); go_big_quiet_on; simp only [Act.put, List.setIfInBounds_toArray, List.set_cons_succ, List.set_cons_zero])
        | go_big_quiet_step (first | (go_at_call 56; with_reducible exact ref09_is_ext a 5 true HI.out)))
      refine wpQuiet_nil ?_
      rintro _ ⟨⟨w2, hb2⟩, rfl⟩
      replace hL := hL.call hb2
      go_wp2
      go_ret
      exact ⟨rfl, hL.below⟩
    · show Calls _ _ _ w fun e w' => e = .returned (.bool (decide (a ≤ v.a6))) ∧ Below w.heap.size w w'
      go_enter Tryd.func43, Tryd.ntmps43
      go_wp2_with (first | ((with_reducible refine gAlloc rfl rfl ?_); (refine ev_allocL rfl hL rfl (by first | exact CellsC.of | exact cells_one (by assumption) (by assumption) | exact cells_agg _ rfl) ?_; clear hL; intro gq wq hL)) | ((with_reducible refine gBox rfl rfl ?_); (refine ev_boxL rfl hL rfl rfl (by first | exact CellsC.of | exact cells_one (by assumption) (by assumption) | exact cells_agg _ rfl) ?_; clear hL; intro gq wq hL)) | ((with_reducible refine gLoad rfl rfl ?_); (first | (refine ev_load1L rfl hL rfl rfl HasV.mem (by rfl) ?_) | (refine ev_loadAllL rfl hL rfl rfl HasV.mem (by rfl) ?_) | (refine ev_loadL rfl hL rfl rfl HasV.mem SegC.seg ?_))) | ((with_reducible refine gStore rfl rfl ?_); (first | (refine ev_storeC rfl hL rfl rfl rfl (by first | exact CellsC.of | exact cells_one (by assumption) (by assumption) | exact cells_agg _ rfl) (by rfl) ?_) | (refine ev_storeAllC rfl hL rfl rfl rfl (by first | exact CellsC.of | exact cells_one (by assumption) (by assumption) | exact cells_agg _ rfl) (by rfl) (by rfl) ?_)); clear hL; intro wq hL) | ((with_reducible refine gLoadG rfl rfl ?_ ?_); (exact wanted_some rfl rfl rfl (by with_reducible rfl)); (first | (refine ev_load1G (wanted_some rfl rfl rfl rfl) hL rfl rfl HasV.mem (by rfl) ?_) | (refine ev_loadAllG (wanted_some rfl rfl rfl rfl) hL rfl rfl HasV.mem (by rfl) ?_) | (refine ev_loadG_ (wanted_some rfl rfl rfl rfl) hL rfl rfl HasV.mem SegC.seg ?_))))
      refine wp_region_ext (by kernel_rfl) (by kernel_rfl) ?_
      repeat (first
        | (go_big_quiet_want; (first | refine quiet_load1L hL rfl rfl HasV.mem (by rfl) ?_ | refine quiet_loadAllL hL rfl rfl HasV.mem (by rfl) ?_ | refine quiet_loadL hL rfl rfl HasV.mem SegC.seg ?_); go_big_quiet_on; simp only [Act.put, List.setIfInBounds_toArray, List.set_cons_succ, List.set_cons_zero])
        | go_big_quiet_step (first | (go_at_call 56; with_reducible exact ref09_is_ext a 6 true HI.out)))
      refine wpQuiet_nil ?_
      rintro _ ⟨⟨w2, hb2⟩, rfl⟩
      replace hL := hL.call hb2
      go_wp2
      go_ret
      exact ⟨rfl, hL.below⟩
    · show Calls _ _ _ w fun e w' => e = .returned (.bool (decide (a ≤ v.a7))) ∧ Below w.heap.size w w'
      go_enter Tryd.func43, Tryd.ntmps43
      go_wp2_with (first | ((with_reducible refine gAlloc rfl rfl ?_); (refine ev_allocL rfl hL rfl (by first | exact CellsC.of | exact cells_one (by assumption) (by assumption) | exact cells_agg _ rfl) ?_; clear hL; intro gq wq hL)) | ((with_reducible refine gBox rfl rfl ?_); (refine ev_boxL rfl hL rfl rfl (by first | exact CellsC.of | exact cells_one (by assumption) (by assumption) | exact cells_agg _ rfl) ?_; clear hL; intro gq wq hL)) | ((with_reducible refine gLoad rfl rfl ?_); (first | (refine ev_load1L rfl hL rfl rfl HasV.mem (by rfl) ?_) | (refine ev_loadAllL rfl hL rfl rfl HasV.mem (by rfl) ?_) | (refine ev_loadL rfl hL rfl rfl HasV.mem SegC.seg ?_))) | ((with_reducible refine gStore rfl rfl ?_); (first | (refine ev_storeC rfl hL rfl rfl rfl (by first | exact CellsC.of | exact cells_one (by assumption) (by assumption) | exact cells_agg _ rfl) (by rfl) ?_) | (refine ev_storeAllC rfl hL rfl rfl rfl (by first | exact CellsC.of | exact cells_one (by assumption) (by assumption) | exact cells_agg _ rfl) (by rfl) (by rfl) ?_)); clear hL; intro wq hL) | ((with_reducible refine gLoadG rfl rfl ?_ ?_); (exact wanted_some rfl rfl rfl (by with_reducible rfl)); (first | (refine ev_load1G (wanted_some rfl rfl rfl rfl) hL rfl rfl HasV.mem (by rfl) ?_) | (refine ev_loadAllG (wanted_some rfl rfl rfl rfl) hL rfl rfl HasV.mem (by rfl) ?_) | (refine ev_loadG_ (wanted_some rfl rfl rfl rfl) hL rfl rfl HasV.mem SegC.seg ?_))))
      refine wp_region_ext (by kernel_rfl) (by kernel_rfl) ?_
      repeat (first
        | (go_big_quiet_want; (first | refine quiet_load1L hL rfl rfl HasV.mem (by rfl) ?_ | refine quiet_loadAllL hL rfl rfl HasV.mem (by rfl) ?_ | refine quiet_loadL hL rfl rfl HasV.mem SegC.seg ?_); go_big_quiet_on; simp only [Act.put, List.setIfInBounds_toArray, List.set_cons_succ, List.set_cons_zero])
        | go_big_quiet_step (first | (go_at_call 56; with_reducible exact ref09_is_ext a 7 true HI.out)))
      refine wpQuiet_nil ?_
      rintro _ ⟨⟨w2, hb2⟩, rfl⟩
      replace hL := hL.call hb2
      go_wp2
      go_ret
      exact ⟨rfl, hL.below⟩
end Go.Proofs.YtebpacmhdkgfeaaDoor

/- Rows of pairs of places, and slices.Equal of them. -/
namespace Go.Proofs.YtebpacmhdkgfeaaDoor
open Go.RowKit
set_option maxHeartbeats 2000000

def encPr : Enc (Nat × Nat) := ⟨2, by decide, fun p => [.int .i64 (p.1 : Int), .int .i64 (p.2 : Int)], fun _ => rfl, fun _ => ones_of rfl⟩
instance : SizeT Tryd.prog 47 encPr.sz := inferInstanceAs (SizeT Tryd.prog 47 2)
theorem pair_ns (x y : Int) : ∀ w, (binOp .neq 47 (.agg #[.int .i64 x, .int .i64 y]) (.agg #[.int .i64 x, .int .i64 y])).run Tryd.prog w = .ok (.bool false) w := by
  have h : eqCells Tryd.prog 3 47 [.int .i64 x, .int .i64 y] [.int .i64 x, .int .i64 y] = some (x == x && (y == y && true)) := by kernel_rfl
  have e : (x == x && (y == y && true)) = true := by simp
  rw [e] at h
  exact run_neq_cells 3 (by decide) (by kernel_rfl) h
theorem pairs_eq (v u : Value) (l : List (Nat × Nat)) (w : World) (hx : encPr.R w v l) (hy : encPr.R w u l) :
    Calls Tryd.prog 18 #[v, u] w fun e w' => e = .returned (.bool true) ∧ Below w.heap.size w w' := by
  have hL := Loc.nil w NoM
  have hm := R_max hx
  obtain ⟨a1, c1, rfl, h1⟩ := R_elem hx
  obtain ⟨a2, c2, rfl, h2⟩ := R_elem hy
  clear hx hy
  go_enter Tryd.func18, Tryd.ntmps18
  go_wp2_with (first | ((with_reducible refine gAlloc rfl rfl ?_); (refine ev_allocL rfl hL rfl (by first | exact CellsC.of | exact cells_one (by assumption) (by assumption) | exact cells_agg _ rfl) ?_; clear hL; intro gq wq hL)) | ((with_reducible refine gBox rfl rfl ?_); (refine ev_boxL rfl hL rfl rfl (by first | exact CellsC.of | exact cells_one (by assumption) (by assumption) | exact cells_agg _ rfl) ?_; clear hL; intro gq wq hL)) | ((with_reducible refine gLoad rfl rfl ?_); (first | (refine ev_load1L rfl hL rfl rfl HasV.mem (by rfl) ?_) | (refine ev_loadAllL rfl hL rfl rfl HasV.mem (by rfl) ?_) | (refine ev_loadL rfl hL rfl rfl HasV.mem SegC.seg ?_))) | ((with_reducible refine gStore rfl rfl ?_); (first | (refine ev_storeC rfl hL rfl rfl rfl (by first | exact CellsC.of | exact cells_one (by assumption) (by assumption) | exact cells_agg _ rfl) (by rfl) ?_) | (refine ev_storeAllC rfl hL rfl rfl rfl (by first | exact CellsC.of | exact cells_one (by assumption) (by assumption) | exact cells_agg _ rfl) (by rfl) (by rfl) ?_)); clear hL; intro wq hL) | ((with_reducible refine gLoadG rfl rfl ?_ ?_); (exact wanted_some rfl rfl rfl (by with_reducible rfl)); (first | (refine ev_load1G (wanted_some rfl rfl rfl rfl) hL rfl rfl HasV.mem (by rfl) ?_) | (refine ev_loadAllG (wanted_some rfl rfl rfl rfl) hL rfl rfl HasV.mem (by rfl) ?_) | (refine ev_loadG_ (wanted_some rfl rfl rfl rfl) hL rfl rfl HasV.mem SegC.seg ?_))))
  go_loopw [13] (fun i wr => ∃ k : Nat, k ≤ l.length ∧ i = .int .i64 k ∧ Loc w NoM wr []) (fun i _ => l.length - (intOf i).toNat)
  case atStart => exact ⟨0, by omega, rfl, hL⟩
  case round =>
    clear hL
    obtain ⟨k, hk, rfl, hL⟩ := hrel
    by_cases hlt : k < l.length
    · obtain ⟨q1, o1, rfl, r1⟩ := h1 k hlt
      obtain ⟨q2, o2, rfl, r2⟩ := h2 k hlt
      have hz1 : World.rangeAt _ q1 (o1 + k * encPr.sz) [.int .i64 (l[k].1 : Int), .int .i64 (l[k].2 : Int)] := range_below r1 hL.below
      have hz2 : World.rangeAt _ q2 (o2 + k * encPr.sz) [.int .i64 (l[k].1 : Int), .int .i64 (l[k].2 : Int)] := range_below r2 hL.below
      clear r1 r2
      have hne := pair_ns (l[k].1 : Int) (l[k].2 : Int)
      generalize (l[k].1 : Int) = x at *
      generalize (l[k].2 : Int) = y at *
      go_wp2_with (first | ((with_reducible refine gAlloc rfl rfl ?_); (refine ev_allocL rfl hL rfl (by first | exact CellsC.of | exact cells_one (by assumption) (by assumption) | exact cells_agg _ rfl) ?_; clear hL; intro gq wq hL)) | ((with_reducible refine gBox rfl rfl ?_); (refine ev_boxL rfl hL rfl rfl (by first | exact CellsC.of | exact cells_one (by assumption) (by assumption) | exact cells_agg _ rfl) ?_; clear hL; intro gq wq hL)) | ((with_reducible refine gLoad rfl rfl ?_); (first | (refine ev_load1L rfl hL rfl rfl HasV.mem (by rfl) ?_) | (refine ev_loadAllL rfl hL rfl rfl HasV.mem (by rfl) ?_) | (refine ev_loadL rfl hL rfl rfl HasV.mem SegC.seg ?_))) | ((with_reducible refine gStore rfl rfl ?_); (first | (refine ev_storeC rfl hL rfl rfl rfl (by first | exact CellsC.of | exact cells_one (by assumption) (by assumption) | exact cells_agg _ rfl) (by rfl) ?_) | (refine ev_storeAllC rfl hL rfl rfl rfl (by first | exact CellsC.of | exact cells_one (by assumption) (by assumption) | exact cells_agg _ rfl) (by rfl) (by rfl) ?_)); clear hL; intro wq hL) | ((with_reducible refine gLoadG rfl rfl ?_ ?_); (exact wanted_some rfl rfl rfl (by with_reducible rfl)); (first | (refine ev_load1G (wanted_some rfl rfl rfl rfl) hL rfl rfl HasV.mem (by rfl) ?_) | (refine ev_loadAllG (wanted_some rfl rfl rfl rfl) hL rfl rfl HasV.mem (by rfl) ?_) | (refine ev_loadG_ (wanted_some rfl rfl rfl rfl) hL rfl rfl HasV.mem SegC.seg ?_))))
      refine wp_region_ext (by kernel_rfl) (by kernel_rfl) ?_
      repeat (first
        | (go_big_quiet_want; (first | refine quiet_index rfl rfl rfl hlt ?_ | refine quiet_loadR rfl rfl hz1 (by rfl) ?_ | refine quiet_loadR rfl rfl hz2 (by rfl) ?_); go_big_quiet_on; simp only [Act.put, List.setIfInBounds_toArray, List.set_cons_succ, List.set_cons_zero])
        | go_big_quiet_step (fail))
      refine wpQuiet_nil ?_
      rintro _ ⟨⟨w2, hb2⟩, rfl⟩
      replace hL := hL.call hb2
      clear hb2
      go_wp2_with (first | ((with_reducible refine gAlloc rfl rfl ?_); (refine ev_allocL rfl hL rfl (by first | exact CellsC.of | exact cells_one (by assumption) (by assumption) | exact cells_agg _ rfl) ?_; clear hL; intro gq wq hL)) | ((with_reducible refine gBox rfl rfl ?_); (refine ev_boxL rfl hL rfl rfl (by first | exact CellsC.of | exact cells_one (by assumption) (by assumption) | exact cells_agg _ rfl) ?_; clear hL; intro gq wq hL)) | ((with_reducible refine gLoad rfl rfl ?_); (first | (refine ev_load1L rfl hL rfl rfl HasV.mem (by rfl) ?_) | (refine ev_loadAllL rfl hL rfl rfl HasV.mem (by rfl) ?_) | (refine ev_loadL rfl hL rfl rfl HasV.mem SegC.seg ?_))) | ((with_reducible refine gStore rfl rfl ?_); (first | (refine ev_storeC rfl hL rfl rfl rfl (by first | exact CellsC.of | exact cells_one (by assumption) (by assumption) | exact cells_agg _ rfl) (by rfl) ?_) | (refine ev_storeAllC rfl hL rfl rfl rfl (by first | exact CellsC.of | exact cells_one (by assumption) (by assumption) | exact cells_agg _ rfl) (by rfl) (by rfl) ?_)); clear hL; intro wq hL) | ((with_reducible refine gLoadG rfl rfl ?_ ?_); (exact wanted_some rfl rfl rfl (by with_reducible rfl)); (first | (refine ev_load1G (wanted_some rfl rfl rfl rfl) hL rfl rfl HasV.mem (by rfl) ?_) | (refine ev_loadAllG (wanted_some rfl rfl rfl rfl) hL rfl rfl HasV.mem (by rfl) ?_) | (refine ev_loadG_ (wanted_some rfl rfl rfl rfl) hL rfl rfl HasV.mem SegC.seg ?_))))
      go_roundw
      case rel => exact ⟨k + 1, by omega, by go_num, hL⟩
      case measure => simp [intOf]; omega
    · obtain rfl : k = l.length := by omega
      go_wp2_with (first | ((with_reducible refine gAlloc rfl rfl ?_); (refine ev_allocL rfl hL rfl (by first | exact CellsC.of | exact cells_one (by assumption) (by assumption) | exact cells_agg _ rfl) ?_; clear hL; intro gq wq hL)) | ((with_reducible refine gBox rfl rfl ?_); (refine ev_boxL rfl hL rfl rfl (by first | exact CellsC.of | exact cells_one (by assumption) (by assumption) | exact cells_agg _ rfl) ?_; clear hL; intro gq wq hL)) | ((with_reducible refine gLoad rfl rfl ?_); (first | (refine ev_load1L rfl hL rfl rfl HasV.mem (by rfl) ?_) | (refine ev_loadAllL rfl hL rfl rfl HasV.mem (by rfl) ?_) | (refine ev_loadL rfl hL rfl rfl HasV.mem SegC.seg ?_))) | ((with_reducible refine gStore rfl rfl ?_); (first | (refine ev_storeC rfl hL rfl rfl rfl (by first | exact CellsC.of | exact cells_one (by assumption) (by assumption) | exact cells_agg _ rfl) (by rfl) ?_) | (refine ev_storeAllC rfl hL rfl rfl rfl (by first | exact CellsC.of | exact cells_one (by assumption) (by assumption) | exact cells_agg _ rfl) (by rfl) (by rfl) ?_)); clear hL; intro wq hL) | ((with_reducible refine gLoadG rfl rfl ?_ ?_); (exact wanted_some rfl rfl rfl (by with_reducible rfl)); (first | (refine ev_load1G (wanted_some rfl rfl rfl rfl) hL rfl rfl HasV.mem (by rfl) ?_) | (refine ev_loadAllG (wanted_some rfl rfl rfl rfl) hL rfl rfl HasV.mem (by rfl) ?_) | (refine ev_loadG_ (wanted_some rfl rfl rfl rfl) hL rfl rfl HasV.mem SegC.seg ?_))))
      go_ret
      exact ⟨rfl, hL.below⟩
/-- Of one volume, and neither knew the other one. -/
def apart (a b : Ep) : Bool := (a.e.vol == b.e.vol) && (!decide (a.e.at_ = b.e.at_) && (!(a.e.knew.has b.e.at_) && !(b.e.knew.has a.e.at_)))
def aprow (ps : List Ep) (a : Ep) (i : Nat) : Nat → List (Nat × Nat)
  | 0 => []
  | j + 1 => aprow ps a i j ++ (match ps[j]? with | some b => if apart a b = true then [(j, i)] else [] | none => [])
def aplist (ps : List Ep) : Nat → List (Nat × Nat)
  | 0 => []
  | i + 1 => aplist ps i ++ (match ps[i]? with | some a => aprow ps a i i | none => [])
theorem aprow_succ {ps : List Ep} {a b : Ep} {i j : Nat} {r : Bool} (h : ps[j]? = some b) (hr : apart a b = r) : aprow ps a i (j + 1) = aprow ps a i j ++ (if r = true then [(j, i)] else []) := by
  show aprow ps a i j ++ _ = _
  rw [h, ← hr]
theorem aplist_succ {ps : List Ep} {a : Ep} {i : Nat} (h : ps[i]? = some a) : aplist ps (i + 1) = aplist ps i ++ aprow ps a i i := by
  show aplist ps i ++ _ = _
  rw [h]
theorem aprow_len (ps : List Ep) (a : Ep) (i : Nat) : ∀ j, (aprow ps a i j).length ≤ j
  | 0 => Nat.le_refl _
  | j + 1 => by
    have := aprow_len ps a i j
    show (aprow ps a i j ++ _).length ≤ _
    rw [List.length_append]
    split
    · split <;> simp <;> omega
    · simp; omega
theorem aplist_len (ps : List Ep) (i : Nat) (h : i ≤ 1000) : (aplist ps i).length ≤ i * 1000 := by
  induction i with
  | zero => simp [aplist]
  | succ i ih =>
    have h1 := ih (by omega)
    have h2 : (aplist ps (i + 1)).length ≤ (aplist ps i).length + i := by
      show (aplist ps i ++ _).length ≤ _
      rw [List.length_append]
      split
      · have := aprow_len ps (by assumption) i i; omega
      · simp
    omega
theorem stamp_neql (a b : Mk) {r : Bool} (h : decide (a = b) = r) : ∀ w, (binOp .neq 23 a.val b.val).run Tryd.prog w = .ok (.bool (!r)) w := by
  have h1 : eqCells Tryd.prog 3 23 [.int .i64 a.boot, .int .i64 a.n] [.int .i64 b.boot, .int .i64 b.n] = some (a.boot == b.boot && (a.n == b.n && true)) := by kernel_rfl
  have e : (a.boot == b.boot && (a.n == b.n && true)) = decide (a = b) := by
    obtain ⟨a1, a2⟩ := a; obtain ⟨b1, b2⟩ := b
    rw [Bool.eq_iff_iff]; simp
  rw [e, h] at h1
  exact run_neq_cells 3 (by decide) (by kernel_rfl) h1
end Go.Proofs.YtebpacmhdkgfeaaDoor

/- Chapter 29: crannog/story.Apart, walked. -/
namespace Go.Proofs.YtebpacmhdkgfeaaDoor
open Go.RowKit
set_option maxHeartbeats 4000000
set_option maxRecDepth 100000 in
theorem story_apart (v : Value) (ps : List Ep) (w : World) (h : encEp.R w v ps) (hn : ps.length ≤ 1000) :
    Calls Tryd.prog 19 #[v] w fun e w' => ∃ u, e = .returned u ∧ Loc w NoM w' [row encPr w.heap.size 47 u (aplist ps ps.length)] := by
  have hL := (Loc.nil w NoM).rowOff encPr w.heap.size 47
  have hcap : ∀ a c, v = .slice a ps.length c → ps.length ≤ c := fun a c e => by
    obtain ⟨_, _, c8, e8, hc8, _⟩ := h
    rw [e8] at e
    injection e with e1 e2 e3
    omega
  obtain ⟨ao, c, rfl, hel⟩ := R_elem h
  replace hcap := hcap ao c rfl
  clear h
  go_enter Tryd.func19, Tryd.ntmps19
  go_wp2_with (first | ((with_reducible refine gAlloc rfl rfl ?_); (refine ev_allocL rfl hL rfl (by first | exact CellsC.of | exact cells_one (by assumption) (by assumption) | exact cells_agg _ rfl) ?_; clear hL; intro gq wq hL)) | ((with_reducible refine gBox rfl rfl ?_); (refine ev_boxL rfl hL rfl rfl (by first | exact CellsC.of | exact cells_one (by assumption) (by assumption) | exact cells_agg _ rfl) ?_; clear hL; intro gq wq hL)) | ((with_reducible refine gLoad rfl rfl ?_); (first | (refine ev_load1L rfl hL rfl rfl HasV.mem (by rfl) ?_) | (refine ev_loadAllL rfl hL rfl rfl HasV.mem (by rfl) ?_) | (refine ev_loadL rfl hL rfl rfl HasV.mem SegC.seg ?_))) | ((with_reducible refine gStore rfl rfl ?_); (first | (refine ev_storeC rfl hL rfl rfl rfl (by first | exact CellsC.of | exact cells_one (by assumption) (by assumption) | exact cells_agg _ rfl) (by rfl) ?_) | (refine ev_storeAllC rfl hL rfl rfl rfl (by first | exact CellsC.of | exact cells_one (by assumption) (by assumption) | exact cells_agg _ rfl) (by rfl) (by rfl) ?_)); clear hL; intro wq hL) | ((with_reducible refine gLoadG rfl rfl ?_ ?_); (exact wanted_some rfl rfl rfl (by with_reducible rfl)); (first | (refine ev_load1G (wanted_some rfl rfl rfl rfl) hL rfl rfl HasV.mem (by rfl) ?_) | (refine ev_loadAllG (wanted_some rfl rfl rfl rfl) hL rfl rfl HasV.mem (by rfl) ?_) | (refine ev_loadG_ (wanted_some rfl rfl rfl rfl) hL rfl rfl HasV.mem SegC.seg ?_))))
  go_loopw [3, 10] (fun s i wr => ∃ (k : Nat) (vs : Value), k ≤ ps.length ∧ i = .int .i64 k ∧ s = vs ∧ Loc w NoM wr [row encPr w.heap.size 47 vs (aplist ps k)]) (fun _ i _ => ps.length - (intOf i).toNat)
  case atStart => exact ⟨0, _, by omega, rfl, rfl, hL⟩
  case round =>
    clear hL
    obtain ⟨i, vs, hk, rfl, rfl, hL⟩ := hrel
    by_cases hlt : i < ps.length
    · obtain ⟨g, off, rfl, hr⟩ := hel i hlt
      have hrW : World.rangeAt _ g (off + i * 21) (Evt.cells ps[i].e) := range_below hr hL.below
      clear hr
      have HT := Lib.hid (aplist_succ (List.getElem?_eq_getElem hlt))
      have hln : (aplist ps i).length ≤ 1000000 := by have := aplist_len ps i (by omega); omega
      obtain ⟨a, ha⟩ : ∃ a, a = ps[i] := ⟨_, rfl⟩
      rw [← ha] at HT hrW
      clear ha
      unfold Evt.cells at hrW
      obtain ⟨L, hLL⟩ : ∃ L, L = aplist ps i := ⟨_, rfl⟩
      rw [← hLL] at hL hln HT
      clear hLL
      have hr1 : (i : Int) ≤ (ps.length : Int) := by omega
      have hr2 : (ps.length : Int) ≤ (c : Int) := by omega
      have hr3 : (i : Int) ≤ (c : Int) := by omega
      have hr0 : (0 : Int) ≤ (i : Int) := by omega
      go_wp2_with (first | ((with_reducible refine gIndex rfl rfl ?_); refine ev_indexL rfl rfl rfl rfl hlt ?_) | ((with_reducible refine gate (N := 14) rfl ?_); refine ev_loadR rfl rfl rfl hrW (by rfl) ?_) | ((with_reducible refine gate (N := 5) rfl ?_); (refine ev_allocL rfl hL rfl (by first | exact CellsC.of | exact cells_one (by assumption) (by assumption) | exact cells_agg _ rfl) ?_; clear hL; intro g5 w5 hL)) | ((with_reducible refine gAlloc rfl rfl ?_); (refine ev_allocL rfl hL rfl (by first | exact CellsC.of | exact cells_one (by assumption) (by assumption) | exact cells_agg _ rfl) ?_; clear hL; intro gq wq hL)) | ((with_reducible refine gBox rfl rfl ?_); (refine ev_boxL rfl hL rfl rfl (by first | exact CellsC.of | exact cells_one (by assumption) (by assumption) | exact cells_agg _ rfl) ?_; clear hL; intro gq wq hL)) | ((with_reducible refine gLoad rfl rfl ?_); (first | (refine ev_load1L rfl hL rfl rfl HasV.mem (by rfl) ?_) | (refine ev_loadAllL rfl hL rfl rfl HasV.mem (by rfl) ?_) | (refine ev_loadL rfl hL rfl rfl HasV.mem SegC.seg ?_))) | ((with_reducible refine gStore rfl rfl ?_); (first | (refine ev_storeC rfl hL rfl rfl rfl (by first | exact CellsC.of | exact cells_one (by assumption) (by assumption) | exact cells_agg _ rfl) (by rfl) ?_) | (refine ev_storeAllC rfl hL rfl rfl rfl (by first | exact CellsC.of | exact cells_one (by assumption) (by assumption) | exact cells_agg _ rfl) (by rfl) (by rfl) ?_)); clear hL; intro wq hL) | ((with_reducible refine gLoadG rfl rfl ?_ ?_); (exact wanted_some rfl rfl rfl (by with_reducible rfl)); (first | (refine ev_load1G (wanted_some rfl rfl rfl rfl) hL rfl rfl HasV.mem (by rfl) ?_) | (refine ev_loadAllG (wanted_some rfl rfl rfl rfl) hL rfl rfl HasV.mem (by rfl) ?_) | (refine ev_loadG_ (wanted_some rfl rfl rfl rfl) hL rfl rfl HasV.mem SegC.seg ?_))))
      go_loopw [3, 19] (fun s x wr => ∃ (j : Nat) (vs : Value), j ≤ i ∧ s = vs ∧ x = .int .i64 j ∧ Loc w NoM wr [var g5 [.int .i64 a.e.at_.boot, .int .i64 a.e.at_.n, .int .i64 a.e.vol, .int .i64 a.e.knew.a0, .int .i64 a.e.knew.a1, .int .i64 a.e.knew.a2, .int .i64 a.e.knew.a3, .int .i64 a.e.knew.a4, .int .i64 a.e.knew.a5, .int .i64 a.e.knew.a6, .int .i64 a.e.knew.a7, .int .i64 a.e.seen.a0, .int .i64 a.e.seen.a1, .int .i64 a.e.seen.a2, .int .i64 a.e.seen.a3, .int .i64 a.e.seen.a4, .int .i64 a.e.seen.a5, .int .i64 a.e.seen.a6, .int .i64 a.e.seen.a7, .slice a.e.na a.e.nn a.e.nc, .slice a.e.la a.e.ln a.e.lc] 31, row encPr w.heap.size 47 vs (L ++ aprow ps a i (j))]) (fun _ x _ => i - (intOf x).toNat)
      case atStart => exact ⟨0, _, by omega, rfl, rfl, by simpa [aprow] using hL.sub (l' := [var g5 [.int .i64 a.e.at_.boot, .int .i64 a.e.at_.n, .int .i64 a.e.vol, .int .i64 a.e.knew.a0, .int .i64 a.e.knew.a1, .int .i64 a.e.knew.a2, .int .i64 a.e.knew.a3, .int .i64 a.e.knew.a4, .int .i64 a.e.knew.a5, .int .i64 a.e.knew.a6, .int .i64 a.e.knew.a7, .int .i64 a.e.seen.a0, .int .i64 a.e.seen.a1, .int .i64 a.e.seen.a2, .int .i64 a.e.seen.a3, .int .i64 a.e.seen.a4, .int .i64 a.e.seen.a5, .int .i64 a.e.seen.a6, .int .i64 a.e.seen.a7, .slice a.e.na a.e.nn a.e.nc, .slice a.e.la a.e.ln a.e.lc] 31, row encPr w.heap.size 47 u3 L]) (by repeat (first | exact List.nil_sublist _ | with_reducible apply List.Sublist.cons_cons | with_reducible apply List.Sublist.cons))⟩
      case round =>
        clear hL hrW
        obtain ⟨j, vs, hj, rfl, rfl, hL⟩ := hrel
        by_cases hlj : j < i
        · obtain ⟨g3, off3, he3, hrx⟩ := hel j (by omega)
          injection he3 with he3
          injection he3 with he31 he32
          subst he31 he32
          have hrX : World.rangeAt _ g (off + j * 21) (Evt.cells ps[j].e) := range_below hrx hL.below
          clear hrx
          have hb9 : ps[j]? = some ps[j] := List.getElem?_eq_getElem (by omega)
          obtain ⟨b, hb⟩ : ∃ b, b = ps[j] := ⟨_, rfl⟩
          rw [← hb] at hrX hb9
          clear hb
          unfold Evt.cells at hrX
          have hln2 : (L ++ aprow ps a i (j)).length ≤ 2000000 := by
            have := aprow_len ps a i (j)
            rw [List.length_append]; omega
          have hap : apart a b = ((a.e.vol == b.e.vol) && (!decide (a.e.at_ = b.e.at_) && (!(a.e.knew.has b.e.at_) && !(b.e.knew.has a.e.at_)))) := rfl
          obtain ⟨r1, h1⟩ : ∃ r, (a.e.vol == b.e.vol) = r := ⟨_, rfl⟩
          obtain ⟨r2, h2⟩ : ∃ r, decide (a.e.at_ = b.e.at_) = r := ⟨_, rfl⟩
          obtain ⟨r3, h3⟩ : ∃ r, a.e.knew.has b.e.at_ = r := ⟨_, rfl⟩
          obtain ⟨r4, h4⟩ : ∃ r, b.e.knew.has a.e.at_ = r := ⟨_, rfl⟩
          have hE := stamp_neql a.e.at_ b.e.at_ h2
          have hq1 := fun wx => vec_has a.e.knew b.e.at_ wx
          have hq2 := fun wx => vec_has b.e.knew a.e.at_ wx
          rw [h1, h2, h3, h4] at hap
          rw [h3] at hq1
          rw [h4] at hq2
          replace hq1 := Lib.hid hq1
          replace hq2 := Lib.hid hq2
          clear h2 h3 h4
          have hj9 : decide ((j : Int) < (i : Int)) = true := (by first | (simp; done) | (simp; omega))
          cases r1
          · have HS := Lib.hid (aprow_succ (i := i) hb9 hap)
            simp only [Bool.false_and, Bool.true_and, Bool.and_false, Bool.and_true, Bool.not_true, Bool.not_false, Bool.false_eq_true, if_false, if_true, List.append_nil] at HS
            clear hap hb9
            have HS2 := HS.out
            clear HS
            have HS : Hid (L ++ aprow ps a i (j + 1) = L ++ aprow ps a i j) := Lib.hid (by rw [HS2])
            clear HS2
            generalize L ++ aprow ps a i j = L2 at *
            go_wp2_with (first
              | ((with_reducible refine gIndex rfl rfl ?_); refine ev_indexL rfl rfl rfl rfl hlj ?_)
              | ((with_reducible refine gate (N := 23) rfl ?_); refine ev_loadR rfl rfl rfl hrX (by rfl) ?_)
              | ((with_reducible refine gate (N := 7) rfl ?_); (refine ev_allocL rfl hL rfl (by first | exact CellsC.of | exact cells_one (by assumption) (by assumption) | exact cells_agg _ rfl) ?_; clear hL; intro g7 w7 hL))
              | (go_at_call 42; (with_reducible refine (hq1.out _).mono ?_); rintro e1 w8 ⟨rfl, hb8⟩; have hL := hL.call hb8; clear hb8)
              | (go_at_call 42; (with_reducible refine (hq2.out _).mono ?_); rintro e1 w8 ⟨rfl, hb8⟩; have hL := hL.call hb8; clear hb8)
              | ((with_reducible refine gAlloc rfl rfl ?_); (refine ev_allocL rfl hL rfl (by first | exact CellsC.of | exact cells_one (by assumption) (by assumption) | exact cells_agg _ rfl) ?_; clear hL; intro gq wq hL)) | ((with_reducible refine gBox rfl rfl ?_); (refine ev_boxL rfl hL rfl rfl (by first | exact CellsC.of | exact cells_one (by assumption) (by assumption) | exact cells_agg _ rfl) ?_; clear hL; intro gq wq hL)) | ((with_reducible refine gLoad rfl rfl ?_); (first | (refine ev_load1L rfl hL rfl rfl HasV.mem (by rfl) ?_) | (refine ev_loadAllL rfl hL rfl rfl HasV.mem (by rfl) ?_) | (refine ev_loadL rfl hL rfl rfl HasV.mem SegC.seg ?_))) | ((with_reducible refine gStore rfl rfl ?_); (first | (refine ev_storeC rfl hL rfl rfl rfl (by first | exact CellsC.of | exact cells_one (by assumption) (by assumption) | exact cells_agg _ rfl) (by rfl) ?_) | (refine ev_storeAllC rfl hL rfl rfl rfl (by first | exact CellsC.of | exact cells_one (by assumption) (by assumption) | exact cells_agg _ rfl) (by rfl) (by rfl) ?_)); clear hL; intro wq hL) | ((with_reducible refine gLoadG rfl rfl ?_ ?_); (exact wanted_some rfl rfl rfl (by with_reducible rfl)); (first | (refine ev_load1G (wanted_some rfl rfl rfl rfl) hL rfl rfl HasV.mem (by rfl) ?_) | (refine ev_loadAllG (wanted_some rfl rfl rfl rfl) hL rfl rfl HasV.mem (by rfl) ?_) | (refine ev_loadG_ (wanted_some rfl rfl rfl rfl) hL rfl rfl HasV.mem SegC.seg ?_))))
            go_roundw
            case rel => exact ⟨j + 1, _, by omega, rfl, by go_num, by rw [HS.out]; exact hL.sub (by repeat (first | exact List.nil_sublist _ | with_reducible apply List.Sublist.cons_cons | with_reducible apply List.Sublist.cons))⟩
            case measure => simp [intOf]; omega
          · cases r2
            · cases r3
              · cases r4
                · have HS := Lib.hid (aprow_succ (i := i) hb9 hap)
                  simp only [Bool.true_and, Bool.and_true, Bool.not_false, if_true] at HS
                  clear hap hb9
                  have HS2 := HS.out
                  clear HS
                  have HS : Hid (L ++ aprow ps a i (j + 1) = (L ++ aprow ps a i j) ++ [(j, i)]) := Lib.hid (by rw [HS2, List.append_assoc])
                  clear HS2
                  generalize L ++ aprow ps a i j = L2 at *
                  go_wp2_with (first
                    | ((with_reducible refine gIndex rfl rfl ?_); refine ev_indexL rfl rfl rfl rfl hlj ?_)
                    | ((with_reducible refine gate (N := 23) rfl ?_); refine ev_loadR rfl rfl rfl hrX (by rfl) ?_)
                    | ((with_reducible refine gate (N := 7) rfl ?_); (refine ev_allocL rfl hL rfl (by first | exact CellsC.of | exact cells_one (by assumption) (by assumption) | exact cells_agg _ rfl) ?_; clear hL; intro g7 w7 hL))
                    | (go_at_call 42; (with_reducible refine (hq1.out _).mono ?_); rintro e1 w8 ⟨rfl, hb8⟩; have hL := hL.call hb8; clear hb8)
                    | (go_at_call 42; (with_reducible refine (hq2.out _).mono ?_); rintro e1 w8 ⟨rfl, hb8⟩; have hL := hL.call hb8; clear hb8)
                    | ((with_reducible refine gAlloc rfl rfl ?_); (refine ev_allocL rfl hL rfl (by first | exact CellsC.of | exact cells_one (by assumption) (by assumption) | exact cells_agg _ rfl) ?_; clear hL; intro gq wq hL)) | ((with_reducible refine gBox rfl rfl ?_); (refine ev_boxL rfl hL rfl rfl (by first | exact CellsC.of | exact cells_one (by assumption) (by assumption) | exact cells_agg _ rfl) ?_; clear hL; intro gq wq hL)) | ((with_reducible refine gLoad rfl rfl ?_); (first | (refine ev_load1L rfl hL rfl rfl HasV.mem (by rfl) ?_) | (refine ev_loadAllL rfl hL rfl rfl HasV.mem (by rfl) ?_) | (refine ev_loadL rfl hL rfl rfl HasV.mem SegC.seg ?_))) | ((with_reducible refine gStore rfl rfl ?_); (first | (refine ev_storeC rfl hL rfl rfl rfl (by first | exact CellsC.of | exact cells_one (by assumption) (by assumption) | exact cells_agg _ rfl) (by rfl) ?_) | (refine ev_storeAllC rfl hL rfl rfl rfl (by first | exact CellsC.of | exact cells_one (by assumption) (by assumption) | exact cells_agg _ rfl) (by rfl) (by rfl) ?_)); clear hL; intro wq hL) | ((with_reducible refine gLoadG rfl rfl ?_ ?_); (exact wanted_some rfl rfl rfl (by with_reducible rfl)); (first | (refine ev_load1G (wanted_some rfl rfl rfl rfl) hL rfl rfl HasV.mem (by rfl) ?_) | (refine ev_loadAllG (wanted_some rfl rfl rfl rfl) hL rfl rfl HasV.mem (by rfl) ?_) | (refine ev_loadG_ (wanted_some rfl rfl rfl rfl) hL rfl rfl HasV.mem SegC.seg ?_)))
                    | ((with_reducible refine gLit rfl rfl ?_); refine ev_litL (cs := [.int .i64 (j : Int), .int .i64 (i : Int)]) rfl hL rfl rfl rfl (by kernel_rfl) ?_; clear hL; intro gq wq hL)
                    | (at_builtin; refine ev_app1L (E := encPr) (j, i) rfl hL rfl rfl rfl (by first | exact mm0 | exact mm1 | exact mm2 | exact mm3 | exact mm4 | exact mm5 | exact mm6 | exact mm7 | exact mm8) (by first | exact fun _ => ss0 | exact fun _ => ss1 | exact fun _ => ss2 | exact fun _ => ss3 | exact fun _ => ss4 | exact fun _ => ss5 | exact fun _ => ss6) rfl rfl rfl (by omega) hL.size ?_; clear hL; intro ao' c' wq hL))
                  go_roundw
                  case rel => exact ⟨j + 1, _, by omega, rfl, by go_num, by rw [HS.out]; exact hL.sub (by repeat (first | exact List.nil_sublist _ | with_reducible apply List.Sublist.cons_cons | with_reducible apply List.Sublist.cons))⟩
                  case measure => simp [intOf]; omega
                · have HS := Lib.hid (aprow_succ (i := i) hb9 hap)
                  simp only [Bool.false_and, Bool.true_and, Bool.and_false, Bool.and_true, Bool.not_true, Bool.not_false, Bool.false_eq_true, if_false, if_true, List.append_nil] at HS
                  clear hap hb9
                  have HS2 := HS.out
                  clear HS
                  have HS : Hid (L ++ aprow ps a i (j + 1) = L ++ aprow ps a i j) := Lib.hid (by rw [HS2])
                  clear HS2
                  generalize L ++ aprow ps a i j = L2 at *
                  go_wp2_with (first
                    | ((with_reducible refine gIndex rfl rfl ?_); refine ev_indexL rfl rfl rfl rfl hlj ?_)
                    | ((with_reducible refine gate (N := 23) rfl ?_); refine ev_loadR rfl rfl rfl hrX (by rfl) ?_)
                    | ((with_reducible refine gate (N := 7) rfl ?_); (refine ev_allocL rfl hL rfl (by first | exact CellsC.of | exact cells_one (by assumption) (by assumption) | exact cells_agg _ rfl) ?_; clear hL; intro g7 w7 hL))
                    | (go_at_call 42; (with_reducible refine (hq1.out _).mono ?_); rintro e1 w8 ⟨rfl, hb8⟩; have hL := hL.call hb8; clear hb8)
                    | (go_at_call 42; (with_reducible refine (hq2.out _).mono ?_); rintro e1 w8 ⟨rfl, hb8⟩; have hL := hL.call hb8; clear hb8)
                    | ((with_reducible refine gAlloc rfl rfl ?_); (refine ev_allocL rfl hL rfl (by first | exact CellsC.of | exact cells_one (by assumption) (by assumption) | exact cells_agg _ rfl) ?_; clear hL; intro gq wq hL)) | ((with_reducible refine gBox rfl rfl ?_); (refine ev_boxL rfl hL rfl rfl (by first | exact CellsC.of | exact cells_one (by assumption) (by assumption) | exact cells_agg _ rfl) ?_; clear hL; intro gq wq hL)) | ((with_reducible refine gLoad rfl rfl ?_); (first | (refine ev_load1L rfl hL rfl rfl HasV.mem (by rfl) ?_) | (refine ev_loadAllL rfl hL rfl rfl HasV.mem (by rfl) ?_) | (refine ev_loadL rfl hL rfl rfl HasV.mem SegC.seg ?_))) | ((with_reducible refine gStore rfl rfl ?_); (first | (refine ev_storeC rfl hL rfl rfl rfl (by first | exact CellsC.of | exact cells_one (by assumption) (by assumption) | exact cells_agg _ rfl) (by rfl) ?_) | (refine ev_storeAllC rfl hL rfl rfl rfl (by first | exact CellsC.of | exact cells_one (by assumption) (by assumption) | exact cells_agg _ rfl) (by rfl) (by rfl) ?_)); clear hL; intro wq hL) | ((with_reducible refine gLoadG rfl rfl ?_ ?_); (exact wanted_some rfl rfl rfl (by with_reducible rfl)); (first | (refine ev_load1G (wanted_some rfl rfl rfl rfl) hL rfl rfl HasV.mem (by rfl) ?_) | (refine ev_loadAllG (wanted_some rfl rfl rfl rfl) hL rfl rfl HasV.mem (by rfl) ?_) | (refine ev_loadG_ (wanted_some rfl rfl rfl rfl) hL rfl rfl HasV.mem SegC.seg ?_))))
                  go_roundw
                  case rel => exact ⟨j + 1, _, by omega, rfl, by go_num, by rw [HS.out]; exact hL.sub (by repeat (first | exact List.nil_sublist _ | with_reducible apply List.Sublist.cons_cons | with_reducible apply List.Sublist.cons))⟩
                  case measure => simp [intOf]; omega
              · have HS := Lib.hid (aprow_succ (i := i) hb9 hap)
                simp only [Bool.false_and, Bool.true_and, Bool.and_false, Bool.and_true, Bool.not_true, Bool.not_false, Bool.false_eq_true, if_false, if_true, List.append_nil] at HS
                clear hap hb9
                have HS2 := HS.out
                clear HS
                have HS : Hid (L ++ aprow ps a i (j + 1) = L ++ aprow ps a i j) := Lib.hid (by rw [HS2])
                clear HS2
                generalize L ++ aprow ps a i j = L2 at *
                go_wp2_with (first
                  | ((with_reducible refine gIndex rfl rfl ?_); refine ev_indexL rfl rfl rfl rfl hlj ?_)
                  | ((with_reducible refine gate (N := 23) rfl ?_); refine ev_loadR rfl rfl rfl hrX (by rfl) ?_)
                  | ((with_reducible refine gate (N := 7) rfl ?_); (refine ev_allocL rfl hL rfl (by first | exact CellsC.of | exact cells_one (by assumption) (by assumption) | exact cells_agg _ rfl) ?_; clear hL; intro g7 w7 hL))
                  | (go_at_call 42; (with_reducible refine (hq1.out _).mono ?_); rintro e1 w8 ⟨rfl, hb8⟩; have hL := hL.call hb8; clear hb8)
                  | (go_at_call 42; (with_reducible refine (hq2.out _).mono ?_); rintro e1 w8 ⟨rfl, hb8⟩; have hL := hL.call hb8; clear hb8)
                  | ((with_reducible refine gAlloc rfl rfl ?_); (refine ev_allocL rfl hL rfl (by first | exact CellsC.of | exact cells_one (by assumption) (by assumption) | exact cells_agg _ rfl) ?_; clear hL; intro gq wq hL)) | ((with_reducible refine gBox rfl rfl ?_); (refine ev_boxL rfl hL rfl rfl (by first | exact CellsC.of | exact cells_one (by assumption) (by assumption) | exact cells_agg _ rfl) ?_; clear hL; intro gq wq hL)) | ((with_reducible refine gLoad rfl rfl ?_); (first | (refine ev_load1L rfl hL rfl rfl HasV.mem (by rfl) ?_) | (refine ev_loadAllL rfl hL rfl rfl HasV.mem (by rfl) ?_) | (refine ev_loadL rfl hL rfl rfl HasV.mem SegC.seg ?_))) | ((with_reducible refine gStore rfl rfl ?_); (first | (refine ev_storeC rfl hL rfl rfl rfl (by first | exact CellsC.of | exact cells_one (by assumption) (by assumption) | exact cells_agg _ rfl) (by rfl) ?_) | (refine ev_storeAllC rfl hL rfl rfl rfl (by first | exact CellsC.of | exact cells_one (by assumption) (by assumption) | exact cells_agg _ rfl) (by rfl) (by rfl) ?_)); clear hL; intro wq hL) | ((with_reducible refine gLoadG rfl rfl ?_ ?_); (exact wanted_some rfl rfl rfl (by with_reducible rfl)); (first | (refine ev_load1G (wanted_some rfl rfl rfl rfl) hL rfl rfl HasV.mem (by rfl) ?_) | (refine ev_loadAllG (wanted_some rfl rfl rfl rfl) hL rfl rfl HasV.mem (by rfl) ?_) | (refine ev_loadG_ (wanted_some rfl rfl rfl rfl) hL rfl rfl HasV.mem SegC.seg ?_))))
                go_roundw
                case rel => exact ⟨j + 1, _, by omega, rfl, by go_num, by rw [HS.out]; exact hL.sub (by repeat (first | exact List.nil_sublist _ | with_reducible apply List.Sublist.cons_cons | with_reducible apply List.Sublist.cons))⟩
                case measure => simp [intOf]; omega
            · have HS := Lib.hid (aprow_succ (i := i) hb9 hap)
              simp only [Bool.false_and, Bool.true_and, Bool.and_false, Bool.and_true, Bool.not_true, Bool.not_false, Bool.false_eq_true, if_false, if_true, List.append_nil] at HS
              clear hap hb9
              have HS2 := HS.out
              clear HS
              have HS : Hid (L ++ aprow ps a i (j + 1) = L ++ aprow ps a i j) := Lib.hid (by rw [HS2])
              clear HS2
              generalize L ++ aprow ps a i j = L2 at *
              go_wp2_with (first
                | ((with_reducible refine gIndex rfl rfl ?_); refine ev_indexL rfl rfl rfl rfl hlj ?_)
                | ((with_reducible refine gate (N := 23) rfl ?_); refine ev_loadR rfl rfl rfl hrX (by rfl) ?_)
                | ((with_reducible refine gate (N := 7) rfl ?_); (refine ev_allocL rfl hL rfl (by first | exact CellsC.of | exact cells_one (by assumption) (by assumption) | exact cells_agg _ rfl) ?_; clear hL; intro g7 w7 hL))
                | (go_at_call 42; (with_reducible refine (hq1.out _).mono ?_); rintro e1 w8 ⟨rfl, hb8⟩; have hL := hL.call hb8; clear hb8)
                | (go_at_call 42; (with_reducible refine (hq2.out _).mono ?_); rintro e1 w8 ⟨rfl, hb8⟩; have hL := hL.call hb8; clear hb8)
                | ((with_reducible refine gAlloc rfl rfl ?_); (refine ev_allocL rfl hL rfl (by first | exact CellsC.of | exact cells_one (by assumption) (by assumption) | exact cells_agg _ rfl) ?_; clear hL; intro gq wq hL)) | ((with_reducible refine gBox rfl rfl ?_); (refine ev_boxL rfl hL rfl rfl (by first | exact CellsC.of | exact cells_one (by assumption) (by assumption) | exact cells_agg _ rfl) ?_; clear hL; intro gq wq hL)) | ((with_reducible refine gLoad rfl rfl ?_); (first | (refine ev_load1L rfl hL rfl rfl HasV.mem (by rfl) ?_) | (refine ev_loadAllL rfl hL rfl rfl HasV.mem (by rfl) ?_) | (refine ev_loadL rfl hL rfl rfl HasV.mem SegC.seg ?_))) | ((with_reducible refine gStore rfl rfl ?_); (first | (refine ev_storeC rfl hL rfl rfl rfl (by first | exact CellsC.of | exact cells_one (by assumption) (by assumption) | exact cells_agg _ rfl) (by rfl) ?_) | (refine ev_storeAllC rfl hL rfl rfl rfl (by first | exact CellsC.of | exact cells_one (by assumption) (by assumption) | exact cells_agg _ rfl) (by rfl) (by rfl) ?_)); clear hL; intro wq hL) | ((with_reducible refine gLoadG rfl rfl ?_ ?_); (exact wanted_some rfl rfl rfl (by with_reducible rfl)); (first | (refine ev_load1G (wanted_some rfl rfl rfl rfl) hL rfl rfl HasV.mem (by rfl) ?_) | (refine ev_loadAllG (wanted_some rfl rfl rfl rfl) hL rfl rfl HasV.mem (by rfl) ?_) | (refine ev_loadG_ (wanted_some rfl rfl rfl rfl) hL rfl rfl HasV.mem SegC.seg ?_))))
              go_roundw
              case rel => exact ⟨j + 1, _, by omega, rfl, by go_num, by rw [HS.out]; exact hL.sub (by repeat (first | exact List.nil_sublist _ | with_reducible apply List.Sublist.cons_cons | with_reducible apply List.Sublist.cons))⟩
              case measure => simp [intOf]; omega
        · obtain rfl : i = j := by omega
          rw [← HT.out] at hL
          clear hlj
          go_wp2_with (first | ((with_reducible refine gAlloc rfl rfl ?_); (refine ev_allocL rfl hL rfl (by first | exact CellsC.of | exact cells_one (by assumption) (by assumption) | exact cells_agg _ rfl) ?_; clear hL; intro gq wq hL)) | ((with_reducible refine gBox rfl rfl ?_); (refine ev_boxL rfl hL rfl rfl (by first | exact CellsC.of | exact cells_one (by assumption) (by assumption) | exact cells_agg _ rfl) ?_; clear hL; intro gq wq hL)) | ((with_reducible refine gLoad rfl rfl ?_); (first | (refine ev_load1L rfl hL rfl rfl HasV.mem (by rfl) ?_) | (refine ev_loadAllL rfl hL rfl rfl HasV.mem (by rfl) ?_) | (refine ev_loadL rfl hL rfl rfl HasV.mem SegC.seg ?_))) | ((with_reducible refine gStore rfl rfl ?_); (first | (refine ev_storeC rfl hL rfl rfl rfl (by first | exact CellsC.of | exact cells_one (by assumption) (by assumption) | exact cells_agg _ rfl) (by rfl) ?_) | (refine ev_storeAllC rfl hL rfl rfl rfl (by first | exact CellsC.of | exact cells_one (by assumption) (by assumption) | exact cells_agg _ rfl) (by rfl) (by rfl) ?_)); clear hL; intro wq hL) | ((with_reducible refine gLoadG rfl rfl ?_ ?_); (exact wanted_some rfl rfl rfl (by with_reducible rfl)); (first | (refine ev_load1G (wanted_some rfl rfl rfl rfl) hL rfl rfl HasV.mem (by rfl) ?_) | (refine ev_loadAllG (wanted_some rfl rfl rfl rfl) hL rfl rfl HasV.mem (by rfl) ?_) | (refine ev_loadG_ (wanted_some rfl rfl rfl rfl) hL rfl rfl HasV.mem SegC.seg ?_))))
          go_roundw
          case rel => exact ⟨i + 1, _, by omega, by go_num, rfl, hL.sub (by repeat (first | exact List.nil_sublist _ | with_reducible apply List.Sublist.cons_cons | with_reducible apply List.Sublist.cons))⟩
          case measure => simp [intOf]; omega
    · obtain rfl : i = ps.length := by omega
      go_wp2_with (first | ((with_reducible refine gAlloc rfl rfl ?_); (refine ev_allocL rfl hL rfl (by first | exact CellsC.of | exact cells_one (by assumption) (by assumption) | exact cells_agg _ rfl) ?_; clear hL; intro gq wq hL)) | ((with_reducible refine gBox rfl rfl ?_); (refine ev_boxL rfl hL rfl rfl (by first | exact CellsC.of | exact cells_one (by assumption) (by assumption) | exact cells_agg _ rfl) ?_; clear hL; intro gq wq hL)) | ((with_reducible refine gLoad rfl rfl ?_); (first | (refine ev_load1L rfl hL rfl rfl HasV.mem (by rfl) ?_) | (refine ev_loadAllL rfl hL rfl rfl HasV.mem (by rfl) ?_) | (refine ev_loadL rfl hL rfl rfl HasV.mem SegC.seg ?_))) | ((with_reducible refine gStore rfl rfl ?_); (first | (refine ev_storeC rfl hL rfl rfl rfl (by first | exact CellsC.of | exact cells_one (by assumption) (by assumption) | exact cells_agg _ rfl) (by rfl) ?_) | (refine ev_storeAllC rfl hL rfl rfl rfl (by first | exact CellsC.of | exact cells_one (by assumption) (by assumption) | exact cells_agg _ rfl) (by rfl) (by rfl) ?_)); clear hL; intro wq hL) | ((with_reducible refine gLoadG rfl rfl ?_ ?_); (exact wanted_some rfl rfl rfl (by with_reducible rfl)); (first | (refine ev_load1G (wanted_some rfl rfl rfl rfl) hL rfl rfl HasV.mem (by rfl) ?_) | (refine ev_loadAllG (wanted_some rfl rfl rfl rfl) hL rfl rfl HasV.mem (by rfl) ?_) | (refine ev_loadG_ (wanted_some rfl rfl rfl rfl) hL rfl rfl HasV.mem SegC.seg ?_))))
      go_ret
      exact ⟨_, rfl, hL⟩
end Go.Proofs.YtebpacmhdkgfeaaDoor
