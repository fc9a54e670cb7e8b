/- Texts laid together: Has, JoW, CloJ, MapO, Pru1, Pru2, Pru3. -/
import Derived.Test.YtebpacmhdkgfeaaJn4
import Derived.Lib.SliceRun
import Derived.Maps.Keyed
import Derived.DeepKeys4
import Derived.Deep.OwnRows
import Derived.StillTailTactics
/- Is a stamp an event's; is an event known by a vector? -/
namespace Go.Proofs.Ytebpacmhdkgfeaa
open Go.RowKit
set_option maxHeartbeats 2000000

def Mk.is (m : Mk) : Bool := decide (1 ≤ m.boot) && (decide (m.boot ≤ 1099511627776) && (decide (0 ≤ m.n) && decide (m.n < 8)))
def V8.has (v : V8) (m : Mk) : Bool := m.is && decide (m.boot ≤ v.get m.n.toNat)
theorem Mk.is_n {m : Mk} (h : m.is = true) : m.n = 0 ∨ m.n = 1 ∨ m.n = 2 ∨ m.n = 3 ∨ m.n = 4 ∨ m.n = 5 ∨ m.n = 6 ∨ m.n = 7 := by
  unfold Mk.is at h
  simp only [Bool.and_eq_true, decide_eq_true_eq] at h
  omega
theorem vec_is (m : Mk) (w : World) : Calls Try.prog 158 #[.agg #[.int .i64 m.boot, .int .i64 m.n]] w fun e w' => e = .returned (.bool m.is) ∧ Below w.heap.size w w' := by
  have hL := Loc.nil w NoM
  unfold Mk.is
  by_cases c1 : 1 ≤ m.boot
  · by_cases c2 : m.boot ≤ 1099511627776
    · by_cases c3 : 0 ≤ m.n
      · rw [decide_eq_true c1, decide_eq_true c2, decide_eq_true c3]
        simp only [Bool.true_and]
        go_enter Try.func158, Try.ntmps158
        go_wp2_with (first | ((with_reducible refine qD rfl rfl ?_); (refine lI rfl hL rfl cy ?_; clear hL; intro gq wq hL)) | ((with_reducible refine qE rfl rfl ?_); (refine lJ rfl hL rfl rfl cy ?_; clear hL; intro gq wq hL)) | ((with_reducible refine qB rfl rfl ?_); (first | (refine lC rfl hL rfl rfl HasV.mem (by rfl) ?_) | (refine lA rfl hL rfl rfl HasV.mem (by rfl) ?_) | (refine lF rfl hL rfl rfl HasV.mem SegC.seg ?_))) | ((with_reducible refine qC rfl rfl ?_); (first | (refine lH rfl hL rfl rfl rfl cy (by rfl) ?_) | (refine lG rfl hL rfl rfl rfl cy (by rfl) (by rfl) ?_)); clear hL; intro wq hL) | ((with_reducible refine qA rfl rfl ?_ ?_); (exact wz rfl rfl rfl (by with_reducible rfl)); (first | (refine lD (wz rfl rfl rfl rfl) hL rfl rfl HasV.mem (by rfl) ?_) | (refine lB (wz rfl rfl rfl rfl) hL rfl rfl HasV.mem (by rfl) ?_) | (refine lE (wz rfl rfl rfl rfl) hL rfl rfl HasV.mem SegC.seg ?_))))
        go_ret
        exact ⟨rfl, hL.below⟩
      · rw [decide_eq_true c1, decide_eq_true c2, decide_eq_false c3]
        simp only [Bool.true_and, Bool.false_and]
        have t3 : decide (0 ≤ m.n) = false := decide_eq_false c3
        go_enter Try.func158, Try.ntmps158
        go_wp2_with (first | ((with_reducible refine qD rfl rfl ?_); (refine lI rfl hL rfl cy ?_; clear hL; intro gq wq hL)) | ((with_reducible refine qE rfl rfl ?_); (refine lJ rfl hL rfl rfl cy ?_; clear hL; intro gq wq hL)) | ((with_reducible refine qB rfl rfl ?_); (first | (refine lC rfl hL rfl rfl HasV.mem (by rfl) ?_) | (refine lA rfl hL rfl rfl HasV.mem (by rfl) ?_) | (refine lF rfl hL rfl rfl HasV.mem SegC.seg ?_))) | ((with_reducible refine qC rfl rfl ?_); (first | (refine lH rfl hL rfl rfl rfl cy (by rfl) ?_) | (refine lG rfl hL rfl rfl rfl cy (by rfl) (by rfl) ?_)); clear hL; intro wq hL) | ((with_reducible refine qA rfl rfl ?_ ?_); (exact wz rfl rfl rfl (by with_reducible rfl)); (first | (refine lD (wz rfl rfl rfl rfl) hL rfl rfl HasV.mem (by rfl) ?_) | (refine lB (wz rfl rfl rfl rfl) hL rfl rfl HasV.mem (by rfl) ?_) | (refine lE (wz rfl rfl rfl rfl) hL rfl rfl HasV.mem SegC.seg ?_))))
        go_ret
        exact ⟨rfl, hL.below⟩
    · rw [decide_eq_true c1, decide_eq_false c2]
      simp only [Bool.true_and, Bool.false_and]
      have t2 : decide (m.boot ≤ 1099511627776) = false := decide_eq_false c2
      go_enter Try.func158, Try.ntmps158
      go_wp2_with (first | ((with_reducible refine qD rfl rfl ?_); (refine lI rfl hL rfl cy ?_; clear hL; intro gq wq hL)) | ((with_reducible refine qE rfl rfl ?_); (refine lJ rfl hL rfl rfl cy ?_; clear hL; intro gq wq hL)) | ((with_reducible refine qB rfl rfl ?_); (first | (refine lC rfl hL rfl rfl HasV.mem (by rfl) ?_) | (refine lA rfl hL rfl rfl HasV.mem (by rfl) ?_) | (refine lF rfl hL rfl rfl HasV.mem SegC.seg ?_))) | ((with_reducible refine qC rfl rfl ?_); (first | (refine lH rfl hL rfl rfl rfl cy (by rfl) ?_) | (refine lG rfl hL rfl rfl rfl cy (by rfl) (by rfl) ?_)); clear hL; intro wq hL) | ((with_reducible refine qA rfl rfl ?_ ?_); (exact wz rfl rfl rfl (by with_reducible rfl)); (first | (refine lD (wz rfl rfl rfl rfl) hL rfl rfl HasV.mem (by rfl) ?_) | (refine lB (wz rfl rfl rfl rfl) hL rfl rfl HasV.mem (by rfl) ?_) | (refine lE (wz rfl rfl rfl rfl) hL rfl rfl HasV.mem SegC.seg ?_))))
      go_ret
      exact ⟨rfl, hL.below⟩
  · rw [decide_eq_false c1]
    simp only [Bool.false_and]
    have t1 : decide (1 ≤ m.boot) = false := decide_eq_false c1
    go_enter Try.func158, Try.ntmps158
    go_wp2_with (first | ((with_reducible refine qD rfl rfl ?_); (refine lI rfl hL rfl cy ?_; clear hL; intro gq wq hL)) | ((with_reducible refine qE rfl rfl ?_); (refine lJ rfl hL rfl rfl cy ?_; clear hL; intro gq wq hL)) | ((with_reducible refine qB rfl rfl ?_); (first | (refine lC rfl hL rfl rfl HasV.mem (by rfl) ?_) | (refine lA rfl hL rfl rfl HasV.mem (by rfl) ?_) | (refine lF rfl hL rfl rfl HasV.mem SegC.seg ?_))) | ((with_reducible refine qC rfl rfl ?_); (first | (refine lH rfl hL rfl rfl rfl cy (by rfl) ?_) | (refine lG rfl hL rfl rfl rfl cy (by rfl) (by rfl) ?_)); clear hL; intro wq hL) | ((with_reducible refine qA rfl rfl ?_ ?_); (exact wz rfl rfl rfl (by with_reducible rfl)); (first | (refine lD (wz rfl rfl rfl rfl) hL rfl rfl HasV.mem (by rfl) ?_) | (refine lB (wz rfl rfl rfl rfl) hL rfl rfl HasV.mem (by rfl) ?_) | (refine lE (wz rfl rfl rfl rfl) hL rfl rfl HasV.mem SegC.seg ?_))))
    go_ret
    exact ⟨rfl, hL.below⟩
theorem vec_is_ext {W : World} {e : Ext W} (a b : Int) (r : Bool) (h : (Mk.mk a b).is = r) : Calls Try.prog 158 #[.agg #[.int .i64 a, .int .i64 b]] e.w fun en w'' => en = .returned (.bool r) ∧ ∃ x : Ext W, w'' = x.w :=
  calls_ext (by subst h; exact vec_is ⟨a, b⟩ _)
theorem vec_has (v : V8) (m : Mk) (w : World) : Calls Try.prog 118 #[.agg #[.int .i64 v.a0, .int .i64 v.a1, .int .i64 v.a2, .int .i64 v.a3, .int .i64 v.a4, .int .i64 v.a5, .int .i64 v.a6, .int .i64 v.a7], .agg #[.int .i64 m.boot, .int .i64 m.n]] w fun e w' => e = .returned (.bool (v.has m)) ∧ Below w.heap.size w w' := by
  have hL := Loc.nil w NoM
  unfold V8.has
  obtain ⟨a, b⟩ := m
  cases his : (Mk.mk a b).is
  · have HI := Lib.hid his
    clear his
    simp only [Bool.false_and]
    go_enter Try.func118, Try.ntmps118
    go_wp2_with (first | ((with_reducible refine qD rfl rfl ?_); (refine lI rfl hL rfl cy ?_; clear hL; intro gq wq hL)) | ((with_reducible refine qE rfl rfl ?_); (refine lJ rfl hL rfl rfl cy ?_; clear hL; intro gq wq hL)) | ((with_reducible refine qB rfl rfl ?_); (first | (refine lC rfl hL rfl rfl HasV.mem (by rfl) ?_) | (refine lA rfl hL rfl rfl HasV.mem (by rfl) ?_) | (refine lF rfl hL rfl rfl HasV.mem SegC.seg ?_))) | ((with_reducible refine qC rfl rfl ?_); (first | (refine lH rfl hL rfl rfl rfl cy (by rfl) ?_) | (refine lG rfl hL rfl rfl rfl cy (by rfl) (by rfl) ?_)); clear hL; intro wq hL) | ((with_reducible refine qA rfl rfl ?_ ?_); (exact wz rfl rfl rfl (by with_reducible rfl)); (first | (refine lD (wz rfl rfl rfl rfl) hL rfl rfl HasV.mem (by rfl) ?_) | (refine lB (wz rfl rfl rfl rfl) hL rfl rfl HasV.mem (by rfl) ?_) | (refine lE (wz rfl rfl rfl rfl) hL rfl rfl HasV.mem SegC.seg ?_))))
    refine wp_region_ext (by kernel_rfl) (by kernel_rfl) ?_
    repeat (first
      | (go_big_quiet_want; (first | refine qH hL rfl rfl HasV.mem (by rfl) ?_ | refine qG hL rfl rfl HasV.mem (by rfl) ?_ | refine qI hL rfl rfl HasV.mem SegC.seg ?_); go_big_quiet_on; simp only [Act.put, zs, zt, zu])
      | go_big_quiet_step (first | (go_at_call 158; with_reducible exact vec_is_ext a b false HI.out)))
    refine wpQuiet_nil ?_
    rintro _ ⟨⟨w2, hb2⟩, rfl⟩
    replace hL := hL.call hb2
    go_wp2
    go_ret
    exact ⟨rfl, hL.below⟩
  · have hn := Mk.is_n his
    have HI := Lib.hid his
    clear his
    simp only [Bool.true_and]
    replace hn : b = 0 ∨ b = 1 ∨ b = 2 ∨ b = 3 ∨ b = 4 ∨ b = 5 ∨ b = 6 ∨ b = 7 := hn
    rcases hn with rfl | rfl | rfl | rfl | rfl | rfl | rfl | rfl
    · show Calls _ _ _ w fun e w' => e = .returned (.bool (decide (a ≤ v.a0))) ∧ Below w.heap.size w w'
      go_enter Try.func118, Try.ntmps118
      go_wp2_with (first | ((with_reducible refine qD rfl rfl ?_); (refine lI rfl hL rfl cy ?_; clear hL; intro gq wq hL)) | ((with_reducible refine qE rfl rfl ?_); (refine lJ rfl hL rfl rfl cy ?_; clear hL; intro gq wq hL)) | ((with_reducible refine qB rfl rfl ?_); (first | (refine lC rfl hL rfl rfl HasV.mem (by rfl) ?_) | (refine lA rfl hL rfl rfl HasV.mem (by rfl) ?_) | (refine lF rfl hL rfl rfl HasV.mem SegC.seg ?_))) | ((with_reducible refine qC rfl rfl ?_); (first | (refine lH rfl hL rfl rfl rfl cy (by rfl) ?_) | (refine lG rfl hL rfl rfl rfl cy (by rfl) (by rfl) ?_)); clear hL; intro wq hL) | ((with_reducible refine qA rfl rfl ?_ ?_); (exact wz rfl rfl rfl (by with_reducible rfl)); (first | (refine lD (wz rfl rfl rfl rfl) hL rfl rfl HasV.mem (by rfl) ?_) | (refine lB (wz rfl rfl rfl rfl) hL rfl rfl HasV.mem (by rfl) ?_) | (refine lE (wz rfl rfl rfl rfl) hL rfl rfl HasV.mem SegC.seg ?_))))
      refine wp_region_ext (by kernel_rfl) (by kernel_rfl) ?_
      repeat (first
        | (go_big_quiet_want; (first | refine qH hL rfl rfl HasV.mem (by rfl) ?_ | refine qG hL rfl rfl HasV.mem (by rfl) ?_ | refine qI hL rfl rfl HasV.mem SegC.seg ?_); go_big_quiet_on; simp only [Act.put, zs, zt, zu])
        | go_big_quiet_step (first | (go_at_call 158; with_reducible exact vec_is_ext a 0 true HI.out)))
      refine wpQuiet_nil ?_
      rintro _ ⟨⟨w2, hb2⟩, rfl⟩
      replace hL := hL.call hb2
      go_wp2
      go_ret
      exact ⟨rfl, hL.below⟩
    · show Calls _ _ _ w fun e w' => e = .returned (.bool (decide (a ≤ v.a1))) ∧ Below w.heap.size w w'
      go_enter Try.func118, Try.ntmps118
      go_wp2_with (first | ((with_reducible refine qD rfl rfl ?_); (refine lI rfl hL rfl cy ?_; clear hL; intro gq wq hL)) | ((with_reducible refine qE rfl rfl ?_); (refine lJ rfl hL rfl rfl cy ?_; clear hL; intro gq wq hL)) | ((with_reducible refine qB rfl rfl ?_); (first | (refine lC rfl hL rfl rfl HasV.mem (by rfl) ?_) | (refine lA rfl hL rfl rfl HasV.mem (by rfl) ?_) | (refine lF rfl hL rfl rfl HasV.mem SegC.seg ?_))) | ((with_reducible refine qC rfl rfl ?_); (first | (refine lH rfl hL rfl rfl rfl cy (by rfl) ?_) | (refine lG rfl hL rfl rfl rfl cy (by rfl) (by rfl) ?_)); clear hL; intro wq hL) | ((with_reducible refine qA rfl rfl ?_ ?_); (exact wz rfl rfl rfl (by with_reducible rfl)); (first | (refine lD (wz rfl rfl rfl rfl) hL rfl rfl HasV.mem (by rfl) ?_) | (refine lB (wz rfl rfl rfl rfl) hL rfl rfl HasV.mem (by rfl) ?_) | (refine lE (wz rfl rfl rfl rfl) hL rfl rfl HasV.mem SegC.seg ?_))))
      refine wp_region_ext (by kernel_rfl) (by kernel_rfl) ?_
      repeat (first
        | (go_big_quiet_want; (first | refine qH hL rfl rfl HasV.mem (by rfl) ?_ | refine qG hL rfl rfl HasV.mem (by rfl) ?_ | refine qI hL rfl rfl HasV.mem SegC.seg ?_); go_big_quiet_on; simp only [Act.put, zs, zt, zu])
        | go_big_quiet_step (first | (go_at_call 158; with_reducible exact vec_is_ext a 1 true HI.out)))
      refine wpQuiet_nil ?_
      rintro _ ⟨⟨w2, hb2⟩, rfl⟩
      replace hL := hL.call hb2
      go_wp2
      go_ret
      exact ⟨rfl, hL.below⟩
    · show Calls _ _ _ w fun e w' => e = .returned (.bool (decide (a ≤ v.a2))) ∧ Below w.heap.size w w'
      go_enter Try.func118, Try.ntmps118
      go_wp2_with (first | ((with_reducible refine qD rfl rfl ?_); (refine lI rfl hL rfl cy ?_; clear hL; intro gq wq hL)) | ((with_reducible refine qE rfl rfl ?_); (refine lJ rfl hL rfl rfl cy ?_; clear hL; intro gq wq hL)) | ((with_reducible refine qB rfl rfl ?_); (first | (refine lC rfl hL rfl rfl HasV.mem (by rfl) ?_) | (refine lA rfl hL rfl rfl HasV.mem (by rfl) ?_) | (refine lF rfl hL rfl rfl HasV.mem SegC.seg ?_))) | ((with_reducible refine qC rfl rfl ?_); (first | (refine lH rfl hL rfl rfl rfl cy (by rfl) ?_) | (refine lG rfl hL rfl rfl rfl cy (by rfl) (by rfl) ?_)); clear hL; intro wq hL) | ((with_reducible refine qA rfl rfl ?_ ?_); (exact wz rfl rfl rfl (by with_reducible rfl)); (first | (refine lD (wz rfl rfl rfl rfl) hL rfl rfl HasV.mem (by rfl) ?_) | (refine lB (wz rfl rfl rfl rfl) hL rfl rfl HasV.mem (by rfl) ?_) | (refine lE (wz rfl rfl rfl rfl) hL rfl rfl HasV.mem SegC.seg ?_))))
      refine wp_region_ext (by kernel_rfl) (by kernel_rfl) ?_
      repeat (first
        | (go_big_quiet_want; (first | refine qH hL rfl rfl HasV.mem (by rfl) ?_ | refine qG hL rfl rfl HasV.mem (by rfl) ?_ | refine qI hL rfl rfl HasV.mem SegC.seg ?_); go_big_quiet_on; simp only [Act.put, zs, zt, zu])
        | go_big_quiet_step (first | (go_at_call 158; with_reducible exact vec_is_ext a 2 true HI.out)))
      refine wpQuiet_nil ?_
      rintro _ ⟨⟨w2, hb2⟩, rfl⟩
      replace hL := hL.call hb2
      go_wp2
      go_ret
      exact ⟨rfl, hL.below⟩
    · show Calls _ _ _ w fun e w' => e = .returned (.bool (decide (a ≤ v.a3))) ∧ Below w.heap.size w w'
      go_enter Try.func118, Try.ntmps118
      go_wp2_with (first | ((with_reducible refine qD rfl rfl ?_); (refine lI rfl hL rfl cy ?_; clear hL; intro gq wq hL)) | ((with_reducible refine qE rfl rfl ?_); (refine lJ rfl hL rfl rfl cy ?_; clear hL; intro gq wq hL)) | ((with_reducible refine qB rfl rfl ?_); (first | (refine lC rfl hL rfl rfl HasV.mem (by rfl) ?_) | (refine lA rfl hL rfl rfl HasV.mem (by rfl) ?_) | (refine lF rfl hL rfl rfl HasV.mem SegC.seg ?_))) | ((with_reducible refine qC rfl rfl ?_); (first | (refine lH rfl hL rfl rfl rfl cy (by rfl) ?_) | (refine lG rfl hL rfl rfl rfl cy (by rfl) (by rfl) ?_)); clear hL; intro wq hL) | ((with_reducible refine qA rfl rfl ?_ ?_); (exact wz rfl rfl rfl (by with_reducible rfl)); (first | (refine lD (wz rfl rfl rfl rfl) hL rfl rfl HasV.mem (by rfl) ?_) | (refine lB (wz rfl rfl rfl rfl) hL rfl rfl HasV.mem (by rfl) ?_) | (refine lE (wz rfl rfl rfl rfl) hL rfl rfl HasV.mem SegC.seg ?_))))
      refine wp_region_ext (by kernel_rfl) (by kernel_rfl) ?_
      repeat (first
        | (go_big_quiet_want; (first | refine qH hL rfl rfl HasV.mem (by rfl) ?_ | refine qG hL rfl rfl HasV.mem (by rfl) ?_ | refine qI hL rfl rfl HasV.mem SegC.seg ?_); go_big_quiet_on; simp only [Act.put, zs, zt, zu])
        | go_big_quiet_step (first | (go_at_call 158; with_reducible exact vec_is_ext a 3 true HI.out)))
      refine wpQuiet_nil ?_
      rintro _ ⟨⟨w2, hb2⟩, rfl⟩
      replace hL := hL.call hb2
      go_wp2
      go_ret
      exact ⟨rfl, hL.below⟩
    · show Calls _ _ _ w fun e w' => e = .returned (.bool (decide (a ≤ v.a4))) ∧ Below w.heap.size w w'
      go_enter Try.func118, Try.ntmps118
      go_wp2_with (first | ((with_reducible refine qD rfl rfl ?_); (refine lI rfl hL rfl cy ?_; clear hL; intro gq wq hL)) | ((with_reducible refine qE rfl rfl ?_); (refine lJ rfl hL rfl rfl cy ?_; clear hL; intro gq wq hL)) | ((with_reducible refine qB rfl rfl ?_); (first | (refine lC rfl hL rfl rfl HasV.mem (by rfl) ?_) | (refine lA rfl hL rfl rfl HasV.mem (by rfl) ?_) | (refine lF rfl hL rfl rfl HasV.mem SegC.seg ?_))) | ((with_reducible refine qC rfl rfl ?_); (first | (refine lH rfl hL rfl rfl rfl cy (by rfl) ?_) | (refine lG rfl hL rfl rfl rfl cy (by rfl) (by rfl) ?_)); clear hL; intro wq hL) | ((with_reducible refine qA rfl rfl ?_ ?_); (exact wz rfl rfl rfl (by with_reducible rfl)); (first | (refine lD (wz rfl rfl rfl rfl) hL rfl rfl HasV.mem (by rfl) ?_) | (refine lB (wz rfl rfl rfl rfl) hL rfl rfl HasV.mem (by rfl) ?_) | (refine lE (wz rfl rfl rfl rfl) hL rfl rfl HasV.mem SegC.seg ?_))))
      refine wp_region_ext (by kernel_rfl) (by kernel_rfl) ?_
      repeat (first
        | (go_big_quiet_want; (first | refine qH hL rfl rfl HasV.mem (by rfl) ?_ | refine qG hL rfl rfl HasV.mem (by rfl) ?_ | refine qI hL rfl rfl HasV.mem SegC.seg ?_); go_big_quiet_on; simp only [Act.put, zs, zt, zu])
        | go_big_quiet_step (first | (go_at_call 158; with_reducible exact vec_is_ext a 4 true HI.out)))
      refine wpQuiet_nil ?_
      rintro _ ⟨⟨w2, hb2⟩, rfl⟩
      replace hL := hL.call hb2
      go_wp2
      go_ret
      exact ⟨rfl, hL.below⟩
    · show Calls _ _ _ w fun e w' => e = .returned (.bool (decide (a ≤ v.a5))) ∧ Below w.heap.size w w'
      go_enter Try.func118, Try.ntmps118
      go_wp2_with (first | ((with_reducible refine qD rfl rfl ?_); (refine lI rfl hL rfl cy ?_; clear hL; intro gq wq hL)) | ((with_reducible refine qE rfl rfl ?_); (refine lJ rfl hL rfl rfl cy ?_; clear hL; intro gq wq hL)) | ((with_reducible refine qB rfl rfl ?_); (first | (refine lC rfl hL rfl rfl HasV.mem (by rfl) ?_) | (refine lA rfl hL rfl rfl HasV.mem (by rfl) ?_) | (refine lF rfl hL rfl rfl HasV.mem SegC.seg ?_))) | ((with_reducible refine qC rfl rfl ?_); (first | (refine lH rfl hL rfl rfl rfl cy (by rfl) ?_) | (refine lG rfl hL rfl rfl rfl cy (by rfl) (by rfl) ?_)); clear hL; intro wq hL) | ((with_reducible refine qA rfl rfl ?_ ?_); (exact wz rfl rfl rfl (by with_reducible rfl)); (first | (refine lD (wz rfl rfl rfl rfl) hL rfl rfl HasV.mem (by rfl) ?_) | (refine lB (wz rfl rfl rfl rfl) hL rfl rfl HasV.mem (by rfl) ?_) | (refine lE (wz rfl rfl rfl rfl) hL rfl rfl HasV.mem SegC.seg ?_))))
      refine wp_region_ext (by kernel_rfl) (by kernel_rfl) ?_
      repeat (first
        | (go_big_quiet_want; (first | refine qH hL rfl rfl HasV.mem (by rfl) ?_ | refine qG hL rfl rfl HasV.mem (by rfl) ?_ | refine qI hL rfl rfl HasV.mem SegC.seg ?_); go_big_quiet_on; simp only [Act.put, zs, zt, zu])
        | go_big_quiet_step (first | (go_at_call 158; with_reducible exact vec_is_ext a 5 true HI.out)))
      refine wpQuiet_nil ?_
      rintro _ ⟨⟨w2, hb2⟩, rfl⟩
      replace hL := hL.call hb2
      go_wp2
      go_ret
      exact ⟨rfl, hL.below⟩
    · show Calls _ _ _ w fun e w' => e = .returned (.bool (decide (a ≤ v.a6))) ∧ Below w.heap.size w w'
      go_enter Try.func118, Try.ntmps118
      go_wp2_with (first | ((with_reducible refine qD rfl rfl ?_); (refine lI rfl hL rfl cy ?_; clear hL; intro gq wq hL)) | ((with_reducible refine qE rfl rfl ?_); (refine lJ rfl hL rfl rfl cy ?_; clear hL; intro gq wq hL)) | ((with_reducible refine qB rfl rfl ?_); (first | (refine lC rfl hL rfl rfl HasV.mem (by rfl) ?_) | (refine lA rfl hL rfl rfl HasV.mem (by rfl) ?_) | (refine lF rfl hL rfl rfl HasV.mem SegC.seg ?_))) | ((with_reducible refine qC rfl rfl ?_); (first | (refine lH rfl hL rfl rfl rfl cy (by rfl) ?_) | (refine lG rfl hL rfl rfl rfl cy (by rfl) (by rfl) ?_)); clear hL; intro wq hL) | ((with_reducible refine qA rfl rfl ?_ ?_); (exact wz rfl rfl rfl (by with_reducible rfl)); (first | (refine lD (wz rfl rfl rfl rfl) hL rfl rfl HasV.mem (by rfl) ?_) | (refine lB (wz rfl rfl rfl rfl) hL rfl rfl HasV.mem (by rfl) ?_) | (refine lE (wz rfl rfl rfl rfl) hL rfl rfl HasV.mem SegC.seg ?_))))
      refine wp_region_ext (by kernel_rfl) (by kernel_rfl) ?_
      repeat (first
        | (go_big_quiet_want; (first | refine qH hL rfl rfl HasV.mem (by rfl) ?_ | refine qG hL rfl rfl HasV.mem (by rfl) ?_ | refine qI hL rfl rfl HasV.mem SegC.seg ?_); go_big_quiet_on; simp only [Act.put, zs, zt, zu])
        | go_big_quiet_step (first | (go_at_call 158; with_reducible exact vec_is_ext a 6 true HI.out)))
      refine wpQuiet_nil ?_
      rintro _ ⟨⟨w2, hb2⟩, rfl⟩
      replace hL := hL.call hb2
      go_wp2
      go_ret
      exact ⟨rfl, hL.below⟩
    · show Calls _ _ _ w fun e w' => e = .returned (.bool (decide (a ≤ v.a7))) ∧ Below w.heap.size w w'
      go_enter Try.func118, Try.ntmps118
      go_wp2_with (first | ((with_reducible refine qD rfl rfl ?_); (refine lI rfl hL rfl cy ?_; clear hL; intro gq wq hL)) | ((with_reducible refine qE rfl rfl ?_); (refine lJ rfl hL rfl rfl cy ?_; clear hL; intro gq wq hL)) | ((with_reducible refine qB rfl rfl ?_); (first | (refine lC rfl hL rfl rfl HasV.mem (by rfl) ?_) | (refine lA rfl hL rfl rfl HasV.mem (by rfl) ?_) | (refine lF rfl hL rfl rfl HasV.mem SegC.seg ?_))) | ((with_reducible refine qC rfl rfl ?_); (first | (refine lH rfl hL rfl rfl rfl cy (by rfl) ?_) | (refine lG rfl hL rfl rfl rfl cy (by rfl) (by rfl) ?_)); clear hL; intro wq hL) | ((with_reducible refine qA rfl rfl ?_ ?_); (exact wz rfl rfl rfl (by with_reducible rfl)); (first | (refine lD (wz rfl rfl rfl rfl) hL rfl rfl HasV.mem (by rfl) ?_) | (refine lB (wz rfl rfl rfl rfl) hL rfl rfl HasV.mem (by rfl) ?_) | (refine lE (wz rfl rfl rfl rfl) hL rfl rfl HasV.mem SegC.seg ?_))))
      refine wp_region_ext (by kernel_rfl) (by kernel_rfl) ?_
      repeat (first
        | (go_big_quiet_want; (first | refine qH hL rfl rfl HasV.mem (by rfl) ?_ | refine qG hL rfl rfl HasV.mem (by rfl) ?_ | refine qI hL rfl rfl HasV.mem SegC.seg ?_); go_big_quiet_on; simp only [Act.put, zs, zt, zu])
        | go_big_quiet_step (first | (go_at_call 158; with_reducible exact vec_is_ext a 7 true HI.out)))
      refine wpQuiet_nil ?_
      rintro _ ⟨⟨w2, hb2⟩, rfl⟩
      replace hL := hL.call hb2
      go_wp2
      go_ret
      exact ⟨rfl, hL.below⟩
end Go.Proofs.Ytebpacmhdkgfeaa

/- Package vector: is one within another, what both have; package join: is a link alive. -/
namespace Go.Proofs.Ytebpacmhdkgfeaa
open Go.RowKit
set_option maxHeartbeats 2000000
theorem vec_eq (u v : V8) {r : Bool} (h : decide (u = v) = r) : ∀ w, (binOp .eql 23 (.agg #[.int .i64 u.a0, .int .i64 u.a1, .int .i64 u.a2, .int .i64 u.a3, .int .i64 u.a4, .int .i64 u.a5, .int .i64 u.a6, .int .i64 u.a7]) (.agg #[.int .i64 v.a0, .int .i64 v.a1, .int .i64 v.a2, .int .i64 v.a3, .int .i64 v.a4, .int .i64 v.a5, .int .i64 v.a6, .int .i64 v.a7])).run Try.prog w = .ok (.bool r) w := by
  have h0 : eqCells Try.prog 3 23 [.int .i64 u.a0, .int .i64 u.a1, .int .i64 u.a2, .int .i64 u.a3, .int .i64 u.a4, .int .i64 u.a5, .int .i64 u.a6, .int .i64 u.a7] [.int .i64 v.a0, .int .i64 v.a1, .int .i64 v.a2, .int .i64 v.a3, .int .i64 v.a4, .int .i64 v.a5, .int .i64 v.a6, .int .i64 v.a7] = some (u.a0 == v.a0 && (u.a1 == v.a1 && (u.a2 == v.a2 && (u.a3 == v.a3 && (u.a4 == v.a4 && (u.a5 == v.a5 && (u.a6 == v.a6 && (u.a7 == v.a7 && true)))))))) := by kernel_rfl
  have e : (u.a0 == v.a0 && (u.a1 == v.a1 && (u.a2 == v.a2 && (u.a3 == v.a3 && (u.a4 == v.a4 && (u.a5 == v.a5 && (u.a6 == v.a6 && (u.a7 == v.a7 && true)))))))) = r := by
    rw [← h]
    obtain ⟨a0, a1, a2, a3, a4, a5, a6, a7⟩ := u
    obtain ⟨b0, b1, b2, b3, b4, b5, b6, b7⟩ := v
    rw [Bool.eq_iff_iff]; simp
  rw [e] at h0
  exact run_eql_cells 3 (by decide) (by kernel_rfl) h0
theorem within_join (a b : V8) : decide (a.join b = b) = a.within b := by
  obtain ⟨a0, a1, a2, a3, a4, a5, a6, a7⟩ := a
  obtain ⟨b0, b1, b2, b3, b4, b5, b6, b7⟩ := b
  have key : ∀ x y : Int, imax x y = y ↔ x ≤ y := fun x y => by unfold imax; split <;> omega
  rw [Bool.eq_iff_iff, V8.within_iff, decide_eq_true_eq]
  simp only [V8.join, V8.mk.injEq, key]
theorem vec_within (a b : V8) (w : World) : Calls Try.prog 89 #[.agg #[.int .i64 a.a0, .int .i64 a.a1, .int .i64 a.a2, .int .i64 a.a3, .int .i64 a.a4, .int .i64 a.a5, .int .i64 a.a6, .int .i64 a.a7], .agg #[.int .i64 b.a0, .int .i64 b.a1, .int .i64 b.a2, .int .i64 b.a3, .int .i64 b.a4, .int .i64 b.a5, .int .i64 b.a6, .int .i64 b.a7]] w fun e w' => e = .returned (.bool (a.within b)) ∧ Below w.heap.size w w' := by
  have hL := Loc.nil w NoM
  have he := vec_eq (a.join b) b (within_join a b)
  obtain ⟨c, hc⟩ : ∃ c, a.join b = c := ⟨_, rfl⟩
  rw [hc] at he
  have HC := Lib.hid hc
  clear hc
  generalize a.within b = r at *
  go_enter Try.func89, Try.ntmps89
  go_wp2_with (first | ((with_reducible refine gate (N := 2) rfl ?_); (refine lJ rfl hL rfl rfl cy ?_; clear hL; intro g2 w2 hL)) | ((with_reducible refine gate (N := 3) rfl ?_); (refine lJ rfl hL rfl rfl cy ?_; clear hL; intro g3 w3 hL)) | ((with_reducible refine qD rfl rfl ?_); (refine lI rfl hL rfl cy ?_; clear hL; intro gq wq hL)) | ((with_reducible refine qE rfl rfl ?_); (refine lJ rfl hL rfl rfl cy ?_; clear hL; intro gq wq hL)) | ((with_reducible refine qB rfl rfl ?_); (first | (refine lC rfl hL rfl rfl HasV.mem (by rfl) ?_) | (refine lA rfl hL rfl rfl HasV.mem (by rfl) ?_) | (refine lF rfl hL rfl rfl HasV.mem SegC.seg ?_))) | ((with_reducible refine qC rfl rfl ?_); (first | (refine lH rfl hL rfl rfl rfl cy (by rfl) ?_) | (refine lG rfl hL rfl rfl rfl cy (by rfl) (by rfl) ?_)); clear hL; intro wq hL) | ((with_reducible refine qA rfl rfl ?_ ?_); (exact wz rfl rfl rfl (by with_reducible rfl)); (first | (refine lD (wz rfl rfl rfl rfl) hL rfl rfl HasV.mem (by rfl) ?_) | (refine lB (wz rfl rfl rfl rfl) hL rfl rfl HasV.mem (by rfl) ?_) | (refine lE (wz rfl rfl rfl rfl) hL rfl rfl HasV.mem SegC.seg ?_))))
  (try simp only [Act.put, zs, zt, zu])
  refine wp_region_ext (by kernel_rfl) (by kernel_rfl) ?_
  repeat (first
    | (go_big_quiet_want; (first | refine qH hL rfl rfl HasV.mem (by rfl) ?_ | refine qG hL rfl rfl HasV.mem (by rfl) ?_ | refine qI hL rfl rfl HasV.mem SegC.seg ?_); go_big_quiet_on; simp only [Act.put, zs, zt, zu])
    | go_big_quiet_step (first | (go_at_call 36; with_reducible exact join_ext a b c HC.out)))
  refine wpQuiet_nil ?_
  rintro _ ⟨⟨w9, hb9⟩, rfl⟩
  replace hL := hL.call hb9
  go_wp2
  go_ret
  exact ⟨rfl, hL.below⟩
theorem join_alive (l : Lnk) (w : World) : Calls Try.prog 35 #[.agg (encK.cells l).toArray] w fun e w' => e = .returned (.bool (!l.alive.within l.dead)) ∧ Below w.heap.size w w' := by
  have hL := Loc.nil w NoM
  have hq := Lib.hid (fun wx => vec_within l.alive l.dead wx)
  generalize l.alive.within l.dead = r at *
  unfold encK Lnk.cells
  simp only
  go_enter Try.func35, Try.ntmps35
  go_wp2_with (first
    | ((with_reducible refine gate (N := 1) rfl ?_); (refine lJ rfl hL rfl rfl cy ?_; clear hL; intro g1 w1 hL))
    | (go_at_call 89; (with_reducible refine (hq.out _).mono ?_); rintro e w9 ⟨rfl, hb9⟩; have hL := hL.call hb9; clear hb9)
    | ((with_reducible refine qD rfl rfl ?_); (refine lI rfl hL rfl cy ?_; clear hL; intro gq wq hL)) | ((with_reducible refine qE rfl rfl ?_); (refine lJ rfl hL rfl rfl cy ?_; clear hL; intro gq wq hL)) | ((with_reducible refine qB rfl rfl ?_); (first | (refine lC rfl hL rfl rfl HasV.mem (by rfl) ?_) | (refine lA rfl hL rfl rfl HasV.mem (by rfl) ?_) | (refine lF rfl hL rfl rfl HasV.mem SegC.seg ?_))) | ((with_reducible refine qC rfl rfl ?_); (first | (refine lH rfl hL rfl rfl rfl cy (by rfl) ?_) | (refine lG rfl hL rfl rfl rfl cy (by rfl) (by rfl) ?_)); clear hL; intro wq hL) | ((with_reducible refine qA rfl rfl ?_ ?_); (exact wz rfl rfl rfl (by with_reducible rfl)); (first | (refine lD (wz rfl rfl rfl rfl) hL rfl rfl HasV.mem (by rfl) ?_) | (refine lB (wz rfl rfl rfl rfl) hL rfl rfl HasV.mem (by rfl) ?_) | (refine lE (wz rfl rfl rfl rfl) hL rfl rfl HasV.mem SegC.seg ?_))))
  go_ret
  exact ⟨rfl, hL.below⟩
def imin (a b : Int) : Int := if b < a then b else a
def V8.meet (a b : V8) : V8 := ⟨imin a.a0 b.a0, imin a.a1 b.a1, imin a.a2 b.a2, imin a.a3 b.a3, imin a.a4 b.a4, imin a.a5 b.a5, imin a.a6 b.a6, imin a.a7 b.a7⟩
theorem run_minI (ts : Array TypeId) (t : TypeId) (x y : Int) (w : World) : (Builtin.min_ ts t #[.int .i64 x, .int .i64 y]).run Try.prog w = .ok (.int .i64 (imin x y)) w := by
  simp [Builtin.min_, Builtin.min2, imin, Sem.run, go_sem]
set_option maxRecDepth 20000 in
theorem vec_meet (a b : V8) (w : World) : Calls Try.prog 51 #[.agg #[.int .i64 a.a0, .int .i64 a.a1, .int .i64 a.a2, .int .i64 a.a3, .int .i64 a.a4, .int .i64 a.a5, .int .i64 a.a6, .int .i64 a.a7], .agg #[.int .i64 b.a0, .int .i64 b.a1, .int .i64 b.a2, .int .i64 b.a3, .int .i64 b.a4, .int .i64 b.a5, .int .i64 b.a6, .int .i64 b.a7]] w fun e w' => (∃ c, c = a.meet b ∧ e = .returned (.agg #[.int .i64 c.a0, .int .i64 c.a1, .int .i64 c.a2, .int .i64 c.a3, .int .i64 c.a4, .int .i64 c.a5, .int .i64 c.a6, .int .i64 c.a7])) ∧ Below w.heap.size w w' := by
  have hL := Loc.nil w NoM
  obtain ⟨a0, a1, a2, a3, a4, a5, a6, a7⟩ := a
  obtain ⟨b0, b1, b2, b3, b4, b5, b6, b7⟩ := b
  have hmx := run_minI
  have hx0 : ∀ w, (Instr.index 23 (.agg #[.int .i64 b0, .int .i64 b1, .int .i64 b2, .int .i64 b3, .int .i64 b4, .int .i64 b5, .int .i64 b6, .int .i64 b7]) (.int .i64 0)).run Try.prog w = .ok (.int .i64 b0) w := idx8 ⟨b0, b1, b2, b3, b4, b5, b6, b7⟩ 0 (by decide)
  have hx1 : ∀ w, (Instr.index 23 (.agg #[.int .i64 b0, .int .i64 b1, .int .i64 b2, .int .i64 b3, .int .i64 b4, .int .i64 b5, .int .i64 b6, .int .i64 b7]) (.int .i64 1)).run Try.prog w = .ok (.int .i64 b1) w := idx8 ⟨b0, b1, b2, b3, b4, b5, b6, b7⟩ 1 (by decide)
  have hx2 : ∀ w, (Instr.index 23 (.agg #[.int .i64 b0, .int .i64 b1, .int .i64 b2, .int .i64 b3, .int .i64 b4, .int .i64 b5, .int .i64 b6, .int .i64 b7]) (.int .i64 2)).run Try.prog w = .ok (.int .i64 b2) w := idx8 ⟨b0, b1, b2, b3, b4, b5, b6, b7⟩ 2 (by decide)
  have hx3 : ∀ w, (Instr.index 23 (.agg #[.int .i64 b0, .int .i64 b1, .int .i64 b2, .int .i64 b3, .int .i64 b4, .int .i64 b5, .int .i64 b6, .int .i64 b7]) (.int .i64 3)).run Try.prog w = .ok (.int .i64 b3) w := idx8 ⟨b0, b1, b2, b3, b4, b5, b6, b7⟩ 3 (by decide)
  have hx4 : ∀ w, (Instr.index 23 (.agg #[.int .i64 b0, .int .i64 b1, .int .i64 b2, .int .i64 b3, .int .i64 b4, .int .i64 b5, .int .i64 b6, .int .i64 b7]) (.int .i64 4)).run Try.prog w = .ok (.int .i64 b4) w := idx8 ⟨b0, b1, b2, b3, b4, b5, b6, b7⟩ 4 (by decide)
  have hx5 : ∀ w, (Instr.index 23 (.agg #[.int .i64 b0, .int .i64 b1, .int .i64 b2, .int .i64 b3, .int .i64 b4, .int .i64 b5, .int .i64 b6, .int .i64 b7]) (.int .i64 5)).run Try.prog w = .ok (.int .i64 b5) w := idx8 ⟨b0, b1, b2, b3, b4, b5, b6, b7⟩ 5 (by decide)
  have hx6 : ∀ w, (Instr.index 23 (.agg #[.int .i64 b0, .int .i64 b1, .int .i64 b2, .int .i64 b3, .int .i64 b4, .int .i64 b5, .int .i64 b6, .int .i64 b7]) (.int .i64 6)).run Try.prog w = .ok (.int .i64 b6) w := idx8 ⟨b0, b1, b2, b3, b4, b5, b6, b7⟩ 6 (by decide)
  have hx7 : ∀ w, (Instr.index 23 (.agg #[.int .i64 b0, .int .i64 b1, .int .i64 b2, .int .i64 b3, .int .i64 b4, .int .i64 b5, .int .i64 b6, .int .i64 b7]) (.int .i64 7)).run Try.prog w = .ok (.int .i64 b7) w := idx8 ⟨b0, b1, b2, b3, b4, b5, b6, b7⟩ 7 (by decide)
  go_enter Try.func51, Try.ntmps51
  go_wp2_with (first | ((with_reducible refine gate (N := 2) rfl ?_); (refine lJ rfl hL rfl rfl cy ?_; clear hL; intro g2 w2 hL)) | ((with_reducible refine gate (N := 3) rfl ?_); (refine lJ rfl hL rfl rfl cy ?_; clear hL; intro g3 w3 hL)) | ((with_reducible refine gate (N := 4) rfl ?_); (refine lI rfl hL rfl cy ?_; clear hL; intro g4 w4 hL)) | ((with_reducible refine qD rfl rfl ?_); (refine lI rfl hL rfl cy ?_; clear hL; intro gq wq hL)) | ((with_reducible refine qE rfl rfl ?_); (refine lJ rfl hL rfl rfl cy ?_; clear hL; intro gq wq hL)) | ((with_reducible refine qB rfl rfl ?_); (first | (refine lC rfl hL rfl rfl HasV.mem (by rfl) ?_) | (refine lA rfl hL rfl rfl HasV.mem (by rfl) ?_) | (refine lF rfl hL rfl rfl HasV.mem SegC.seg ?_))) | ((with_reducible refine qC rfl rfl ?_); (first | (refine lH rfl hL rfl rfl rfl cy (by rfl) ?_) | (refine lG rfl hL rfl rfl rfl cy (by rfl) (by rfl) ?_)); clear hL; intro wq hL) | ((with_reducible refine qA rfl rfl ?_ ?_); (exact wz rfl rfl rfl (by with_reducible rfl)); (first | (refine lD (wz rfl rfl rfl rfl) hL rfl rfl HasV.mem (by rfl) ?_) | (refine lB (wz rfl rfl rfl rfl) hL rfl rfl HasV.mem (by rfl) ?_) | (refine lE (wz rfl rfl rfl rfl) hL rfl rfl HasV.mem SegC.seg ?_))))
  refine wp_loop_rounds 9 ?_
  rw [rounds_succ]
  go_wp2_with (first | ((with_reducible refine qD rfl rfl ?_); (refine lI rfl hL rfl cy ?_; clear hL; intro gq wq hL)) | ((with_reducible refine qE rfl rfl ?_); (refine lJ rfl hL rfl rfl cy ?_; clear hL; intro gq wq hL)) | ((with_reducible refine qB rfl rfl ?_); (first | (refine lC rfl hL rfl rfl HasV.mem (by rfl) ?_) | (refine lA rfl hL rfl rfl HasV.mem (by rfl) ?_) | (refine lF rfl hL rfl rfl HasV.mem SegC.seg ?_))) | ((with_reducible refine qC rfl rfl ?_); (first | (refine lH rfl hL rfl rfl rfl cy (by rfl) ?_) | (refine lG rfl hL rfl rfl rfl cy (by rfl) (by rfl) ?_)); clear hL; intro wq hL) | ((with_reducible refine qA rfl rfl ?_ ?_); (exact wz rfl rfl rfl (by with_reducible rfl)); (first | (refine lD (wz rfl rfl rfl rfl) hL rfl rfl HasV.mem (by rfl) ?_) | (refine lB (wz rfl rfl rfl rfl) hL rfl rfl HasV.mem (by rfl) ?_) | (refine lE (wz rfl rfl rfl rfl) hL rfl rfl HasV.mem SegC.seg ?_))))
  rw [rounds_succ]
  go_wp2_with (first | ((with_reducible refine qD rfl rfl ?_); (refine lI rfl hL rfl cy ?_; clear hL; intro gq wq hL)) | ((with_reducible refine qE rfl rfl ?_); (refine lJ rfl hL rfl rfl cy ?_; clear hL; intro gq wq hL)) | ((with_reducible refine qB rfl rfl ?_); (first | (refine lC rfl hL rfl rfl HasV.mem (by rfl) ?_) | (refine lA rfl hL rfl rfl HasV.mem (by rfl) ?_) | (refine lF rfl hL rfl rfl HasV.mem SegC.seg ?_))) | ((with_reducible refine qC rfl rfl ?_); (first | (refine lH rfl hL rfl rfl rfl cy (by rfl) ?_) | (refine lG rfl hL rfl rfl rfl cy (by rfl) (by rfl) ?_)); clear hL; intro wq hL) | ((with_reducible refine qA rfl rfl ?_ ?_); (exact wz rfl rfl rfl (by with_reducible rfl)); (first | (refine lD (wz rfl rfl rfl rfl) hL rfl rfl HasV.mem (by rfl) ?_) | (refine lB (wz rfl rfl rfl rfl) hL rfl rfl HasV.mem (by rfl) ?_) | (refine lE (wz rfl rfl rfl rfl) hL rfl rfl HasV.mem SegC.seg ?_))))
  rw [rounds_succ]
  go_wp2_with (first | ((with_reducible refine qD rfl rfl ?_); (refine lI rfl hL rfl cy ?_; clear hL; intro gq wq hL)) | ((with_reducible refine qE rfl rfl ?_); (refine lJ rfl hL rfl rfl cy ?_; clear hL; intro gq wq hL)) | ((with_reducible refine qB rfl rfl ?_); (first | (refine lC rfl hL rfl rfl HasV.mem (by rfl) ?_) | (refine lA rfl hL rfl rfl HasV.mem (by rfl) ?_) | (refine lF rfl hL rfl rfl HasV.mem SegC.seg ?_))) | ((with_reducible refine qC rfl rfl ?_); (first | (refine lH rfl hL rfl rfl rfl cy (by rfl) ?_) | (refine lG rfl hL rfl rfl rfl cy (by rfl) (by rfl) ?_)); clear hL; intro wq hL) | ((with_reducible refine qA rfl rfl ?_ ?_); (exact wz rfl rfl rfl (by with_reducible rfl)); (first | (refine lD (wz rfl rfl rfl rfl) hL rfl rfl HasV.mem (by rfl) ?_) | (refine lB (wz rfl rfl rfl rfl) hL rfl rfl HasV.mem (by rfl) ?_) | (refine lE (wz rfl rfl rfl rfl) hL rfl rfl HasV.mem SegC.seg ?_))))
  rw [rounds_succ]
  go_wp2_with (first | ((with_reducible refine qD rfl rfl ?_); (refine lI rfl hL rfl cy ?_; clear hL; intro gq wq hL)) | ((with_reducible refine qE rfl rfl ?_); (refine lJ rfl hL rfl rfl cy ?_; clear hL; intro gq wq hL)) | ((with_reducible refine qB rfl rfl ?_); (first | (refine lC rfl hL rfl rfl HasV.mem (by rfl) ?_) | (refine lA rfl hL rfl rfl HasV.mem (by rfl) ?_) | (refine lF rfl hL rfl rfl HasV.mem SegC.seg ?_))) | ((with_reducible refine qC rfl rfl ?_); (first | (refine lH rfl hL rfl rfl rfl cy (by rfl) ?_) | (refine lG rfl hL rfl rfl rfl cy (by rfl) (by rfl) ?_)); clear hL; intro wq hL) | ((with_reducible refine qA rfl rfl ?_ ?_); (exact wz rfl rfl rfl (by with_reducible rfl)); (first | (refine lD (wz rfl rfl rfl rfl) hL rfl rfl HasV.mem (by rfl) ?_) | (refine lB (wz rfl rfl rfl rfl) hL rfl rfl HasV.mem (by rfl) ?_) | (refine lE (wz rfl rfl rfl rfl) hL rfl rfl HasV.mem SegC.seg ?_))))
  rw [rounds_succ]
  go_wp2_with (first | ((with_reducible refine qD rfl rfl ?_); (refine lI rfl hL rfl cy ?_; clear hL; intro gq wq hL)) | ((with_reducible refine qE rfl rfl ?_); (refine lJ rfl hL rfl rfl cy ?_; clear hL; intro gq wq hL)) | ((with_reducible refine qB rfl rfl ?_); (first | (refine lC rfl hL rfl rfl HasV.mem (by rfl) ?_) | (refine lA rfl hL rfl rfl HasV.mem (by rfl) ?_) | (refine lF rfl hL rfl rfl HasV.mem SegC.seg ?_))) | ((with_reducible refine qC rfl rfl ?_); (first | (refine lH rfl hL rfl rfl rfl cy (by rfl) ?_) | (refine lG rfl hL rfl rfl rfl cy (by rfl) (by rfl) ?_)); clear hL; intro wq hL) | ((with_reducible refine qA rfl rfl ?_ ?_); (exact wz rfl rfl rfl (by with_reducible rfl)); (first | (refine lD (wz rfl rfl rfl rfl) hL rfl rfl HasV.mem (by rfl) ?_) | (refine lB (wz rfl rfl rfl rfl) hL rfl rfl HasV.mem (by rfl) ?_) | (refine lE (wz rfl rfl rfl rfl) hL rfl rfl HasV.mem SegC.seg ?_))))
  rw [rounds_succ]
  go_wp2_with (first | ((with_reducible refine qD rfl rfl ?_); (refine lI rfl hL rfl cy ?_; clear hL; intro gq wq hL)) | ((with_reducible refine qE rfl rfl ?_); (refine lJ rfl hL rfl rfl cy ?_; clear hL; intro gq wq hL)) | ((with_reducible refine qB rfl rfl ?_); (first | (refine lC rfl hL rfl rfl HasV.mem (by rfl) ?_) | (refine lA rfl hL rfl rfl HasV.mem (by rfl) ?_) | (refine lF rfl hL rfl rfl HasV.mem SegC.seg ?_))) | ((with_reducible refine qC rfl rfl ?_); (first | (refine lH rfl hL rfl rfl rfl cy (by rfl) ?_) | (refine lG rfl hL rfl rfl rfl cy (by rfl) (by rfl) ?_)); clear hL; intro wq hL) | ((with_reducible refine qA rfl rfl ?_ ?_); (exact wz rfl rfl rfl (by with_reducible rfl)); (first | (refine lD (wz rfl rfl rfl rfl) hL rfl rfl HasV.mem (by rfl) ?_) | (refine lB (wz rfl rfl rfl rfl) hL rfl rfl HasV.mem (by rfl) ?_) | (refine lE (wz rfl rfl rfl rfl) hL rfl rfl HasV.mem SegC.seg ?_))))
  rw [rounds_succ]
  go_wp2_with (first | ((with_reducible refine qD rfl rfl ?_); (refine lI rfl hL rfl cy ?_; clear hL; intro gq wq hL)) | ((with_reducible refine qE rfl rfl ?_); (refine lJ rfl hL rfl rfl cy ?_; clear hL; intro gq wq hL)) | ((with_reducible refine qB rfl rfl ?_); (first | (refine lC rfl hL rfl rfl HasV.mem (by rfl) ?_) | (refine lA rfl hL rfl rfl HasV.mem (by rfl) ?_) | (refine lF rfl hL rfl rfl HasV.mem SegC.seg ?_))) | ((with_reducible refine qC rfl rfl ?_); (first | (refine lH rfl hL rfl rfl rfl cy (by rfl) ?_) | (refine lG rfl hL rfl rfl rfl cy (by rfl) (by rfl) ?_)); clear hL; intro wq hL) | ((with_reducible refine qA rfl rfl ?_ ?_); (exact wz rfl rfl rfl (by with_reducible rfl)); (first | (refine lD (wz rfl rfl rfl rfl) hL rfl rfl HasV.mem (by rfl) ?_) | (refine lB (wz rfl rfl rfl rfl) hL rfl rfl HasV.mem (by rfl) ?_) | (refine lE (wz rfl rfl rfl rfl) hL rfl rfl HasV.mem SegC.seg ?_))))
  rw [rounds_succ]
  go_wp2_with (first | ((with_reducible refine qD rfl rfl ?_); (refine lI rfl hL rfl cy ?_; clear hL; intro gq wq hL)) | ((with_reducible refine qE rfl rfl ?_); (refine lJ rfl hL rfl rfl cy ?_; clear hL; intro gq wq hL)) | ((with_reducible refine qB rfl rfl ?_); (first | (refine lC rfl hL rfl rfl HasV.mem (by rfl) ?_) | (refine lA rfl hL rfl rfl HasV.mem (by rfl) ?_) | (refine lF rfl hL rfl rfl HasV.mem SegC.seg ?_))) | ((with_reducible refine qC rfl rfl ?_); (first | (refine lH rfl hL rfl rfl rfl cy (by rfl) ?_) | (refine lG rfl hL rfl rfl rfl cy (by rfl) (by rfl) ?_)); clear hL; intro wq hL) | ((with_reducible refine qA rfl rfl ?_ ?_); (exact wz rfl rfl rfl (by with_reducible rfl)); (first | (refine lD (wz rfl rfl rfl rfl) hL rfl rfl HasV.mem (by rfl) ?_) | (refine lB (wz rfl rfl rfl rfl) hL rfl rfl HasV.mem (by rfl) ?_) | (refine lE (wz rfl rfl rfl rfl) hL rfl rfl HasV.mem SegC.seg ?_))))
  rw [rounds_succ]
  go_wp2_with (first | ((with_reducible refine qD rfl rfl ?_); (refine lI rfl hL rfl cy ?_; clear hL; intro gq wq hL)) | ((with_reducible refine qE rfl rfl ?_); (refine lJ rfl hL rfl rfl cy ?_; clear hL; intro gq wq hL)) | ((with_reducible refine qB rfl rfl ?_); (first | (refine lC rfl hL rfl rfl HasV.mem (by rfl) ?_) | (refine lA rfl hL rfl rfl HasV.mem (by rfl) ?_) | (refine lF rfl hL rfl rfl HasV.mem SegC.seg ?_))) | ((with_reducible refine qC rfl rfl ?_); (first | (refine lH rfl hL rfl rfl rfl cy (by rfl) ?_) | (refine lG rfl hL rfl rfl rfl cy (by rfl) (by rfl) ?_)); clear hL; intro wq hL) | ((with_reducible refine qA rfl rfl ?_ ?_); (exact wz rfl rfl rfl (by with_reducible rfl)); (first | (refine lD (wz rfl rfl rfl rfl) hL rfl rfl HasV.mem (by rfl) ?_) | (refine lB (wz rfl rfl rfl rfl) hL rfl rfl HasV.mem (by rfl) ?_) | (refine lE (wz rfl rfl rfl rfl) hL rfl rfl HasV.mem SegC.seg ?_))))
  exact bodyPost_ret (res_cell rfl hL _ rfl HasV.mem (by rfl)) rfl ⟨⟨_, rfl, rfl⟩, hL.below⟩
end Go.Proofs.Ytebpacmhdkgfeaa

/- slices.Clone at pieces, xattrs, links, inodes. -/
namespace Go.Proofs.Ytebpacmhdkgfeaa
open Go.RowKit

set_option maxHeartbeats 2000000 in
theorem clone_pieces (v : Value) (xs : List Pce) (w : World) (h : encPc.R w v xs) (hn : xs.length ≤ 1000000000) :
    Calls Try.prog 81 #[v] w fun e w' => ∃ u, e = .returned u ∧ Loc w NoM w' [row encPc w.heap.size 71 u xs] := by
  have hL := Loc.nil w NoM
  have HR := Lib.hid h
  obtain ⟨ao, c, rfl, hel⟩ := R_elem h
  have hq : ∀ w, (binOp .eql 40 (.slice ao xs.length c) (.slice none 0 0)).run Try.prog w = .ok (.bool ao.isNone) w := fun w => Lib.run_eql_slice_nil w 40 71 ao xs.length c 0 0 Try.underlying40
  clear h
  cases ao with
  | none =>
    obtain rfl : xs = [] := by
      cases xs with
      | nil => rfl
      | cons x l => obtain ⟨g, off, e, -⟩ := hel 0 (by simp); cases e
    have hq : ∀ w, (binOp .eql 40 (.slice none 0 c) (.slice none 0 0)).run Try.prog w = .ok (.bool true) w := hq
    have hL := hL.rowOff encPc w.heap.size 71
    clear HR hel
    show Calls _ _ #[.slice none 0 c] w _
    go_enter Try.func81, Try.ntmps81
    go_wp2_with (first | ((with_reducible refine qD rfl rfl ?_); (refine lI rfl hL rfl cy ?_; clear hL; intro gq wq hL)) | ((with_reducible refine qE rfl rfl ?_); (refine lJ rfl hL rfl rfl cy ?_; clear hL; intro gq wq hL)) | ((with_reducible refine qB rfl rfl ?_); (first | (refine lC rfl hL rfl rfl HasV.mem (by rfl) ?_) | (refine lA rfl hL rfl rfl HasV.mem (by rfl) ?_) | (refine lF rfl hL rfl rfl HasV.mem SegC.seg ?_))) | ((with_reducible refine qC rfl rfl ?_); (first | (refine lH rfl hL rfl rfl rfl cy (by rfl) ?_) | (refine lG rfl hL rfl rfl rfl cy (by rfl) (by rfl) ?_)); clear hL; intro wq hL) | ((with_reducible refine qA rfl rfl ?_ ?_); (exact wz rfl rfl rfl (by with_reducible rfl)); (first | (refine lD (wz rfl rfl rfl rfl) hL rfl rfl HasV.mem (by rfl) ?_) | (refine lB (wz rfl rfl rfl rfl) hL rfl rfl HasV.mem (by rfl) ?_) | (refine lE (wz rfl rfl rfl rfl) hL rfl rfl HasV.mem SegC.seg ?_))))
    go_ret
    exact ⟨_, rfl, hL⟩
  | some a =>
    have hq : ∀ w, (binOp .eql 40 (.slice (some a) xs.length c) (.slice none 0 0)).run Try.prog w = .ok (.bool false) w := hq
    clear hel
    go_enter Try.func81, Try.ntmps81
    go_wp2_with (first
      | ((with_reducible refine gLit rfl rfl ?_); refine ev_lit0 encPc w.heap.size rfl hL rfl (Nat.le_refl _) ?_; clear hL; intro gq wq hL)
      | ((with_reducible refine qD rfl rfl ?_); (refine lI rfl hL rfl cy ?_; clear hL; intro gq wq hL)) | ((with_reducible refine qE rfl rfl ?_); (refine lJ rfl hL rfl rfl cy ?_; clear hL; intro gq wq hL)) | ((with_reducible refine qB rfl rfl ?_); (first | (refine lC rfl hL rfl rfl HasV.mem (by rfl) ?_) | (refine lA rfl hL rfl rfl HasV.mem (by rfl) ?_) | (refine lF rfl hL rfl rfl HasV.mem SegC.seg ?_))) | ((with_reducible refine qC rfl rfl ?_); (first | (refine lH rfl hL rfl rfl rfl cy (by rfl) ?_) | (refine lG rfl hL rfl rfl rfl cy (by rfl) (by rfl) ?_)); clear hL; intro wq hL) | ((with_reducible refine qA rfl rfl ?_ ?_); (exact wz rfl rfl rfl (by with_reducible rfl)); (first | (refine lD (wz rfl rfl rfl rfl) hL rfl rfl HasV.mem (by rfl) ?_) | (refine lB (wz rfl rfl rfl rfl) hL rfl rfl HasV.mem (by rfl) ?_) | (refine lE (wz rfl rfl rfl rfl) hL rfl rfl HasV.mem SegC.seg ?_)))
      | (at_builtin; refine ev_appL (E := encPc) xs rfl hL rfl rfl rfl (HR.out.below hL.below) (fun _ => sx) rfl rfl (by simpa using Nat.le_trans hn (by decide)) hL.size ?_; clear hL; intro v' wq hL))
    go_ret
    exact ⟨_, rfl, by simpa using hL⟩
set_option maxHeartbeats 2000000 in
theorem clone_xattrs (v : Value) (xs : List Xat) (w : World) (h : encXt.R w v xs) (hn : xs.length ≤ 1000000000) :
    Calls Try.prog 82 #[v] w fun e w' => ∃ u, e = .returned u ∧ Loc w NoM w' [row encXt w.heap.size 73 u xs] := by
  have hL := Loc.nil w NoM
  have HR := Lib.hid h
  obtain ⟨ao, c, rfl, hel⟩ := R_elem h
  have hq : ∀ w, (binOp .eql 41 (.slice ao xs.length c) (.slice none 0 0)).run Try.prog w = .ok (.bool ao.isNone) w := fun w => Lib.run_eql_slice_nil w 41 73 ao xs.length c 0 0 Try.underlying41
  clear h
  cases ao with
  | none =>
    obtain rfl : xs = [] := by
      cases xs with
      | nil => rfl
      | cons x l => obtain ⟨g, off, e, -⟩ := hel 0 (by simp); cases e
    have hq : ∀ w, (binOp .eql 41 (.slice none 0 c) (.slice none 0 0)).run Try.prog w = .ok (.bool true) w := hq
    have hL := hL.rowOff encXt w.heap.size 73
    clear HR hel
    show Calls _ _ #[.slice none 0 c] w _
    go_enter Try.func82, Try.ntmps82
    go_wp2_with (first | ((with_reducible refine qD rfl rfl ?_); (refine lI rfl hL rfl cy ?_; clear hL; intro gq wq hL)) | ((with_reducible refine qE rfl rfl ?_); (refine lJ rfl hL rfl rfl cy ?_; clear hL; intro gq wq hL)) | ((with_reducible refine qB rfl rfl ?_); (first | (refine lC rfl hL rfl rfl HasV.mem (by rfl) ?_) | (refine lA rfl hL rfl rfl HasV.mem (by rfl) ?_) | (refine lF rfl hL rfl rfl HasV.mem SegC.seg ?_))) | ((with_reducible refine qC rfl rfl ?_); (first | (refine lH rfl hL rfl rfl rfl cy (by rfl) ?_) | (refine lG rfl hL rfl rfl rfl cy (by rfl) (by rfl) ?_)); clear hL; intro wq hL) | ((with_reducible refine qA rfl rfl ?_ ?_); (exact wz rfl rfl rfl (by with_reducible rfl)); (first | (refine lD (wz rfl rfl rfl rfl) hL rfl rfl HasV.mem (by rfl) ?_) | (refine lB (wz rfl rfl rfl rfl) hL rfl rfl HasV.mem (by rfl) ?_) | (refine lE (wz rfl rfl rfl rfl) hL rfl rfl HasV.mem SegC.seg ?_))))
    go_ret
    exact ⟨_, rfl, hL⟩
  | some a =>
    have hq : ∀ w, (binOp .eql 41 (.slice (some a) xs.length c) (.slice none 0 0)).run Try.prog w = .ok (.bool false) w := hq
    clear hel
    go_enter Try.func82, Try.ntmps82
    go_wp2_with (first
      | ((with_reducible refine gLit rfl rfl ?_); refine ev_lit0 encXt w.heap.size rfl hL rfl (Nat.le_refl _) ?_; clear hL; intro gq wq hL)
      | ((with_reducible refine qD rfl rfl ?_); (refine lI rfl hL rfl cy ?_; clear hL; intro gq wq hL)) | ((with_reducible refine qE rfl rfl ?_); (refine lJ rfl hL rfl rfl cy ?_; clear hL; intro gq wq hL)) | ((with_reducible refine qB rfl rfl ?_); (first | (refine lC rfl hL rfl rfl HasV.mem (by rfl) ?_) | (refine lA rfl hL rfl rfl HasV.mem (by rfl) ?_) | (refine lF rfl hL rfl rfl HasV.mem SegC.seg ?_))) | ((with_reducible refine qC rfl rfl ?_); (first | (refine lH rfl hL rfl rfl rfl cy (by rfl) ?_) | (refine lG rfl hL rfl rfl rfl cy (by rfl) (by rfl) ?_)); clear hL; intro wq hL) | ((with_reducible refine qA rfl rfl ?_ ?_); (exact wz rfl rfl rfl (by with_reducible rfl)); (first | (refine lD (wz rfl rfl rfl rfl) hL rfl rfl HasV.mem (by rfl) ?_) | (refine lB (wz rfl rfl rfl rfl) hL rfl rfl HasV.mem (by rfl) ?_) | (refine lE (wz rfl rfl rfl rfl) hL rfl rfl HasV.mem SegC.seg ?_)))
      | (at_builtin; refine ev_appL (E := encXt) xs rfl hL rfl rfl rfl (HR.out.below hL.below) (fun _ => sx) rfl rfl (by simpa using Nat.le_trans hn (by decide)) hL.size ?_; clear hL; intro v' wq hL))
    go_ret
    exact ⟨_, rfl, by simpa using hL⟩
set_option maxHeartbeats 2000000 in
theorem clone_links (v : Value) (xs : List Lnk) (w : World) (h : encK.R w v xs) (hn : xs.length ≤ 1000000000) :
    Calls Try.prog 53 #[v] w fun e w' => ∃ u, e = .returned u ∧ Loc w NoM w' [row encK w.heap.size 48 u xs] := by
  have hL := Loc.nil w NoM
  have HR := Lib.hid h
  obtain ⟨ao, c, rfl, hel⟩ := R_elem h
  have hq : ∀ w, (binOp .eql 25 (.slice ao xs.length c) (.slice none 0 0)).run Try.prog w = .ok (.bool ao.isNone) w := fun w => Lib.run_eql_slice_nil w 25 48 ao xs.length c 0 0 Try.underlying25
  clear h
  cases ao with
  | none =>
    obtain rfl : xs = [] := by
      cases xs with
      | nil => rfl
      | cons x l => obtain ⟨g, off, e, -⟩ := hel 0 (by simp); cases e
    have hq : ∀ w, (binOp .eql 25 (.slice none 0 c) (.slice none 0 0)).run Try.prog w = .ok (.bool true) w := hq
    have hL := hL.rowOff encK w.heap.size 48
    clear HR hel
    show Calls _ _ #[.slice none 0 c] w _
    go_enter Try.func53, Try.ntmps53
    go_wp2_with (first | ((with_reducible refine qD rfl rfl ?_); (refine lI rfl hL rfl cy ?_; clear hL; intro gq wq hL)) | ((with_reducible refine qE rfl rfl ?_); (refine lJ rfl hL rfl rfl cy ?_; clear hL; intro gq wq hL)) | ((with_reducible refine qB rfl rfl ?_); (first | (refine lC rfl hL rfl rfl HasV.mem (by rfl) ?_) | (refine lA rfl hL rfl rfl HasV.mem (by rfl) ?_) | (refine lF rfl hL rfl rfl HasV.mem SegC.seg ?_))) | ((with_reducible refine qC rfl rfl ?_); (first | (refine lH rfl hL rfl rfl rfl cy (by rfl) ?_) | (refine lG rfl hL rfl rfl rfl cy (by rfl) (by rfl) ?_)); clear hL; intro wq hL) | ((with_reducible refine qA rfl rfl ?_ ?_); (exact wz rfl rfl rfl (by with_reducible rfl)); (first | (refine lD (wz rfl rfl rfl rfl) hL rfl rfl HasV.mem (by rfl) ?_) | (refine lB (wz rfl rfl rfl rfl) hL rfl rfl HasV.mem (by rfl) ?_) | (refine lE (wz rfl rfl rfl rfl) hL rfl rfl HasV.mem SegC.seg ?_))))
    go_ret
    exact ⟨_, rfl, hL⟩
  | some a =>
    have hq : ∀ w, (binOp .eql 25 (.slice (some a) xs.length c) (.slice none 0 0)).run Try.prog w = .ok (.bool false) w := hq
    clear hel
    go_enter Try.func53, Try.ntmps53
    go_wp2_with (first
      | ((with_reducible refine gLit rfl rfl ?_); refine ev_lit0 encK w.heap.size rfl hL rfl (Nat.le_refl _) ?_; clear hL; intro gq wq hL)
      | ((with_reducible refine qD rfl rfl ?_); (refine lI rfl hL rfl cy ?_; clear hL; intro gq wq hL)) | ((with_reducible refine qE rfl rfl ?_); (refine lJ rfl hL rfl rfl cy ?_; clear hL; intro gq wq hL)) | ((with_reducible refine qB rfl rfl ?_); (first | (refine lC rfl hL rfl rfl HasV.mem (by rfl) ?_) | (refine lA rfl hL rfl rfl HasV.mem (by rfl) ?_) | (refine lF rfl hL rfl rfl HasV.mem SegC.seg ?_))) | ((with_reducible refine qC rfl rfl ?_); (first | (refine lH rfl hL rfl rfl rfl cy (by rfl) ?_) | (refine lG rfl hL rfl rfl rfl cy (by rfl) (by rfl) ?_)); clear hL; intro wq hL) | ((with_reducible refine qA rfl rfl ?_ ?_); (exact wz rfl rfl rfl (by with_reducible rfl)); (first | (refine lD (wz rfl rfl rfl rfl) hL rfl rfl HasV.mem (by rfl) ?_) | (refine lB (wz rfl rfl rfl rfl) hL rfl rfl HasV.mem (by rfl) ?_) | (refine lE (wz rfl rfl rfl rfl) hL rfl rfl HasV.mem SegC.seg ?_)))
      | (at_builtin; refine ev_appL (E := encK) xs rfl hL rfl rfl rfl (HR.out.below hL.below) (fun _ => sx) rfl rfl (by simpa using Nat.le_trans hn (by decide)) hL.size ?_; clear hL; intro v' wq hL))
    go_ret
    exact ⟨_, rfl, by simpa using hL⟩
set_option maxHeartbeats 2000000 in
theorem clone_nodes (v : Value) (xs : List Nd) (w : World) (h : encN.R w v xs) (hn : xs.length ≤ 1000000000) :
    Calls Try.prog 52 #[v] w fun e w' => ∃ u, e = .returned u ∧ Loc w NoM w' [row encN w.heap.size 43 u xs] := by
  have hL := Loc.nil w NoM
  have HR := Lib.hid h
  obtain ⟨ao, c, rfl, hel⟩ := R_elem h
  have hq : ∀ w, (binOp .eql 24 (.slice ao xs.length c) (.slice none 0 0)).run Try.prog w = .ok (.bool ao.isNone) w := fun w => Lib.run_eql_slice_nil w 24 43 ao xs.length c 0 0 Try.underlying24
  clear h
  cases ao with
  | none =>
    obtain rfl : xs = [] := by
      cases xs with
      | nil => rfl
      | cons x l => obtain ⟨g, off, e, -⟩ := hel 0 (by simp); cases e
    have hq : ∀ w, (binOp .eql 24 (.slice none 0 c) (.slice none 0 0)).run Try.prog w = .ok (.bool true) w := hq
    have hL := hL.rowOff encN w.heap.size 43
    clear HR hel
    show Calls _ _ #[.slice none 0 c] w _
    go_enter Try.func52, Try.ntmps52
    go_wp2_with (first | ((with_reducible refine qD rfl rfl ?_); (refine lI rfl hL rfl cy ?_; clear hL; intro gq wq hL)) | ((with_reducible refine qE rfl rfl ?_); (refine lJ rfl hL rfl rfl cy ?_; clear hL; intro gq wq hL)) | ((with_reducible refine qB rfl rfl ?_); (first | (refine lC rfl hL rfl rfl HasV.mem (by rfl) ?_) | (refine lA rfl hL rfl rfl HasV.mem (by rfl) ?_) | (refine lF rfl hL rfl rfl HasV.mem SegC.seg ?_))) | ((with_reducible refine qC rfl rfl ?_); (first | (refine lH rfl hL rfl rfl rfl cy (by rfl) ?_) | (refine lG rfl hL rfl rfl rfl cy (by rfl) (by rfl) ?_)); clear hL; intro wq hL) | ((with_reducible refine qA rfl rfl ?_ ?_); (exact wz rfl rfl rfl (by with_reducible rfl)); (first | (refine lD (wz rfl rfl rfl rfl) hL rfl rfl HasV.mem (by rfl) ?_) | (refine lB (wz rfl rfl rfl rfl) hL rfl rfl HasV.mem (by rfl) ?_) | (refine lE (wz rfl rfl rfl rfl) hL rfl rfl HasV.mem SegC.seg ?_))))
    go_ret
    exact ⟨_, rfl, hL⟩
  | some a =>
    have hq : ∀ w, (binOp .eql 24 (.slice (some a) xs.length c) (.slice none 0 0)).run Try.prog w = .ok (.bool false) w := hq
    clear hel
    go_enter Try.func52, Try.ntmps52
    go_wp2_with (first
      | ((with_reducible refine gLit rfl rfl ?_); refine ev_lit0 encN w.heap.size rfl hL rfl (Nat.le_refl _) ?_; clear hL; intro gq wq hL)
      | ((with_reducible refine qD rfl rfl ?_); (refine lI rfl hL rfl cy ?_; clear hL; intro gq wq hL)) | ((with_reducible refine qE rfl rfl ?_); (refine lJ rfl hL rfl rfl cy ?_; clear hL; intro gq wq hL)) | ((with_reducible refine qB rfl rfl ?_); (first | (refine lC rfl hL rfl rfl HasV.mem (by rfl) ?_) | (refine lA rfl hL rfl rfl HasV.mem (by rfl) ?_) | (refine lF rfl hL rfl rfl HasV.mem SegC.seg ?_))) | ((with_reducible refine qC rfl rfl ?_); (first | (refine lH rfl hL rfl rfl rfl cy (by rfl) ?_) | (refine lG rfl hL rfl rfl rfl cy (by rfl) (by rfl) ?_)); clear hL; intro wq hL) | ((with_reducible refine qA rfl rfl ?_ ?_); (exact wz rfl rfl rfl (by with_reducible rfl)); (first | (refine lD (wz rfl rfl rfl rfl) hL rfl rfl HasV.mem (by rfl) ?_) | (refine lB (wz rfl rfl rfl rfl) hL rfl rfl HasV.mem (by rfl) ?_) | (refine lE (wz rfl rfl rfl rfl) hL rfl rfl HasV.mem SegC.seg ?_)))
      | (at_builtin; refine ev_appL (E := encN) xs rfl hL rfl rfl rfl (HR.out.below hL.below) (fun _ => sx) rfl rfl (by simpa using Nat.le_trans hn (by decide)) hL.size ?_; clear hL; intro v' wq hL))
    go_ret
    exact ⟨_, rfl, by simpa using hL⟩
end Go.Proofs.Ytebpacmhdkgfeaa

/- Maps of one's own as association lists: made, looked up, written. Over any program. -/
namespace Go.Proofs.Ytebpacmhdkgfeaa
open Go.RowKit Go.Maps
set_option linter.unusedSectionVars false

section
variable {κ : Type} [DecidableEq κ]
def mget (k : κ) (l : List (κ × Value)) : Option Value := (l.find? fun p => decide (p.1 = k)).map (·.2)
def mput (k : κ) (v : Value) : List (κ × Value) → List (κ × Value)
  | [] => [(k, v)]
  | p :: l => if p.1 = k then (k, v) :: l else p :: mput k v l
theorem mget_none {k : κ} {l : List (κ × Value)} (h : ∀ p ∈ l, p.1 ≠ k) : mget k l = none := by
  unfold mget
  rw [List.find?_eq_none.2 fun p hp => by simpa using h p hp]
  rfl
theorem mput_none {k : κ} {v : Value} : ∀ {l : List (κ × Value)}, (∀ p ∈ l, p.1 ≠ k) → mput k v l = l ++ [(k, v)]
  | [], _ => rfl
  | p :: l, h => by
    unfold mput
    rw [if_neg (h p (.head _)), mput_none fun q hq => h q (.tail _ hq)]
    rfl
theorem mget_some {k : κ} {v : Value} : ∀ {l : List (κ × Value)} {j : Nat}, (l.map (·.1)).Nodup → l[j]? = some (k, v) → mget k l = some v
  | [], j, _, h => by simp at h
  | p :: l, 0, _, h => by
    simp only [List.getElem?_cons_zero, Option.some.injEq] at h
    subst h
    simp [mget]
  | p :: l, j + 1, hd, h => by
    rw [List.getElem?_cons_succ] at h
    rw [List.map_cons, List.nodup_cons] at hd
    have hm : k ∈ l.map (·.1) := List.mem_map.2 ⟨_, List.mem_of_getElem? h, rfl⟩
    have hne : p.1 ≠ k := fun e => hd.1 (e ▸ hm)
    have := mget_some hd.2 h
    unfold mget at *
    rw [List.find?_cons_of_neg (by simpa using hne)]
    exact this
theorem mput_some {k : κ} {v v' : Value} : ∀ {l : List (κ × Value)} {j : Nat}, (l.map (·.1)).Nodup → l[j]? = some (k, v') → mput k v l = l.set j (k, v)
  | [], j, _, h => by simp at h
  | p :: l, 0, _, h => by
    simp only [List.getElem?_cons_zero, Option.some.injEq] at h
    subst h
    simp [mput]
  | p :: l, j + 1, hd, h => by
    rw [List.getElem?_cons_succ] at h
    rw [List.map_cons, List.nodup_cons] at hd
    have hm : k ∈ l.map (·.1) := List.mem_map.2 ⟨_, List.mem_of_getElem? h, rfl⟩
    have hne : p.1 ≠ k := fun e => hd.1 (e ▸ hm)
    unfold mput
    rw [if_neg hne, mput_some hd.2 h]
    rfl
theorem mput_keys {k : κ} {v : Value} : ∀ l : List (κ × Value), (mput k v l).map (·.1) = if k ∈ l.map (·.1) then l.map (·.1) else l.map (·.1) ++ [k]
  | [] => rfl
  | p :: l => by
    unfold mput
    by_cases h : p.1 = k
    · rw [if_pos h]; simp [h]
    · rw [if_neg h, List.map_cons, mput_keys l]
      have h2 : k ≠ p.1 := fun e => h e.symm
      simp only [List.map_cons, List.mem_cons, h2, false_or]
      split <;> simp
theorem mget_put (k k' : κ) (v : Value) : ∀ l : List (κ × Value), mget k' (mput k v l) = if k' = k then some v else mget k' l
  | [] => by
    unfold mput mget
    by_cases h : k' = k
    · simp [h]
    · have : ¬ k = k' := fun e => h e.symm
      simp [h, this]
  | p :: l => by
    have ih := mget_put k k' v l
    unfold mput
    by_cases h1 : p.1 = k
    · rw [if_pos h1]
      by_cases h : k' = k
      · simp [mget, h]
      · have h2 : ¬ k = k' := fun e => h e.symm
        simp [mget, h, h1, h2]
    · rw [if_neg h1]
      by_cases h3 : p.1 = k'
      · have h4 : ¬ k' = k := fun e => h1 (h3.trans e)
        simp [mget, h3, h4]
      · unfold mget at *
        rw [List.find?_cons_of_neg (by simpa using h3), List.find?_cons_of_neg (by simpa using h3)]
        exact ih
variable {P : Program} {K : TypeId} (val : κ → Value)
/-- What block g holds as a map. -/
def IsMap (P : Program) (K : TypeId) (w : World) (g : Nat) (kvs : List (κ × Value)) : Prop :=
  ∃ es clock, w.heap[g]? = some (.map es clock) ∧ es.toList.map (fun e => (e.key, e.val)) = kvs.map (fun p => (val p.1, p.2)) ∧ (∀ p ∈ kvs, ∃ l, keyOf P K (val p.1) = some l) ∧ (kvs.map (·.1)).Nodup
def mapv (P : Program) (K : TypeId) (g : Nat) (kvs : List (κ × Value)) : Item := ⟨(· = g), fun w => IsMap val P K w g kvs⟩
variable {val} {w : World} {g : Nat} {kvs : List (κ × Value)}
theorem IsMap.lt (h : IsMap val P K w g kvs) : g < w.heap.size := by
  obtain ⟨es, c, h1, -⟩ := h
  exact (Array.getElem?_eq_some_iff.1 h1).1
theorem mapv_at (h : IsMap val P K w g kvs) : (mapv val P K g kvs).At w :=
  ⟨h, fun k hk => by cases hk; exact h.lt, fun w' _ hb => by
    obtain ⟨es, c, h1, h2⟩ := h
    exact ⟨es, c, (hb g rfl).trans h1, h2⟩⟩
theorem look_cases (hi : ∀ a b, val a = val b → a = b) (KL : Keyed P K) {x : κ} {lx : Lit} (hx : keyOf P K (val x) = some lx) {es : Array MapEntry} (he : es.toList.map (fun e => (e.key, e.val)) = kvs.map (fun p => (val p.1, p.2))) (hk : ∀ p ∈ kvs, ∃ l, keyOf P K (val p.1) = some l) (w : World) :
    ((Instr.findKey K (val x) es.toList).run P w = .ok none w ∧ ∀ p ∈ kvs, p.1 ≠ x) ∨ ∃ j e, (Instr.findKey K (val x) es.toList).run P w = .ok (some (j, e.val)) w ∧ es.toList[j]? = some e ∧ e.key = val x ∧ kvs[j]? = some (x, e.val) := by
  have hm : ∀ e ∈ es.toList, ∃ p ∈ kvs, val p.1 = e.key ∧ p.2 = e.val := fun e he2 => by
    have h1 : (e.key, e.val) ∈ es.toList.map (fun e => (e.key, e.val)) := List.mem_map.2 ⟨e, he2, rfl⟩
    rw [he] at h1
    obtain ⟨p, hp, h2⟩ := List.mem_map.1 h1
    injection h2 with h3 h4
    exact ⟨p, hp, h3, h4⟩
  rcases KL.find w hx es.toList (fun e he2 => by obtain ⟨p, hp, h1, -⟩ := hm e he2; obtain ⟨l, hl⟩ := hk p hp; exact ⟨l, h1 ▸ hl⟩) with ⟨h1, h2⟩ | ⟨j, e, h1, h2, h3⟩
  · refine .inl ⟨h1, fun p hp hpx => ?_⟩
    have h4 : (val p.1, p.2) ∈ kvs.map (fun p => (val p.1, p.2)) := List.mem_map.2 ⟨p, hp, rfl⟩
    rw [← he] at h4
    obtain ⟨e, he2, h5⟩ := List.mem_map.1 h4
    injection h5 with h6 _
    exact h2 e he2 (h6.trans (by rw [hpx]))
  · refine .inr ⟨j, e, h1, h2, h3, ?_⟩
    have h4 : (es.toList.map (fun e => (e.key, e.val)))[j]? = some (e.key, e.val) := by rw [List.getElem?_map, h2]; rfl
    rw [he, List.getElem?_map] at h4
    obtain ⟨p, hp, h5⟩ := Option.map_eq_some_iff.1 h4
    injection h5 with h6 h7
    rw [hp]
    obtain ⟨p1, p2⟩ := p
    simp only at h6 h7
    rw [h7, hi p1 x (h6.trans h3)]
theorem run_look (hi : ∀ a b, val a = val b → a = b) (KL : Keyed P K) {t e : TypeId} (ht : P.underlying t = some (.map K e)) {z : Value} (hz : (zeroValue e).run P w = .ok z w) (h : IsMap val P K w g kvs) {x : κ} {lx : Lit} (hx : keyOf P K (val x) = some lx) (c : Bool) :
    (Instr.lookup t (.map (some g)) (val x) c).run P w = .ok (if c then .tuple #[(mget x kvs).getD z, .bool (mget x kvs).isSome] else (mget x kvs).getD z) w := by
  obtain ⟨es, cl, hb, he, hk, hn⟩ := h
  rcases look_cases hi KL hx he hk w with ⟨h1, h2⟩ | ⟨j, e0, h1, h2, h3, h4⟩
  · rw [mget_none h2]
    simp [Instr.lookup, run_underlying ht, MapKept.run_getObj_map hb, KL.check w _ hx, h1, hz, Result.andThen]
  · rw [mget_some hn h4]
    simp [Instr.lookup, run_underlying ht, MapKept.run_getObj_map hb, KL.check w _ hx, h1, Result.andThen]
theorem run_mput (hi : ∀ a b, val a = val b → a = b) (KL : Keyed P K) {t e : TypeId} (ht : P.underlying t = some (.map K e)) (h : IsMap val P K w g kvs) {x : κ} {lx : Lit} (hx : keyOf P K (val x) = some lx) (v : Value) :
    ∃ w1, (Instr.mapUpdate t (.map (some g)) (val x) v).run P w = .ok () w1 ∧ IsMap val P K w1 g (mput x v kvs) ∧ Mod (· = g) w w1 := by
  obtain ⟨es, cl, hb, he, hk, hn⟩ := h
  have hg : g < w.heap.size := (Array.getElem?_eq_some_iff.1 hb).1
  have hmod : ∀ o : Obj, Mod (· = g) w { w with heap := w.heap.setIfInBounds g o } := fun o => ⟨rfl, rfl, rfl, by simp, fun k _ hk => by simp [Array.getElem?_setIfInBounds_ne (fun e : g = k => hk e.symm)]⟩
  have hset : ∀ o : Obj, ({ w with heap := w.heap.setIfInBounds g o } : World).heap[g]? = some o := fun o => by simp [hg]
  have hkeys : ∀ p ∈ mput x v kvs, ∃ l, keyOf P K (val p.1) = some l := fun p hp => by
    have h1 : p.1 ∈ (mput x v kvs).map (·.1) := List.mem_map.2 ⟨p, hp, rfl⟩
    rw [mput_keys] at h1
    have h2 : p.1 ∈ kvs.map (·.1) ∨ p.1 = x := by
      split at h1
      · exact .inl h1
      · simpa using h1
    rcases h2 with h2 | h2
    · obtain ⟨q, hq, hqe⟩ := List.mem_map.1 h2
      rw [← hqe]; exact hk q hq
    · rw [h2]; exact ⟨lx, hx⟩
  have hnod : ((mput x v kvs).map (·.1)).Nodup := by
    rw [mput_keys]
    split
    · exact hn
    · rename_i h1
      rw [List.nodup_append]
      exact ⟨hn, by simp, fun a ha b hb => by rw [List.mem_singleton] at hb; subst hb; exact fun e => h1 (e ▸ ha)⟩
  rcases look_cases hi KL hx he hk w with ⟨h1, h2⟩ | ⟨j, e0, h1, h2, h3, h4⟩
  · refine ⟨_, by simp [Instr.mapUpdate, run_underlying ht, MapKept.run_getObj_map hb, KL.check w _ hx, h1, MapKept.run_setObj_map _ hb, Result.andThen], ⟨es.push { key := val x, val := v, born := cl }, cl + 1, hset _, ?_, hkeys, hnod⟩, hmod _⟩
    rw [mput_none h2]
    simp [he]
  · have hj : (es[j]?).map (·.key) = some (val x) := by
      rw [← Array.getElem?_toList, h2]
      simp [h3]
    refine ⟨{ w with heap := w.heap.setIfInBounds g (.map (es.modify j fun e => { e with key := val x, val := v }) cl) }, ?_, ⟨_, cl, hset _, ?_, hkeys, hnod⟩, hmod _⟩
    · simp [Instr.mapUpdate, run_underlying ht, MapKept.run_getObj_map hb, KL.check w _ hx, h1, hj, KL.stays w hx, MapKept.run_setObj_map _ hb, Result.andThen]
    · rw [mput_some hn h4]
      apply List.ext_getElem?
      intro i
      have hh := congrArg (fun l : List (Value × Value) => l[i]?) he
      simp only [List.getElem?_map] at hh
      simp only [List.getElem?_map, Array.toList_modify, List.getElem?_modify, List.getElem?_set]
      by_cases hij : j = i
      · subst hij
        have hl : j < kvs.length := (List.getElem?_eq_some_iff.1 h4).1
        simp [h2, hl]
      · simp only [hij, if_false, id]
        rw [← hh]
        cases es.toList[i]? <;> rfl
end
section
variable {P : Program} {ops : Array Oper} {rest : List Oper} {o : Oper} {a : Act} {Q : Exit → Act → World → Prop} {W w0 : World} {M : Nat → Prop} {l l' : List Item} {κ : Type} [DecidableEq κ] {K : TypeId} {val : κ → Value} {g : Nat} {kvs : List (κ × Value)}
theorem eventS (hgd : o.guard = none) {w1 : World} (hrun : (execOp a.eval o).run P W = .ok .skip w1) (h : wpList P ops Q rest (a.put o.dst undef) w1) : wpList P ops Q (o :: rest) a W := by
  refine wpList_plain hgd fun K hK => ?_
  unfold Oper.wp
  rw [hrun]
  exact hK _ _ h
theorem ev_makeMap {t : TypeId} (val : κ → Value) (K : TypeId) (hgd : o.guard = none) (hL : Loc w0 M W l) (ho : o.op = .makeMap t none)
    (h : ∀ g w1, Loc w0 M w1 (mapv val P K g [] :: l) → wpList P ops Q rest (a.put o.dst (.map (some g))) w1) : wpList P ops Q (o :: rest) a W := by
  refine event hgd (v := .map (some W.heap.size)) (w1 := W.alloc (.map #[] 0)) ?_ (h _ _ (hL.callNew (bl_alloc (Below.refl _ _) _) (mapv_at ⟨#[], 0, ?_, rfl, by simp, by simp⟩) fun k hk => by cases hk; exact Nat.le_refl _))
  · simp [execOp, ho, Instr.makeMap, newObj, Sem.run]
  · show (W.heap.push (Obj.map #[] 0))[W.heap.size]? = _
    simp
theorem ev_look {t e : TypeId} {m x : Operand} {c : Bool} {y : κ} {ly : Lit} {z : Value} (hi : ∀ a b, val a = val b → a = b) (KL : Keyed P K) (ht : P.underlying t = some (.map K e)) [hz : ZeroT P e z] (hgd : o.guard = none) (hL : Loc w0 M W l) (ho : o.op = .lookup t m x c)
    (hm : a.eval m = .map (some g)) (hx : a.eval x = val y) (hy : keyOf P K (val y) = some ly) (hmem : mapv val P K g kvs ∈ l)
    (h : wpList P ops Q rest (a.put o.dst (if c then .tuple #[(mget y kvs).getD z, .bool (mget y kvs).isSome] else (mget y kvs).getD z)) W) : wpList P ops Q (o :: rest) a W := by
  obtain ⟨i, hi2, hzz⟩ := Option.map_eq_some_iff.1 hz.zero
  have hzr : (zeroValue e).run P W = .ok z W := by simp [zeroValue, typeInfo, hi2, hzz]
  refine event hgd (w1 := W) ?_ h
  simp [execOp, ho, hm, hx, run_look hi KL ht hzr (hL.get hmem) hy c]
theorem ev_mput {t e : TypeId} {m x v : Operand} {y : κ} {ly : Lit} {u : Value} (hi : ∀ a b, val a = val b → a = b) (KL : Keyed P K) (ht : P.underlying t = some (.map K e)) (hgd : o.guard = none) (hL : Loc w0 M W l) (ho : o.op = .mapUpdate t m x v)
    (hm : a.eval m = .map (some g)) (hx : a.eval x = val y) (hv : a.eval v = u) (hy : keyOf P K (val y) = some ly) (hs : Swap (mapv val P K g kvs) (mapv val P K g (mput y u kvs)) l l')
    (h : ∀ w1, Loc w0 M w1 l' → wpList P ops Q rest (a.put o.dst undef) w1) : wpList P ops Q (o :: rest) a W := by
  obtain ⟨w1, h1, h2, h3⟩ := run_mput (P := P) hi KL ht (hL.get hs.mem) hy u
  refine eventS hgd ?_ (h w1 (hL.swap hs (h3.mono fun k _ e => e) (mapv_at h2) fun _ hk => .inl hk))
  simp [execOp, ho, hm, hx, hv, h1]
end
end Go.Proofs.Ytebpacmhdkgfeaa

/- Package join: pruning a state of one link that all know to be gone: parts. -/
namespace Go.Proofs.Ytebpacmhdkgfeaa
open Go.RowKit Go.Maps Go.WideMaps
set_option maxHeartbeats 4000000
set_option maxRecDepth 20000
theorem stamp_neql (a b : Mk) {r : Bool} (h : decide (a = b) = r) : ∀ w, (binOp .neq 34 (.agg #[.int .i64 a.boot, .int .i64 a.n]) (.agg #[.int .i64 b.boot, .int .i64 b.n])).run Try.prog w = .ok (.bool (!r)) w := by
  have h0 : eqCells Try.prog 3 34 [.int .i64 a.boot, .int .i64 a.n] [.int .i64 b.boot, .int .i64 b.n] = some (a.boot == b.boot && (a.n == b.n && true)) := by kernel_rfl
  have e : (a.boot == b.boot && (a.n == b.n && true)) = r := by
    rw [← h]
    obtain ⟨a1, a2⟩ := a; obtain ⟨b1, b2⟩ := b
    rw [Bool.eq_iff_iff]; simp
  rw [e] at h0
  exact run_neq_cells 3 (by decide) (by kernel_rfl) h0
/-- A cutter as it lies there. -/
structure Cut where
  s : Sta
  st : V8
def Cut.cells (c : Cut) : List Value := [.int .i64 c.s.seen.a0, .int .i64 c.s.seen.a1, .int .i64 c.s.seen.a2, .int .i64 c.s.seen.a3, .int .i64 c.s.seen.a4, .int .i64 c.s.seen.a5, .int .i64 c.s.seen.a6, .int .i64 c.s.seen.a7, .slice c.s.nodes.a c.s.nodes.n c.s.nodes.c, .slice c.s.links.a c.s.links.n c.s.links.c,
  .int .i64 c.st.a0, .int .i64 c.st.a1, .int .i64 c.st.a2, .int .i64 c.st.a3, .int .i64 c.st.a4, .int .i64 c.st.a5, .int .i64 c.st.a6, .int .i64 c.st.a7]
theorem moved_1 (c : Cut) (l : Lnk) (g1 gc : Nat) (w : World) (h1 : Box w g1 #[.pointer (some ⟨gc, 0, none⟩)] 89) (hm : l.at_ = l.id) :
    Calls Try.prog 117 #[.agg (encK.cells l).toArray, .pointer (some ⟨g1, 0, none⟩)] w fun e w' => e = .returned (.bool false) ∧ Below w.heap.size w w' := by
  have hL := Loc.nil w NoM
  have hn := stamp_neql l.at_ l.id (r := true) (by simp [hm])
  unfold encK Lnk.cells
  simp only
  clear hm
  go_enter Try.func117, Try.ntmps117
  go_wp2_with (first | ((with_reducible refine gate (N := 2) rfl ?_); (refine lJ rfl hL rfl rfl cy ?_; clear hL; intro g2 w2 hL)) | ((with_reducible refine qD rfl rfl ?_); (refine lI rfl hL rfl cy ?_; clear hL; intro gq wq hL)) | ((with_reducible refine qE rfl rfl ?_); (refine lJ rfl hL rfl rfl cy ?_; clear hL; intro gq wq hL)) | ((with_reducible refine qB rfl rfl ?_); (first | (refine lC rfl hL rfl rfl HasV.mem (by rfl) ?_) | (refine lA rfl hL rfl rfl HasV.mem (by rfl) ?_) | (refine lF rfl hL rfl rfl HasV.mem SegC.seg ?_))) | ((with_reducible refine qC rfl rfl ?_); (first | (refine lH rfl hL rfl rfl rfl cy (by rfl) ?_) | (refine lG rfl hL rfl rfl rfl cy (by rfl) (by rfl) ?_)); clear hL; intro wq hL) | ((with_reducible refine qA rfl rfl ?_ ?_); (exact wz rfl rfl rfl (by with_reducible rfl)); (first | (refine lD (wz rfl rfl rfl rfl) hL rfl rfl HasV.mem (by rfl) ?_) | (refine lB (wz rfl rfl rfl rfl) hL rfl rfl HasV.mem (by rfl) ?_) | (refine lE (wz rfl rfl rfl rfl) hL rfl rfl HasV.mem SegC.seg ?_))))
  (try simp only [Act.put, zs, zt, zu])
  refine wp_region_ext (by kernel_rfl) (by kernel_rfl) ?_
  repeat (first | (go_big_quiet_want; (first | refine qH hL rfl rfl HasV.mem (by rfl) ?_ | refine qG hL rfl rfl HasV.mem (by rfl) ?_ | refine qI hL rfl rfl HasV.mem SegC.seg ?_); go_big_quiet_on; simp only [Act.put, zs, zt, zu]) | go_big_quiet_step (fail))
  refine wpQuiet_nil ?_
  rintro _ ⟨⟨w9, hb9⟩, rfl⟩
  replace hL := hL.call hb9
  go_wp2
  go_ret
  exact ⟨rfl, hL.below⟩
theorem idx_links (v : Value) (l : Lnk) (g1 gc : Nat) (w : World) (hl : encK.R w v [l]) (h1 : Box w g1 #[.pointer (some ⟨gc, 0, none⟩)] 89) (c : Cut) (hm : l.at_ = l.id) :
    Calls Try.prog 157 #[v, .func (.func 117) #[] #[.pointer (some ⟨g1, 0, none⟩)]] w fun e w' => e = .returned (.int .i64 (-1)) ∧ Below w.heap.size w w' := by
  have hL := Loc.nil w NoM
  obtain ⟨ao, cc, rfl, hel⟩ := R_elem hl
  obtain ⟨g, off, rfl, hr⟩ := hel 0 (by simp)
  have hz : w.rangeAt g (off + 0 * 25) (Lnk.cells l) := hr
  have hq := Lib.hid (fun wx hb => moved_1 c l g1 gc wx (h1.below hb) hm)
  unfold Lnk.cells at hz
  clear hl hel hr h1 hm
  simp only [List.length_singleton]
  go_enter Try.func157, Try.ntmps157
  go_wp2_with (first | ((with_reducible refine qD rfl rfl ?_); (refine lI rfl hL rfl cy ?_; clear hL; intro gq wq hL)) | ((with_reducible refine qE rfl rfl ?_); (refine lJ rfl hL rfl rfl cy ?_; clear hL; intro gq wq hL)) | ((with_reducible refine qB rfl rfl ?_); (first | (refine lC rfl hL rfl rfl HasV.mem (by rfl) ?_) | (refine lA rfl hL rfl rfl HasV.mem (by rfl) ?_) | (refine lF rfl hL rfl rfl HasV.mem SegC.seg ?_))) | ((with_reducible refine qC rfl rfl ?_); (first | (refine lH rfl hL rfl rfl rfl cy (by rfl) ?_) | (refine lG rfl hL rfl rfl rfl cy (by rfl) (by rfl) ?_)); clear hL; intro wq hL) | ((with_reducible refine qA rfl rfl ?_ ?_); (exact wz rfl rfl rfl (by with_reducible rfl)); (first | (refine lD (wz rfl rfl rfl rfl) hL rfl rfl HasV.mem (by rfl) ?_) | (refine lB (wz rfl rfl rfl rfl) hL rfl rfl HasV.mem (by rfl) ?_) | (refine lE (wz rfl rfl rfl rfl) hL rfl rfl HasV.mem SegC.seg ?_))))
  refine wp_loop_rounds 2 ?_
  rw [rounds_succ]
  go_wp2_with (first
    | ((with_reducible refine qF rfl rfl ?_); refine lL (i := 0) rfl rfl rfl rfl (by decide) ?_)
    | ((with_reducible refine gate (N := 15) rfl ?_); refine lK rfl rfl rfl hz (by rfl) ?_)
    | (go_at_call 117; (refine (hq.out _ hL.below).mono ?_); rintro e w9 ⟨rfl, hb9⟩; have hL := hL.call hb9; clear hb9)
    | ((with_reducible refine qD rfl rfl ?_); (refine lI rfl hL rfl cy ?_; clear hL; intro gq wq hL)) | ((with_reducible refine qE rfl rfl ?_); (refine lJ rfl hL rfl rfl cy ?_; clear hL; intro gq wq hL)) | ((with_reducible refine qB rfl rfl ?_); (first | (refine lC rfl hL rfl rfl HasV.mem (by rfl) ?_) | (refine lA rfl hL rfl rfl HasV.mem (by rfl) ?_) | (refine lF rfl hL rfl rfl HasV.mem SegC.seg ?_))) | ((with_reducible refine qC rfl rfl ?_); (first | (refine lH rfl hL rfl rfl rfl cy (by rfl) ?_) | (refine lG rfl hL rfl rfl rfl cy (by rfl) (by rfl) ?_)); clear hL; intro wq hL) | ((with_reducible refine qA rfl rfl ?_ ?_); (exact wz rfl rfl rfl (by with_reducible rfl)); (first | (refine lD (wz rfl rfl rfl rfl) hL rfl rfl HasV.mem (by rfl) ?_) | (refine lB (wz rfl rfl rfl rfl) hL rfl rfl HasV.mem (by rfl) ?_) | (refine lE (wz rfl rfl rfl rfl) hL rfl rfl HasV.mem SegC.seg ?_))))
  rw [rounds_succ]
  go_wp2
  go_ret
  exact ⟨rfl, hL.below⟩
theorem has_links (v : Value) (l : Lnk) (g1 gc : Nat) (w : World) (hl : encK.R w v [l]) (h1 : Box w g1 #[.pointer (some ⟨gc, 0, none⟩)] 89) (c : Cut) (hm : l.at_ = l.id) :
    Calls Try.prog 116 #[v, .func (.func 117) #[] #[.pointer (some ⟨g1, 0, none⟩)]] w fun e w' => e = .returned (.bool false) ∧ Below w.heap.size w w' := by
  have hL := Loc.nil w NoM
  have hq := Lib.hid (idx_links v l g1 gc w hl h1 c hm)
  clear hl h1 hm
  go_enter Try.func116, Try.ntmps116
  go_wp2_with (first
    | (go_at_call 157; (with_reducible refine hq.out.mono ?_); rintro e w9 ⟨rfl, hb9⟩; have hL := hL.call hb9; clear hb9)
    | ((with_reducible refine qD rfl rfl ?_); (refine lI rfl hL rfl cy ?_; clear hL; intro gq wq hL)) | ((with_reducible refine qE rfl rfl ?_); (refine lJ rfl hL rfl rfl cy ?_; clear hL; intro gq wq hL)) | ((with_reducible refine qB rfl rfl ?_); (first | (refine lC rfl hL rfl rfl HasV.mem (by rfl) ?_) | (refine lA rfl hL rfl rfl HasV.mem (by rfl) ?_) | (refine lF rfl hL rfl rfl HasV.mem SegC.seg ?_))) | ((with_reducible refine qC rfl rfl ?_); (first | (refine lH rfl hL rfl rfl rfl cy (by rfl) ?_) | (refine lG rfl hL rfl rfl rfl cy (by rfl) (by rfl) ?_)); clear hL; intro wq hL) | ((with_reducible refine qA rfl rfl ?_ ?_); (exact wz rfl rfl rfl (by with_reducible rfl)); (first | (refine lD (wz rfl rfl rfl rfl) hL rfl rfl HasV.mem (by rfl) ?_) | (refine lB (wz rfl rfl rfl rfl) hL rfl rfl HasV.mem (by rfl) ?_) | (refine lE (wz rfl rfl rfl rfl) hL rfl rfl HasV.mem SegC.seg ?_))))
  go_ret
  exact ⟨rfl, hL.below⟩
theorem cut_moved (c : Cut) (l : Lnk) (gc : Nat) (w : World) (hx : Box w gc c.cells.toArray 91) (hl : encK.R w c.s.links.val [l]) (hm : l.at_ = l.id) :
    Calls Try.prog 54 #[.pointer (some ⟨gc, 0, none⟩)] w fun e w' => e = .returned (.bool false) ∧ Below w.heap.size w w' := by
  have hL := Loc.nil w NoM
  have HL := Lib.hid hl
  have HM := Lib.hid hm
  unfold Cut.cells at hx
  unfold Sl.val at HL
  clear hl hm
  go_enter Try.func54, Try.ntmps54
  go_wp2_with (first
    | ((with_reducible refine gate (N := 1) rfl ?_); (refine lJ rfl hL rfl rfl cy ?_; clear hL; intro g1 w1 hL))
    | (go_at_call 116; have hq := has_links (.slice c.s.links.a c.s.links.n c.s.links.c) l g1 gc _ (HL.out.below hL.below) (hL.box (g := g1) HasV.mem) c HM.out; (with_reducible refine hq.mono ?_); rintro e w9 ⟨rfl, hb9⟩; clear hq; have hL := hL.call hb9; clear hb9)
    | ((with_reducible refine qB rfl rfl ?_); (first | (refine ev_loadB1 rfl (Loc.old hL hx not_noM) rfl rfl (by rfl) ?_) | (refine ev_loadBA rfl (Loc.old hL hx not_noM) rfl rfl (by repeat (first | exact .nil _ | with_reducible apply Seg.take | with_reducible apply Seg.skip)) ?_))) | ((with_reducible refine qA rfl rfl ?_ ?_); (exact wz rfl rfl rfl (by with_reducible rfl)); (refine ev_loadB1G (wz rfl rfl rfl rfl) (Loc.old hL hx not_noM) rfl rfl (by rfl) ?_))
    | ((with_reducible refine qD rfl rfl ?_); (refine lI rfl hL rfl cy ?_; clear hL; intro gq wq hL)) | ((with_reducible refine qE rfl rfl ?_); (refine lJ rfl hL rfl rfl cy ?_; clear hL; intro gq wq hL)) | ((with_reducible refine qB rfl rfl ?_); (first | (refine lC rfl hL rfl rfl HasV.mem (by rfl) ?_) | (refine lA rfl hL rfl rfl HasV.mem (by rfl) ?_) | (refine lF rfl hL rfl rfl HasV.mem SegC.seg ?_))) | ((with_reducible refine qC rfl rfl ?_); (first | (refine lH rfl hL rfl rfl rfl cy (by rfl) ?_) | (refine lG rfl hL rfl rfl rfl cy (by rfl) (by rfl) ?_)); clear hL; intro wq hL) | ((with_reducible refine qA rfl rfl ?_ ?_); (exact wz rfl rfl rfl (by with_reducible rfl)); (first | (refine lD (wz rfl rfl rfl rfl) hL rfl rfl HasV.mem (by rfl) ?_) | (refine lB (wz rfl rfl rfl rfl) hL rfl rfl HasV.mem (by rfl) ?_) | (refine lE (wz rfl rfl rfl rfl) hL rfl rfl HasV.mem SegC.seg ?_))))
  go_ret
  exact ⟨rfl, hL.below⟩
theorem laidOutP : laidOutB Try.prog = true := by kernel_rfl
theorem stamp_keyed : Keyed Try.prog 34 := Keyed.of_law (deep_law_laid laidOutP (m := 9) (by omega) (of_decide_eq_true (by kernel_rfl)) (by kernel_rfl) (by kernel_rfl))
/-- A map as it lies there. -/
def mraw (g : Nat) (es : Array MapEntry) (c : Nat) : Item := ⟨(· = g), fun w => w.heap[g]? = some (.map es c)⟩
theorem mraw_at {w : World} {g c : Nat} {es : Array MapEntry} (h : w.heap[g]? = some (.map es c)) : (mraw g es c).At w := ⟨h, fun k hk => by cases hk; exact (Array.getElem?_eq_some_iff.1 h).1, fun w' _ hb => (hb g rfl).trans h⟩
section
variable {ops : Array Oper} {rest : List Oper} {o : Oper} {a : Act} {Q : Exit → Act → World → Prop} {W w0 : World} {M : Nat → Prop} {l l' : List Item} {K t e : TypeId} {g : Nat}
theorem mod_set {W : World} {g : Nat} (ob : Obj) : Mod (· = g) W { W with heap := W.heap.setIfInBounds g ob } := ⟨rfl, rfl, rfl, by simp, fun k _ hk => by simp [Array.getElem?_setIfInBounds_ne (fun e : g = k => hk e.symm)]⟩
theorem heap_set {W : World} {g : Nat} (hg : g < W.heap.size) (ob : Obj) : ({ W with heap := W.heap.setIfInBounds g ob } : World).heap[g]? = some ob := by simp [hg]
theorem ev_mkmap (hgd : o.guard = none) (hL : Loc w0 M W l) (ho : o.op = .makeMap t none)
    (h : ∀ g w1, Loc w0 M w1 (mraw g #[] 0 :: l) → wpList Try.prog ops Q rest (a.put o.dst (.map (some g))) w1) : wpList Try.prog ops Q (o :: rest) a W := by
  refine event hgd (v := .map (some W.heap.size)) (w1 := W.alloc (.map #[] 0)) ?_ (h _ _ (hL.callNew (bl_alloc (Below.refl _ _) _) (mraw_at ?_) fun k hk => by cases hk; exact Nat.le_refl _))
  · simp [execOp, ho, Instr.makeMap, newObj, Sem.run]
  · show (W.heap.push (Obj.map #[] 0))[W.heap.size]? = _
    simp
theorem ev_mput0 {m x v : Operand} {k u : Value} {ly : Lit} (KL : Keyed Try.prog K) (ht : Try.prog.underlying t = some (.map K e)) (hgd : o.guard = none) (hL : Loc w0 M W l) (ho : o.op = .mapUpdate t m x v) (hm : a.eval m = .map (some g)) (hx : a.eval x = k) (hv : a.eval v = u) (hy : keyOf Try.prog K k = some ly)
    (hs : Swap (mraw g #[] 0) (mraw g #[⟨k, u, 0⟩] 1) l l') (h : ∀ w1, Loc w0 M w1 l' → wpList Try.prog ops Q rest (a.put o.dst undef) w1) : wpList Try.prog ops Q (o :: rest) a W := by
  have hb : W.heap[g]? = some (.map #[] 0) := hL.get hs.mem
  have hg : g < W.heap.size := (Array.getElem?_eq_some_iff.1 hb).1
  have hf : (Instr.findKey K k []).run Try.prog W = .ok none W := by
    rcases KL.find W hy [] (fun _ h => by cases h) with ⟨h1, -⟩ | ⟨j, e0, -, h2, -⟩
    · exact h1
    · simp at h2
  refine eventS hgd (w1 := { W with heap := W.heap.setIfInBounds g (.map #[⟨k, u, 0⟩] 1) }) ?_ (h _ (hL.swap hs ((mod_set _).mono fun k _ e => e) (mraw_at (heap_set hg _)) fun _ hk => .inl hk))
  simp [execOp, ho, hm, hx, hv, Instr.mapUpdate, run_underlying ht, MapKept.run_getObj_map hb, KL.check W _ hy, hf, MapKept.run_setObj_map _ hb, Result.andThen]
theorem ev_entry0 {m x : Operand} {k z : Value} {ly : Lit} [hz : ZeroT Try.prog e z] (KL : Keyed Try.prog K) (ht : Try.prog.underlying t = some (.map K e)) (hgd : o.guard = none) (hL : Loc w0 M W l) (ho : o.op = .mapEntry t m x) (hm : a.eval m = .map (some g)) (hx : a.eval x = k) (hy : keyOf Try.prog K k = some ly)
    (hs : Swap (mraw g #[] 0) (mraw g #[⟨k, z, 0⟩] 1) l l') (h : ∀ w1, Loc w0 M w1 l' → wpList Try.prog ops Q rest (a.put o.dst (.tuple #[z, .int .i64 0])) w1) : wpList Try.prog ops Q (o :: rest) a W := by
  have hb : W.heap[g]? = some (.map #[] 0) := hL.get hs.mem
  have hg : g < W.heap.size := (Array.getElem?_eq_some_iff.1 hb).1
  obtain ⟨i, hi2, hzz⟩ := Option.map_eq_some_iff.1 hz.zero
  have hzr : (zeroValue e).run Try.prog W = .ok z W := by simp [zeroValue, typeInfo, hi2, hzz]
  have hf : (Instr.findKey K k []).run Try.prog W = .ok none W := by
    rcases KL.find W hy [] (fun _ h => by cases h) with ⟨h1, -⟩ | ⟨j, e0, -, h2, -⟩
    · exact h1
    · simp at h2
  refine event hgd (v := .tuple #[z, .int .i64 0]) (w1 := { W with heap := W.heap.setIfInBounds g (.map #[⟨k, z, 0⟩] 1) }) ?_ (h _ (hL.swap hs ((mod_set _).mono fun k _ e => e) (mraw_at (heap_set hg _)) fun _ hk => .inl hk))
  simp [execOp, ho, hm, hx, Instr.mapEntry, run_underlying ht, MapKept.run_getObj_map hb, KL.check W _ hy, hf, hzr, MapKept.run_setObj_map _ hb, Result.andThen, goInt]
theorem ev_estore0 {m x v : Operand} {k z u : Value} (hgd : o.guard = none) (hL : Loc w0 M W l) (ho : o.op = .entryStore t m x v) (hm : a.eval m = .map (some g)) (hx : a.eval x = .int .i64 0) (hv : a.eval v = u)
    (hs : Swap (mraw g #[⟨k, z, 0⟩] 1) (mraw g #[⟨k, u, 0⟩] 1) l l') (h : ∀ w1, Loc w0 M w1 l' → wpList Try.prog ops Q rest (a.put o.dst undef) w1) : wpList Try.prog ops Q (o :: rest) a W := by
  have hb : W.heap[g]? = some (.map #[⟨k, z, 0⟩] 1) := hL.get hs.mem
  have hg : g < W.heap.size := (Array.getElem?_eq_some_iff.1 hb).1
  refine eventS hgd (w1 := { W with heap := W.heap.setIfInBounds g (.map #[⟨k, u, 0⟩] 1) }) ?_ (h _ (hL.swap hs ((mod_set _).mono fun k _ e => e) (mraw_at (heap_set hg _)) fun _ hk => .inl hk))
  simp [execOp, ho, hm, hx, hv, Instr.entryStore, MapKept.run_getObj_map hb, MapKept.run_setObj_map _ hb, Result.andThen, asInt, asIntOf]
theorem ev_make1 {x y : Operand} {z : Value} {by_ : Nat} [hz : ZeroT Try.prog e z] [hsz : SizeT Try.prog e 1] [hb : BytesT Try.prog e by_] (ht : Try.prog.underlying t = some (.slice e)) (hz1 : z.cells = #[z]) (hby : decide (by_ ≤ 1000) = true) (hgd : o.guard = none) (hL : Loc w0 M W l) (ho : o.op = .makeSlice t x y) (hx : a.eval x = .int .i64 1) (hy : a.eval y = .int .i64 1)
    (h : ∀ g w1, Loc w0 M w1 (var g [z] e :: l) → wpList Try.prog ops Q rest (a.put o.dst (.slice (some ⟨g, 0, none⟩) 1 1)) w1) : wpList Try.prog ops Q (o :: rest) a W := by
  have h1 := run_make_row' (P := Try.prog) t e z by_ ht (info_of (P := Try.prog) (e := e)) hz1 .i64 .i64 1 (by have := of_decide_eq_true hby; omega) (by omega) W
  refine event hgd (v := .slice (some ⟨W.heap.size, 0, none⟩) 1 1) (w1 := W.alloc (.cells #[z] e)) ?_ (h _ _ (hL.callVar (bl_alloc (Below.refl _ _) _) (Box.new W _ e) (Nat.le_refl _)))
  simp only [execOp, ho, hx, hy]
  have h2 : madeCells #[z] 1 = #[z] := by
    have h0 : Array.range 1 = #[0] := by decide
    unfold madeCells
    rw [h0]
    simp
  rw [h2] at h1
  have h3 : (Instr.makeSlice t (.int .i64 1) (.int .i64 1)).run Try.prog W = .ok (.slice (some ⟨W.heap.size, 0, none⟩) 1 1) (W.alloc (.cells #[z] e)) := h1
  simp [h3]
end
end Go.Proofs.Ytebpacmhdkgfeaa

/- Package join: pruning a state of one link that all know to be gone. -/
namespace Go.Proofs.Ytebpacmhdkgfeaa
open Go.RowKit Go.Maps Go.WideMaps
set_option maxHeartbeats 8000000
set_option maxRecDepth 100000
theorem Loc.openVar {w : World} {g : Nat} {cs : List Value} {t : TypeId} (h : Box w g cs.toArray t) : Loc w (· = g) w [var g cs t] :=
  ⟨.refl _ _, fun i hi => by rw [List.mem_singleton.1 hi]; exact var_at h, fun i hi k hk => by rw [List.mem_singleton.1 hi] at hk; exact .inr hk, List.pairwise_singleton _ _⟩
theorem alive_ext {W : World} {e : Ext W} (l : Lnk) (r : Bool) (h : (!l.alive.within l.dead) = r) : Calls Try.prog 35 #[.agg (encK.cells l).toArray] e.w fun en w'' => en = .returned (.bool r) ∧ ∃ z : Ext W, w'' = z.w := h ▸ calls_ext (join_alive l e.w)
theorem within_ext {W : World} {e : Ext W} (a b : V8) (r : Bool) (h : a.within b = r) : Calls Try.prog 89 #[.agg #[.int .i64 a.a0, .int .i64 a.a1, .int .i64 a.a2, .int .i64 a.a3, .int .i64 a.a4, .int .i64 a.a5, .int .i64 a.a6, .int .i64 a.a7], .agg #[.int .i64 b.a0, .int .i64 b.a1, .int .i64 b.a2, .int .i64 b.a3, .int .i64 b.a4, .int .i64 b.a5, .int .i64 b.a6, .int .i64 b.a7]] e.w fun en w'' => en = .returned (.bool r) ∧ ∃ z : Ext W, w'' = z.w := h ▸ calls_ext (vec_within a b e.w)
theorem vhas_ext {W : World} {e : Ext W} (a : V8) (m : Mk) (r : Bool) (h : a.has m = r) : Calls Try.prog 118 #[.agg #[.int .i64 a.a0, .int .i64 a.a1, .int .i64 a.a2, .int .i64 a.a3, .int .i64 a.a4, .int .i64 a.a5, .int .i64 a.a6, .int .i64 a.a7], .agg #[.int .i64 m.boot, .int .i64 m.n]] e.w fun en w'' => en = .returned (.bool r) ∧ ∃ z : Ext W, w'' = z.w := h ▸ calls_ext (vec_has a m e.w)
theorem meet_ext {W : World} {e : Ext W} (a b c : V8) (h : a.meet b = c) : Calls Try.prog 51 #[.agg #[.int .i64 a.a0, .int .i64 a.a1, .int .i64 a.a2, .int .i64 a.a3, .int .i64 a.a4, .int .i64 a.a5, .int .i64 a.a6, .int .i64 a.a7], .agg #[.int .i64 b.a0, .int .i64 b.a1, .int .i64 b.a2, .int .i64 b.a3, .int .i64 b.a4, .int .i64 b.a5, .int .i64 b.a6, .int .i64 b.a7]] e.w fun en w'' => en = .returned (.agg #[.int .i64 c.a0, .int .i64 c.a1, .int .i64 c.a2, .int .i64 c.a3, .int .i64 c.a4, .int .i64 c.a5, .int .i64 c.a6, .int .i64 c.a7]) ∧ ∃ z : Ext W, w'' = z.w :=
  calls_ext ((vec_meet a b e.w).mono fun _ _ ⟨⟨c', e1, e2⟩, hb⟩ => by subst e1; subst h; exact ⟨e2, hb⟩)
theorem cut_shown (sv st : V8) (nv : Sl) (l : Lnk) (gl lc gc : Nat) (w : World) (hx : Box w gc ([.int .i64 sv.a0, .int .i64 sv.a1, .int .i64 sv.a2, .int .i64 sv.a3, .int .i64 sv.a4, .int .i64 sv.a5, .int .i64 sv.a6, .int .i64 sv.a7, .slice nv.a nv.n nv.c, .slice (some ⟨gl, 0, none⟩) 1 lc, .int .i64 st.a0, .int .i64 st.a1, .int .i64 st.a2, .int .i64 st.a3, .int .i64 st.a4, .int .i64 st.a5, .int .i64 st.a6, .int .i64 st.a7] : List Value).toArray 91) (hl : encK.R w (.slice (some ⟨gl, 0, none⟩) 1 lc) [l]) (hal : l.alive.within l.dead = true) (hk : ∃ ly, keyOf Try.prog 34 (.agg #[.int .i64 l.node.boot, .int .i64 l.node.n]) = some ly) :
    Calls Try.prog 119 #[.pointer (some ⟨gc, 0, none⟩)] w fun e w' => ∃ g, e = .returned (.slice (some ⟨g, 0, none⟩) 1 1) ∧ Loc w NoM w' [var g [.bool false] 4] := by
  have hL := Loc.nil w NoM
  obtain ⟨ly, hky0⟩ := hk
  have HKY := Lib.hid hky0
  clear hky0
  obtain ⟨ao, cc, e1, hel⟩ := R_elem hl
  obtain ⟨g, off, e2, hr⟩ := hel 0 (by simp)
  rw [e2] at e1
  injection e1 with e1 e5 e6
  clear e5 e6
  injection e1 with e1
  injection e1 with e3 e4
  subst e3 e4
  have hz : w.rangeAt gl (0 + 0 * 25) (Lnk.cells l) := hr
  have hal2 : (!l.alive.within l.dead) = false := by rw [hal]; rfl
  have hqa := Lib.hid (fun wx => (show Calls Try.prog 35 #[.agg (encK.cells l).toArray] wx (fun e w' => e = .returned (.bool false) ∧ Below wx.heap.size wx w') from by
    have h9 := join_alive l wx
    rw [hal2] at h9
    exact h9))
  unfold Lnk.cells at hz
  clear hal2
  clear hl hel hr e2 hal
  go_enter Try.func119, Try.ntmps119
  go_wp2_with (first
    | ((with_reducible refine gate (N := 10) rfl ?_); refine ev_mkmap rfl hL rfl ?_; clear hL; intro gm wq hL)
    | ((with_reducible refine qB rfl rfl ?_); (first | (refine ev_loadB1 rfl (Loc.old hL hx not_noM) rfl rfl (by rfl) ?_) | (refine ev_loadBA rfl (Loc.old hL hx not_noM) rfl rfl (by repeat (first | exact .nil _ | with_reducible apply Seg.take | with_reducible apply Seg.skip)) ?_))) | ((with_reducible refine qA rfl rfl ?_ ?_); (exact wz rfl rfl rfl (by with_reducible rfl)); (refine ev_loadB1G (wz rfl rfl rfl rfl) (Loc.old hL hx not_noM) rfl rfl (by rfl) ?_))
    | ((with_reducible refine qD rfl rfl ?_); (refine lI rfl hL rfl cy ?_; clear hL; intro gq wq hL)) | ((with_reducible refine qE rfl rfl ?_); (refine lJ rfl hL rfl rfl cy ?_; clear hL; intro gq wq hL)) | ((with_reducible refine qB rfl rfl ?_); (first | (refine lC rfl hL rfl rfl HasV.mem (by rfl) ?_) | (refine lA rfl hL rfl rfl HasV.mem (by rfl) ?_) | (refine lF rfl hL rfl rfl HasV.mem SegC.seg ?_))) | ((with_reducible refine qC rfl rfl ?_); (first | (refine lH rfl hL rfl rfl rfl cy (by rfl) ?_) | (refine lG rfl hL rfl rfl rfl cy (by rfl) (by rfl) ?_)); clear hL; intro wq hL) | ((with_reducible refine qA rfl rfl ?_ ?_); (exact wz rfl rfl rfl (by with_reducible rfl)); (first | (refine lD (wz rfl rfl rfl rfl) hL rfl rfl HasV.mem (by rfl) ?_) | (refine lB (wz rfl rfl rfl rfl) hL rfl rfl HasV.mem (by rfl) ?_) | (refine lE (wz rfl rfl rfl rfl) hL rfl rfl HasV.mem SegC.seg ?_))))
  refine wp_loop_rounds 2 ?_
  rw [rounds_succ]
  go_wp2_with (first
    | ((with_reducible refine qF rfl rfl ?_); refine lL (i := 0) rfl rfl rfl rfl (by decide) ?_)
    | ((with_reducible refine gate (N := 21) rfl ?_); refine lK rfl rfl rfl (range_below hz hL.below) (by rfl) ?_)
    | ((with_reducible refine qB rfl rfl ?_); (first | (refine ev_loadB1 rfl (Loc.old hL hx not_noM) rfl rfl (by rfl) ?_) | (refine ev_loadBA rfl (Loc.old hL hx not_noM) rfl rfl (by repeat (first | exact .nil _ | with_reducible apply Seg.take | with_reducible apply Seg.skip)) ?_))) | ((with_reducible refine qA rfl rfl ?_ ?_); (exact wz rfl rfl rfl (by with_reducible rfl)); (refine ev_loadB1G (wz rfl rfl rfl rfl) (Loc.old hL hx not_noM) rfl rfl (by rfl) ?_))
    | ((with_reducible refine qD rfl rfl ?_); (refine lI rfl hL rfl cy ?_; clear hL; intro gq wq hL)) | ((with_reducible refine qE rfl rfl ?_); (refine lJ rfl hL rfl rfl cy ?_; clear hL; intro gq wq hL)) | ((with_reducible refine qB rfl rfl ?_); (first | (refine lC rfl hL rfl rfl HasV.mem (by rfl) ?_) | (refine lA rfl hL rfl rfl HasV.mem (by rfl) ?_) | (refine lF rfl hL rfl rfl HasV.mem SegC.seg ?_))) | ((with_reducible refine qC rfl rfl ?_); (first | (refine lH rfl hL rfl rfl rfl cy (by rfl) ?_) | (refine lG rfl hL rfl rfl rfl cy (by rfl) (by rfl) ?_)); clear hL; intro wq hL) | ((with_reducible refine qA rfl rfl ?_ ?_); (exact wz rfl rfl rfl (by with_reducible rfl)); (first | (refine lD (wz rfl rfl rfl rfl) hL rfl rfl HasV.mem (by rfl) ?_) | (refine lB (wz rfl rfl rfl rfl) hL rfl rfl HasV.mem (by rfl) ?_) | (refine lE (wz rfl rfl rfl rfl) hL rfl rfl HasV.mem SegC.seg ?_)))
    | (refine ev_mput0 (K := 34) (e := 3) stamp_keyed Try.underlying95 rfl hL rfl rfl rfl rfl HKY.out sx ?_; clear hL; intro wq hL))
  rw [rounds_succ]
  go_wp2_with (first
    | ((with_reducible refine gate (N := 33) rfl ?_); refine ev_make1 (e := 4) Try.underlying52 rfl (by decide) rfl hL rfl rfl rfl ?_; clear hL; intro g33 wq hL)
    | ((with_reducible refine qB rfl rfl ?_); (first | (refine ev_loadB1 rfl (Loc.old hL hx not_noM) rfl rfl (by rfl) ?_) | (refine ev_loadBA rfl (Loc.old hL hx not_noM) rfl rfl (by repeat (first | exact .nil _ | with_reducible apply Seg.take | with_reducible apply Seg.skip)) ?_))) | ((with_reducible refine qA rfl rfl ?_ ?_); (exact wz rfl rfl rfl (by with_reducible rfl)); (refine ev_loadB1G (wz rfl rfl rfl rfl) (Loc.old hL hx not_noM) rfl rfl (by rfl) ?_))
    | ((with_reducible refine qD rfl rfl ?_); (refine lI rfl hL rfl cy ?_; clear hL; intro gq wq hL)) | ((with_reducible refine qE rfl rfl ?_); (refine lJ rfl hL rfl rfl cy ?_; clear hL; intro gq wq hL)) | ((with_reducible refine qB rfl rfl ?_); (first | (refine lC rfl hL rfl rfl HasV.mem (by rfl) ?_) | (refine lA rfl hL rfl rfl HasV.mem (by rfl) ?_) | (refine lF rfl hL rfl rfl HasV.mem SegC.seg ?_))) | ((with_reducible refine qC rfl rfl ?_); (first | (refine lH rfl hL rfl rfl rfl cy (by rfl) ?_) | (refine lG rfl hL rfl rfl rfl cy (by rfl) (by rfl) ?_)); clear hL; intro wq hL) | ((with_reducible refine qA rfl rfl ?_ ?_); (exact wz rfl rfl rfl (by with_reducible rfl)); (first | (refine lD (wz rfl rfl rfl rfl) hL rfl rfl HasV.mem (by rfl) ?_) | (refine lB (wz rfl rfl rfl rfl) hL rfl rfl HasV.mem (by rfl) ?_) | (refine lE (wz rfl rfl rfl rfl) hL rfl rfl HasV.mem SegC.seg ?_))))
  refine wp_loop_rounds 2 ?_
  rw [rounds_succ]
  go_wp2_with (first
    | ((with_reducible refine qF rfl rfl ?_); refine lL (i := 0) rfl rfl rfl rfl (by decide) ?_)
    | ((with_reducible refine gate (N := 44) rfl ?_); refine lK rfl rfl rfl (range_below hz hL.below) (by rfl) ?_)
    | (go_at_call 35; (refine (hqa.out _).mono ?_); rintro e w9 ⟨rfl, hb9⟩; have hL := hL.call hb9; clear hb9)
    | ((with_reducible refine qB rfl rfl ?_); (first | (refine ev_loadB1 rfl (Loc.old hL hx not_noM) rfl rfl (by rfl) ?_) | (refine ev_loadBA rfl (Loc.old hL hx not_noM) rfl rfl (by repeat (first | exact .nil _ | with_reducible apply Seg.take | with_reducible apply Seg.skip)) ?_))) | ((with_reducible refine qA rfl rfl ?_ ?_); (exact wz rfl rfl rfl (by with_reducible rfl)); (refine ev_loadB1G (wz rfl rfl rfl rfl) (Loc.old hL hx not_noM) rfl rfl (by rfl) ?_))
    | ((with_reducible refine qD rfl rfl ?_); (refine lI rfl hL rfl cy ?_; clear hL; intro gq wq hL)) | ((with_reducible refine qE rfl rfl ?_); (refine lJ rfl hL rfl rfl cy ?_; clear hL; intro gq wq hL)) | ((with_reducible refine qB rfl rfl ?_); (first | (refine lC rfl hL rfl rfl HasV.mem (by rfl) ?_) | (refine lA rfl hL rfl rfl HasV.mem (by rfl) ?_) | (refine lF rfl hL rfl rfl HasV.mem SegC.seg ?_))) | ((with_reducible refine qC rfl rfl ?_); (first | (refine lH rfl hL rfl rfl rfl cy (by rfl) ?_) | (refine lG rfl hL rfl rfl rfl cy (by rfl) (by rfl) ?_)); clear hL; intro wq hL) | ((with_reducible refine qA rfl rfl ?_ ?_); (exact wz rfl rfl rfl (by with_reducible rfl)); (first | (refine lD (wz rfl rfl rfl rfl) hL rfl rfl HasV.mem (by rfl) ?_) | (refine lB (wz rfl rfl rfl rfl) hL rfl rfl HasV.mem (by rfl) ?_) | (refine lE (wz rfl rfl rfl rfl) hL rfl rfl HasV.mem SegC.seg ?_))))
  refine wp_loop_rounds 1 ?_
  rw [rounds_succ]
  go_wp2_with (first | ((with_reducible refine qD rfl rfl ?_); (refine lI rfl hL rfl cy ?_; clear hL; intro gq wq hL)) | ((with_reducible refine qE rfl rfl ?_); (refine lJ rfl hL rfl rfl cy ?_; clear hL; intro gq wq hL)) | ((with_reducible refine qB rfl rfl ?_); (first | (refine lC rfl hL rfl rfl HasV.mem (by rfl) ?_) | (refine lA rfl hL rfl rfl HasV.mem (by rfl) ?_) | (refine lF rfl hL rfl rfl HasV.mem SegC.seg ?_))) | ((with_reducible refine qC rfl rfl ?_); (first | (refine lH rfl hL rfl rfl rfl cy (by rfl) ?_) | (refine lG rfl hL rfl rfl rfl cy (by rfl) (by rfl) ?_)); clear hL; intro wq hL) | ((with_reducible refine qA rfl rfl ?_ ?_); (exact wz rfl rfl rfl (by with_reducible rfl)); (first | (refine lD (wz rfl rfl rfl rfl) hL rfl rfl HasV.mem (by rfl) ?_) | (refine lB (wz rfl rfl rfl rfl) hL rfl rfl HasV.mem (by rfl) ?_) | (refine lE (wz rfl rfl rfl rfl) hL rfl rfl HasV.mem SegC.seg ?_))))
  rw [rounds_succ]
  go_wp2_with (first | ((with_reducible refine qD rfl rfl ?_); (refine lI rfl hL rfl cy ?_; clear hL; intro gq wq hL)) | ((with_reducible refine qE rfl rfl ?_); (refine lJ rfl hL rfl rfl cy ?_; clear hL; intro gq wq hL)) | ((with_reducible refine qB rfl rfl ?_); (first | (refine lC rfl hL rfl rfl HasV.mem (by rfl) ?_) | (refine lA rfl hL rfl rfl HasV.mem (by rfl) ?_) | (refine lF rfl hL rfl rfl HasV.mem SegC.seg ?_))) | ((with_reducible refine qC rfl rfl ?_); (first | (refine lH rfl hL rfl rfl rfl cy (by rfl) ?_) | (refine lG rfl hL rfl rfl rfl cy (by rfl) (by rfl) ?_)); clear hL; intro wq hL) | ((with_reducible refine qA rfl rfl ?_ ?_); (exact wz rfl rfl rfl (by with_reducible rfl)); (first | (refine lD (wz rfl rfl rfl rfl) hL rfl rfl HasV.mem (by rfl) ?_) | (refine lB (wz rfl rfl rfl rfl) hL rfl rfl HasV.mem (by rfl) ?_) | (refine lE (wz rfl rfl rfl rfl) hL rfl rfl HasV.mem SegC.seg ?_))))
  go_ret
  exact ⟨_, rfl, hL.sub (by repeat (first | exact List.nil_sublist _ | apply List.Sublist.cons_cons | apply List.Sublist.cons))⟩
theorem cut_links (sv st : V8) (nv : Sl) (l : Lnk) (gl lc gc b : Nat) (w0 w : World) (M : Nat → Prop) (T : List Item) (hL : Loc w0 M w (var gc [.int .i64 sv.a0, .int .i64 sv.a1, .int .i64 sv.a2, .int .i64 sv.a3, .int .i64 sv.a4, .int .i64 sv.a5, .int .i64 sv.a6, .int .i64 sv.a7, .slice nv.a nv.n nv.c, .slice (some ⟨gl, 0, none⟩) 1 lc, .int .i64 st.a0, .int .i64 st.a1, .int .i64 st.a2, .int .i64 st.a3, .int .i64 st.a4, .int .i64 st.a5, .int .i64 st.a6, .int .i64 st.a7] 91 :: row encK b 48 (.slice (some ⟨gl, 0, none⟩) 1 lc) [l] :: T)) (hal : l.alive.within l.dead = true) (h1 : l.alive.within st = true) (h2 : l.dead.within st = true) (h3 : st.has l.at_ = true) (hk : ∃ ly, keyOf Try.prog 34 (.agg #[.int .i64 l.node.boot, .int .i64 l.node.n]) = some ly) :
    Calls Try.prog 55 #[.pointer (some ⟨gc, 0, none⟩)] w fun e w' => e = .returned (.tuple #[]) ∧ Loc w0 M w' (var gc [.int .i64 sv.a0, .int .i64 sv.a1, .int .i64 sv.a2, .int .i64 sv.a3, .int .i64 sv.a4, .int .i64 sv.a5, .int .i64 sv.a6, .int .i64 sv.a7, .slice nv.a nv.n nv.c, .slice none 0 0, .int .i64 st.a0, .int .i64 st.a1, .int .i64 st.a2, .int .i64 st.a3, .int .i64 st.a4, .int .i64 st.a5, .int .i64 st.a6, .int .i64 st.a7] 91 :: row encK b 48 (.slice (some ⟨gl, 0, none⟩) 1 lc) [l] :: T) := by
  have hsh := Lib.hid (cut_shown sv st nv l gl lc gc w (hL.box (.head _)) (hL.own (.tail _ (.head _))).read hal hk)
  obtain ⟨ly, hky0⟩ := hk
  have HKY := Lib.hid hky0
  have HA := Lib.hid h1
  have HD := Lib.hid h2
  have HH := Lib.hid h3
  have HZ : Hid (∀ (l' : List Item) (w' : World), Loc w0 M w' l' → row encK b 48 (.slice (some ⟨gl, 0, none⟩) 1 lc) [l] ∈ l' → w'.rangeAt gl (0 + 0 * 25) (Lnk.cells l)) := Lib.hid (fun l' w' h hm => by
    have := row_range (h.own (E := encK) hm) (y := l) (i := 0) rfl
    exact this)
  clear hky0 h1 h2 h3 hal
  go_enter Try.func55, Try.ntmps55
  go_wp2_with (first
    | (go_at_call 119; (with_reducible refine hsh.out.mono ?_); rintro e w9 ⟨gs, rfl, hL9⟩; replace hL := hL.takeAll hL9; simp only [List.cons_append, List.nil_append] at hL; clear hsh hL9)
    | ((with_reducible refine gate (N := 16) rfl ?_); refine ev_mkmap rfl hL rfl ?_; clear hL; intro gm wq hL)
    | ((with_reducible refine qD rfl rfl ?_); (refine lI rfl hL rfl cy ?_; clear hL; intro gq wq hL)) | ((with_reducible refine qE rfl rfl ?_); (refine lJ rfl hL rfl rfl cy ?_; clear hL; intro gq wq hL)) | ((with_reducible refine qB rfl rfl ?_); (first | (refine lC rfl hL rfl rfl HasV.mem (by rfl) ?_) | (refine lA rfl hL rfl rfl HasV.mem (by rfl) ?_) | (refine lF rfl hL rfl rfl HasV.mem SegC.seg ?_))) | ((with_reducible refine qC rfl rfl ?_); (first | (refine lH rfl hL rfl rfl rfl cy (by rfl) ?_) | (refine lG rfl hL rfl rfl rfl cy (by rfl) (by rfl) ?_)); clear hL; intro wq hL) | ((with_reducible refine qA rfl rfl ?_ ?_); (exact wz rfl rfl rfl (by with_reducible rfl)); (first | (refine lD (wz rfl rfl rfl rfl) hL rfl rfl HasV.mem (by rfl) ?_) | (refine lB (wz rfl rfl rfl rfl) hL rfl rfl HasV.mem (by rfl) ?_) | (refine lE (wz rfl rfl rfl rfl) hL rfl rfl HasV.mem SegC.seg ?_))))
  refine wp_loop_rounds 2 ?_
  rw [rounds_succ]
  have hz := HZ.out _ _ hL (.tail _ (.tail _ (.tail _ (.head _))))
  unfold Lnk.cells at hz
  go_wp2_with (first
    | ((with_reducible refine qF rfl rfl ?_); refine lL (i := 0) rfl rfl rfl rfl (by decide) ?_)
    | ((with_reducible refine gate (N := 27) rfl ?_); refine lK rfl rfl rfl hz (by rfl) ?_)
    | ((with_reducible refine qD rfl rfl ?_); (refine lI rfl hL rfl cy ?_; clear hL; intro gq wq hL)) | ((with_reducible refine qE rfl rfl ?_); (refine lJ rfl hL rfl rfl cy ?_; clear hL; intro gq wq hL)) | ((with_reducible refine qB rfl rfl ?_); (first | (refine lC rfl hL rfl rfl HasV.mem (by rfl) ?_) | (refine lA rfl hL rfl rfl HasV.mem (by rfl) ?_) | (refine lF rfl hL rfl rfl HasV.mem SegC.seg ?_))) | ((with_reducible refine qC rfl rfl ?_); (first | (refine lH rfl hL rfl rfl rfl cy (by rfl) ?_) | (refine lG rfl hL rfl rfl rfl cy (by rfl) (by rfl) ?_)); clear hL; intro wq hL) | ((with_reducible refine qA rfl rfl ?_ ?_); (exact wz rfl rfl rfl (by with_reducible rfl)); (first | (refine lD (wz rfl rfl rfl rfl) hL rfl rfl HasV.mem (by rfl) ?_) | (refine lB (wz rfl rfl rfl rfl) hL rfl rfl HasV.mem (by rfl) ?_) | (refine lE (wz rfl rfl rfl rfl) hL rfl rfl HasV.mem SegC.seg ?_)))
    | ((with_reducible refine gate (N := 33) rfl ?_); refine lM (cs := [.int .i64 0]) rfl hL rfl rfl rfl (by kernel_rfl) ?_; clear hL; intro g33 wq hL; replace hL := hL.rowNil' (encI .i64) w0.heap.size 3)
    | ((with_reducible refine gate (N := 34) rfl ?_); refine ev_entry0 (K := 34) (e := 154) stamp_keyed Try.underlying153 rfl hL rfl rfl rfl HKY.out sx ?_; clear hL; intro wq hL)
    | (at_builtin; refine ev_app1L (E := encI .i64) (base := w0.heap.size) (xs := []) 0 rfl hL rfl rfl rfl mx (fun _ => sx) rfl rfl rfl (by simp) hL.size ?_; clear hL; intro ao' c' wq hL)
    | (refine ev_estore0 rfl hL rfl rfl rfl rfl sx ?_; clear hL; intro wq hL))
  (try simp only [Act.put, zs, zt, zu])
  refine wp_region_ext (by kernel_rfl) (by kernel_rfl) ?_
  repeat (first
    | (go_big_quiet_want; (first | refine qH hL rfl rfl HasV.mem (by rfl) ?_ | refine qG hL rfl rfl HasV.mem (by rfl) ?_ | refine qI hL rfl rfl HasV.mem SegC.seg ?_); go_big_quiet_on; simp only [Act.put, zs, zt, zu])
    | go_big_quiet_step (first | (go_at_call 89; with_reducible exact within_ext l.alive st true HA.out) | (go_at_call 89; with_reducible exact within_ext l.dead st true HD.out) | (go_at_call 118; with_reducible exact vhas_ext st l.at_ true HH.out)))
  refine wpQuiet_nil ?_
  rintro _ ⟨⟨w10, hb10⟩, rfl⟩
  replace hL := hL.call hb10
  clear hb10 hz
  go_wp2_with (first
    | ((with_reducible refine qF rfl rfl ?_); refine lL (i := 0) rfl rfl rfl rfl (by decide) ?_)
    | ((with_reducible refine qD rfl rfl ?_); (refine lI rfl hL rfl cy ?_; clear hL; intro gq wq hL)) | ((with_reducible refine qE rfl rfl ?_); (refine lJ rfl hL rfl rfl cy ?_; clear hL; intro gq wq hL)) | ((with_reducible refine qB rfl rfl ?_); (first | (refine lC rfl hL rfl rfl HasV.mem (by rfl) ?_) | (refine lA rfl hL rfl rfl HasV.mem (by rfl) ?_) | (refine lF rfl hL rfl rfl HasV.mem SegC.seg ?_))) | ((with_reducible refine qC rfl rfl ?_); (first | (refine lH rfl hL rfl rfl rfl cy (by rfl) ?_) | (refine lG rfl hL rfl rfl rfl cy (by rfl) (by rfl) ?_)); clear hL; intro wq hL) | ((with_reducible refine qA rfl rfl ?_ ?_); (exact wz rfl rfl rfl (by with_reducible rfl)); (first | (refine lD (wz rfl rfl rfl rfl) hL rfl rfl HasV.mem (by rfl) ?_) | (refine lB (wz rfl rfl rfl rfl) hL rfl rfl HasV.mem (by rfl) ?_) | (refine lE (wz rfl rfl rfl rfl) hL rfl rfl HasV.mem SegC.seg ?_))))
  rw [rounds_succ]
  go_wp2_with (first | ((with_reducible refine qD rfl rfl ?_); (refine lI rfl hL rfl cy ?_; clear hL; intro gq wq hL)) | ((with_reducible refine qE rfl rfl ?_); (refine lJ rfl hL rfl rfl cy ?_; clear hL; intro gq wq hL)) | ((with_reducible refine qB rfl rfl ?_); (first | (refine lC rfl hL rfl rfl HasV.mem (by rfl) ?_) | (refine lA rfl hL rfl rfl HasV.mem (by rfl) ?_) | (refine lF rfl hL rfl rfl HasV.mem SegC.seg ?_))) | ((with_reducible refine qC rfl rfl ?_); (first | (refine lH rfl hL rfl rfl rfl cy (by rfl) ?_) | (refine lG rfl hL rfl rfl rfl cy (by rfl) (by rfl) ?_)); clear hL; intro wq hL) | ((with_reducible refine qA rfl rfl ?_ ?_); (exact wz rfl rfl rfl (by with_reducible rfl)); (first | (refine lD (wz rfl rfl rfl rfl) hL rfl rfl HasV.mem (by rfl) ?_) | (refine lB (wz rfl rfl rfl rfl) hL rfl rfl HasV.mem (by rfl) ?_) | (refine lE (wz rfl rfl rfl rfl) hL rfl rfl HasV.mem SegC.seg ?_))))
  refine wp_loop_rounds 1 ?_
  rw [rounds_succ]
  go_wp2_with (first | ((with_reducible refine qD rfl rfl ?_); (refine lI rfl hL rfl cy ?_; clear hL; intro gq wq hL)) | ((with_reducible refine qE rfl rfl ?_); (refine lJ rfl hL rfl rfl cy ?_; clear hL; intro gq wq hL)) | ((with_reducible refine qB rfl rfl ?_); (first | (refine lC rfl hL rfl rfl HasV.mem (by rfl) ?_) | (refine lA rfl hL rfl rfl HasV.mem (by rfl) ?_) | (refine lF rfl hL rfl rfl HasV.mem SegC.seg ?_))) | ((with_reducible refine qC rfl rfl ?_); (first | (refine lH rfl hL rfl rfl rfl cy (by rfl) ?_) | (refine lG rfl hL rfl rfl rfl cy (by rfl) (by rfl) ?_)); clear hL; intro wq hL) | ((with_reducible refine qA rfl rfl ?_ ?_); (exact wz rfl rfl rfl (by with_reducible rfl)); (first | (refine lD (wz rfl rfl rfl rfl) hL rfl rfl HasV.mem (by rfl) ?_) | (refine lB (wz rfl rfl rfl rfl) hL rfl rfl HasV.mem (by rfl) ?_) | (refine lE (wz rfl rfl rfl rfl) hL rfl rfl HasV.mem SegC.seg ?_))))
  refine wp_loop_rounds 2 ?_
  rw [rounds_succ]
  have hz := HZ.out _ _ hL mx
  unfold Lnk.cells at hz
  go_wp2_with (first
    | ((with_reducible refine qF rfl rfl ?_); refine lL (i := 0) rfl rfl rfl rfl (by decide) ?_)
    | ((with_reducible refine gate (N := 129) rfl ?_); refine lK rfl rfl rfl hz (by rfl) ?_)
    | ((with_reducible refine qD rfl rfl ?_); (refine lI rfl hL rfl cy ?_; clear hL; intro gq wq hL)) | ((with_reducible refine qE rfl rfl ?_); (refine lJ rfl hL rfl rfl cy ?_; clear hL; intro gq wq hL)) | ((with_reducible refine qB rfl rfl ?_); (first | (refine lC rfl hL rfl rfl HasV.mem (by rfl) ?_) | (refine lA rfl hL rfl rfl HasV.mem (by rfl) ?_) | (refine lF rfl hL rfl rfl HasV.mem SegC.seg ?_))) | ((with_reducible refine qC rfl rfl ?_); (first | (refine lH rfl hL rfl rfl rfl cy (by rfl) ?_) | (refine lG rfl hL rfl rfl rfl cy (by rfl) (by rfl) ?_)); clear hL; intro wq hL) | ((with_reducible refine qA rfl rfl ?_ ?_); (exact wz rfl rfl rfl (by with_reducible rfl)); (first | (refine lD (wz rfl rfl rfl rfl) hL rfl rfl HasV.mem (by rfl) ?_) | (refine lB (wz rfl rfl rfl rfl) hL rfl rfl HasV.mem (by rfl) ?_) | (refine lE (wz rfl rfl rfl rfl) hL rfl rfl HasV.mem SegC.seg ?_))))
  rw [rounds_succ]
  go_wp2_with (first | ((with_reducible refine qD rfl rfl ?_); (refine lI rfl hL rfl cy ?_; clear hL; intro gq wq hL)) | ((with_reducible refine qE rfl rfl ?_); (refine lJ rfl hL rfl rfl cy ?_; clear hL; intro gq wq hL)) | ((with_reducible refine qB rfl rfl ?_); (first | (refine lC rfl hL rfl rfl HasV.mem (by rfl) ?_) | (refine lA rfl hL rfl rfl HasV.mem (by rfl) ?_) | (refine lF rfl hL rfl rfl HasV.mem SegC.seg ?_))) | ((with_reducible refine qC rfl rfl ?_); (first | (refine lH rfl hL rfl rfl rfl cy (by rfl) ?_) | (refine lG rfl hL rfl rfl rfl cy (by rfl) (by rfl) ?_)); clear hL; intro wq hL) | ((with_reducible refine qA rfl rfl ?_ ?_); (exact wz rfl rfl rfl (by with_reducible rfl)); (first | (refine lD (wz rfl rfl rfl rfl) hL rfl rfl HasV.mem (by rfl) ?_) | (refine lB (wz rfl rfl rfl rfl) hL rfl rfl HasV.mem (by rfl) ?_) | (refine lE (wz rfl rfl rfl rfl) hL rfl rfl HasV.mem SegC.seg ?_))))
  go_end0
  exact ⟨rfl, hL.sub (by repeat (first | exact .refl _ | apply List.Sublist.cons_cons | apply List.Sublist.cons))⟩
end Go.Proofs.Ytebpacmhdkgfeaa

/- Package join: Prune of a state of one link that all know to be gone. -/
namespace Go.Proofs.Ytebpacmhdkgfeaa
open Go.RowKit Go.Maps Go.WideMaps
set_option maxHeartbeats 8000000
set_option maxRecDepth 100000
theorem idx_none (ao : Option Addr) (c : Nat) (fv : Value) (w : World) : Calls Try.prog 159 #[.slice ao 0 c, fv] w fun e w' => e = .returned (.int .i64 (-1)) ∧ w' = w := by
  go_enter Try.func159, Try.ntmps159
  go_wp2
  refine wp_loop_rounds 1 ?_
  rw [rounds_succ]
  go_wp2
  go_ret
  exact ⟨rfl, rfl⟩
theorem delete_none (ao : Option Addr) (c : Nat) (fv : Value) (w : World) : Calls Try.prog 120 #[.slice ao 0 c, fv] w fun e w' => e = .returned (.slice ao 0 c) ∧ w' = w := by
  have hq := Lib.hid (idx_none ao c fv w)
  go_enter Try.func120, Try.ntmps120
  go_wp2_with (go_at_call 159; (with_reducible refine hq.out.mono ?_); rintro e w9 ⟨rfl, rfl⟩)
  go_ret
  exact ⟨rfl, rfl⟩
theorem delete_ext {W : World} {e : Ext W} (ao : Option Addr) (c : Nat) (fv : Value) : Calls Try.prog 120 #[.slice ao 0 c, fv] e.w fun en w'' => en = .returned (.slice ao 0 c) ∧ ∃ z : Ext W, w'' = z.w :=
  calls_ext ((delete_none ao c fv e.w).mono fun _ _ ⟨h1, h2⟩ => ⟨h1, by rw [h2]; exact Below.refl _ _⟩)
theorem cut_nodes (sv st : V8) (na : Option Addr) (nc gc : Nat) (w0 w : World) (M : Nat → Prop) (l : List Item) (hL : Loc w0 M w (var gc [.int .i64 sv.a0, .int .i64 sv.a1, .int .i64 sv.a2, .int .i64 sv.a3, .int .i64 sv.a4, .int .i64 sv.a5, .int .i64 sv.a6, .int .i64 sv.a7, .slice na 0 nc, .slice none 0 0, .int .i64 st.a0, .int .i64 st.a1, .int .i64 st.a2, .int .i64 st.a3, .int .i64 st.a4, .int .i64 st.a5, .int .i64 st.a6, .int .i64 st.a7] 91 :: l)) :
    Calls Try.prog 56 #[.pointer (some ⟨gc, 0, none⟩)] w fun e w' => e = .returned (.tuple #[]) ∧ Loc w0 M w' (var gc [.int .i64 sv.a0, .int .i64 sv.a1, .int .i64 sv.a2, .int .i64 sv.a3, .int .i64 sv.a4, .int .i64 sv.a5, .int .i64 sv.a6, .int .i64 sv.a7, .slice na 0 nc, .slice none 0 0, .int .i64 st.a0, .int .i64 st.a1, .int .i64 st.a2, .int .i64 st.a3, .int .i64 st.a4, .int .i64 st.a5, .int .i64 st.a6, .int .i64 st.a7] 91 :: l) := by
  go_enter Try.func56, Try.ntmps56
  go_wp2_with (first
    | ((with_reducible refine gate (N := 1) rfl ?_); (refine lJ rfl hL rfl rfl cy ?_; clear hL; intro g1 w1 hL)) | ((with_reducible refine gate (N := 2) rfl ?_); (refine lI rfl hL rfl cy ?_; clear hL; intro g2 w2 hL))
    | ((with_reducible refine gate (N := 5) rfl ?_); refine ev_mkmap rfl hL rfl ?_; clear hL; intro gm wq hL)
    | ((with_reducible refine qD rfl rfl ?_); (refine lI rfl hL rfl cy ?_; clear hL; intro gq wq hL)) | ((with_reducible refine qE rfl rfl ?_); (refine lJ rfl hL rfl rfl cy ?_; clear hL; intro gq wq hL)) | ((with_reducible refine qB rfl rfl ?_); (first | (refine lC rfl hL rfl rfl HasV.mem (by rfl) ?_) | (refine lA rfl hL rfl rfl HasV.mem (by rfl) ?_) | (refine lF rfl hL rfl rfl HasV.mem SegC.seg ?_))) | ((with_reducible refine qC rfl rfl ?_); (first | (refine lH rfl hL rfl rfl rfl cy (by rfl) ?_) | (refine lG rfl hL rfl rfl rfl cy (by rfl) (by rfl) ?_)); clear hL; intro wq hL) | ((with_reducible refine qA rfl rfl ?_ ?_); (exact wz rfl rfl rfl (by with_reducible rfl)); (first | (refine lD (wz rfl rfl rfl rfl) hL rfl rfl HasV.mem (by rfl) ?_) | (refine lB (wz rfl rfl rfl rfl) hL rfl rfl HasV.mem (by rfl) ?_) | (refine lE (wz rfl rfl rfl rfl) hL rfl rfl HasV.mem SegC.seg ?_))))
  refine wp_loop_rounds 1 ?_
  rw [rounds_succ]
  go_wp2_with (first | ((with_reducible refine qD rfl rfl ?_); (refine lI rfl hL rfl cy ?_; clear hL; intro gq wq hL)) | ((with_reducible refine qE rfl rfl ?_); (refine lJ rfl hL rfl rfl cy ?_; clear hL; intro gq wq hL)) | ((with_reducible refine qB rfl rfl ?_); (first | (refine lC rfl hL rfl rfl HasV.mem (by rfl) ?_) | (refine lA rfl hL rfl rfl HasV.mem (by rfl) ?_) | (refine lF rfl hL rfl rfl HasV.mem SegC.seg ?_))) | ((with_reducible refine qC rfl rfl ?_); (first | (refine lH rfl hL rfl rfl rfl cy (by rfl) ?_) | (refine lG rfl hL rfl rfl rfl cy (by rfl) (by rfl) ?_)); clear hL; intro wq hL) | ((with_reducible refine qA rfl rfl ?_ ?_); (exact wz rfl rfl rfl (by with_reducible rfl)); (first | (refine lD (wz rfl rfl rfl rfl) hL rfl rfl HasV.mem (by rfl) ?_) | (refine lB (wz rfl rfl rfl rfl) hL rfl rfl HasV.mem (by rfl) ?_) | (refine lE (wz rfl rfl rfl rfl) hL rfl rfl HasV.mem SegC.seg ?_))))
  (try simp only [Act.put, zs, zt, zu])
  refine region_qtail 11 (by kernel_rfl) hL (by kernel_rfl) ?_
  clear hL
  intro w8 hL
  simp only [List.take_succ_cons, List.take_zero, List.drop_succ_cons, List.drop_zero]
  repeat (first
    | (go_big_quiet_want; (first | refine qH hL rfl rfl HasV.mem (by rfl) ?_ | refine qG hL rfl rfl HasV.mem (by rfl) ?_ | refine qI hL rfl rfl HasV.mem SegC.seg ?_); go_big_quiet_on; simp only [Act.put, zs, zt, zu])
    | go_big_quiet_step (first | (go_at_call 120; exact delete_ext na nc _)))
  refine wpQuiet_nil ?_
  rintro _ ⟨⟨w9, hb9⟩, rfl⟩
  replace hL := hL.call hb9
  clear hb9
  go_wp2_with (first | ((with_reducible refine qD rfl rfl ?_); (refine lI rfl hL rfl cy ?_; clear hL; intro gq wq hL)) | ((with_reducible refine qE rfl rfl ?_); (refine lJ rfl hL rfl rfl cy ?_; clear hL; intro gq wq hL)) | ((with_reducible refine qB rfl rfl ?_); (first | (refine lC rfl hL rfl rfl HasV.mem (by rfl) ?_) | (refine lA rfl hL rfl rfl HasV.mem (by rfl) ?_) | (refine lF rfl hL rfl rfl HasV.mem SegC.seg ?_))) | ((with_reducible refine qC rfl rfl ?_); (first | (refine lH rfl hL rfl rfl rfl cy (by rfl) ?_) | (refine lG rfl hL rfl rfl rfl cy (by rfl) (by rfl) ?_)); clear hL; intro wq hL) | ((with_reducible refine qA rfl rfl ?_ ?_); (exact wz rfl rfl rfl (by with_reducible rfl)); (first | (refine lD (wz rfl rfl rfl rfl) hL rfl rfl HasV.mem (by rfl) ?_) | (refine lB (wz rfl rfl rfl rfl) hL rfl rfl HasV.mem (by rfl) ?_) | (refine lE (wz rfl rfl rfl rfl) hL rfl rfl HasV.mem SegC.seg ?_))))
  go_end0
  refine ⟨rfl, hL.sub (by repeat (first | exact .refl _ | apply List.Sublist.cons))⟩
theorem join_prune1 (sv q : V8) (a1 la : Option Addr) (c1 lc0 : Nat) (l : Lnk) (w : World) (hn : encN.R w (.slice a1 0 c1) []) (hl : encK.R w (.slice la 1 lc0) [l]) (hat : l.at_ = l.id) (hal : l.alive.within l.dead = true) (h1 : l.alive.within (q.meet sv) = true) (h2 : l.dead.within (q.meet sv) = true) (h3 : (q.meet sv).has l.at_ = true)
    (hk : ∃ ly, keyOf Try.prog 34 (.agg #[.int .i64 l.node.boot, .int .i64 l.node.n]) = some ly) :
    Calls Try.prog 18 #[.agg ([.int .i64 sv.a0, .int .i64 sv.a1, .int .i64 sv.a2, .int .i64 sv.a3, .int .i64 sv.a4, .int .i64 sv.a5, .int .i64 sv.a6, .int .i64 sv.a7, .slice a1 0 c1, .slice la 1 lc0] : List Value).toArray, .agg #[.int .i64 q.a0, .int .i64 q.a1, .int .i64 q.a2, .int .i64 q.a3, .int .i64 q.a4, .int .i64 q.a5, .int .i64 q.a6, .int .i64 q.a7]] w fun e w' => (∃ na nc, e = .returned (.agg ([.int .i64 sv.a0, .int .i64 sv.a1, .int .i64 sv.a2, .int .i64 sv.a3, .int .i64 sv.a4, .int .i64 sv.a5, .int .i64 sv.a6, .int .i64 sv.a7, .slice na 0 nc, .slice none 0 0] : List Value).toArray)) ∧ Below w.heap.size w w' := by
  have hL := Loc.nil w NoM
  obtain ⟨st, hst⟩ : ∃ st, q.meet sv = st := ⟨_, rfl⟩
  rw [hst] at h1 h2 h3
  have HST := Lib.hid hst
  have HN := Lib.hid hn; have HL := Lib.hid hl
  have H0 := Lib.hid hat; have HAL := Lib.hid hal; have H1 := Lib.hid h1; have H2 := Lib.hid h2; have H3 := Lib.hid h3; have HK := Lib.hid hk
  clear hst hn hl hat hal h1 h2 h3 hk
  go_enter Try.func18, Try.ntmps18
  go_wp2_with (first | ((with_reducible refine gate (N := 2) rfl ?_); (refine lJ rfl hL rfl rfl cy ?_; clear hL; intro g2 w2 hL)) | ((with_reducible refine gate (N := 3) rfl ?_); (refine lJ rfl hL rfl rfl cy ?_; clear hL; intro g3 w3 hL)) | ((with_reducible refine gate (N := 4) rfl ?_); (refine lI rfl hL rfl cy ?_; clear hL; intro g4 w4 hL)) | ((with_reducible refine qD rfl rfl ?_); (refine lI rfl hL rfl cy ?_; clear hL; intro gq wq hL)) | ((with_reducible refine qE rfl rfl ?_); (refine lJ rfl hL rfl rfl cy ?_; clear hL; intro gq wq hL)) | ((with_reducible refine qB rfl rfl ?_); (first | (refine lC rfl hL rfl rfl HasV.mem (by rfl) ?_) | (refine lA rfl hL rfl rfl HasV.mem (by rfl) ?_) | (refine lF rfl hL rfl rfl HasV.mem SegC.seg ?_))) | ((with_reducible refine qC rfl rfl ?_); (first | (refine lH rfl hL rfl rfl rfl cy (by rfl) ?_) | (refine lG rfl hL rfl rfl rfl cy (by rfl) (by rfl) ?_)); clear hL; intro wq hL) | ((with_reducible refine qA rfl rfl ?_ ?_); (exact wz rfl rfl rfl (by with_reducible rfl)); (first | (refine lD (wz rfl rfl rfl rfl) hL rfl rfl HasV.mem (by rfl) ?_) | (refine lB (wz rfl rfl rfl rfl) hL rfl rfl HasV.mem (by rfl) ?_) | (refine lE (wz rfl rfl rfl rfl) hL rfl rfl HasV.mem SegC.seg ?_))))
  (try simp only [Act.put, zs, zt, zu])
  refine region_qtail 6 (by kernel_rfl) hL (by kernel_rfl) ?_
  clear hL
  intro w5 hL
  simp only [List.take_succ_cons, List.take_zero, List.drop_succ_cons, List.drop_zero]
  repeat (first
    | (go_big_quiet_want; (first | refine qH hL rfl rfl HasV.mem (by rfl) ?_ | refine qG hL rfl rfl HasV.mem (by rfl) ?_ | refine qI hL rfl rfl HasV.mem SegC.seg ?_); go_big_quiet_on; simp only [Act.put, zs, zt, zu])
    | go_big_quiet_step (first | (go_at_call 51; with_reducible exact meet_ext q sv st HST.out)))
  refine wpQuiet_nil ?_
  rintro _ ⟨⟨w6, hb6⟩, rfl⟩
  replace hL := hL.call hb6
  clear hb6
  go_wp2_with (first | ((with_reducible refine gate (N := 12) rfl ?_); (refine lJ rfl hL rfl rfl cy ?_; clear hL; intro g12 w12 hL)) | ((with_reducible refine qD rfl rfl ?_); (refine lI rfl hL rfl cy ?_; clear hL; intro gq wq hL)) | ((with_reducible refine qE rfl rfl ?_); (refine lJ rfl hL rfl rfl cy ?_; clear hL; intro gq wq hL)) | ((with_reducible refine qB rfl rfl ?_); (first | (refine lC rfl hL rfl rfl HasV.mem (by rfl) ?_) | (refine lA rfl hL rfl rfl HasV.mem (by rfl) ?_) | (refine lF rfl hL rfl rfl HasV.mem SegC.seg ?_))) | ((with_reducible refine qC rfl rfl ?_); (first | (refine lH rfl hL rfl rfl rfl cy (by rfl) ?_) | (refine lG rfl hL rfl rfl rfl cy (by rfl) (by rfl) ?_)); clear hL; intro wq hL) | ((with_reducible refine qA rfl rfl ?_ ?_); (exact wz rfl rfl rfl (by with_reducible rfl)); (first | (refine lD (wz rfl rfl rfl rfl) hL rfl rfl HasV.mem (by rfl) ?_) | (refine lB (wz rfl rfl rfl rfl) hL rfl rfl HasV.mem (by rfl) ?_) | (refine lE (wz rfl rfl rfl rfl) hL rfl rfl HasV.mem SegC.seg ?_))))
  (try simp only [Act.put, zs, zt, zu])
  refine region_held (fun wx => Box wx g2 ([.int .i64 sv.a0, .int .i64 sv.a1, .int .i64 sv.a2, .int .i64 sv.a3, .int .i64 sv.a4, .int .i64 sv.a5, .int .i64 sv.a6, .int .i64 sv.a7, .slice a1 0 c1, .slice la 1 lc0] : List Value).toArray 27) (by kernel_rfl) hL ?_
  clear hL
  intro w8 hL
  refine heldTake (i := 0) nx (by kernel_rfl) (by kernel_rfl) (by kernel_rfl) (by exact fun _ _ _ h => h) (y_moveG (.pointer (some ⟨g12, 0, none⟩)) (by rfl) rfl (by rfl)) (hL.box (g := g2) HasV.mem) ?_
  (try simp only [Act.put, zs, zt, zu])
  refine heldTake (i := 1) nx (by kernel_rfl) (by kernel_rfl) (by kernel_rfl) (by exact fun _ _ _ h => h) (y_moveG (.pointer (some ⟨g12, 0, none⟩)) (by rfl) rfl (by rfl)) (hL.box (g := g2) HasV.mem) ?_
  (try simp only [Act.put, zs, zt, zu])
  refine heldTake (i := 2) nx (by kernel_rfl) (by kernel_rfl) (by kernel_rfl) (by exact fun _ _ _ h => h) (y_pure (v := .pointer (some ⟨g2, 8, none⟩)) (by rfl) (fun w => by simp [execOp, Instr.fieldAt, go_sem])) (hL.box (g := g2) HasV.mem) ?_
  (try simp only [Act.put, zs, zt, zu])
  refine heldTake (i := 3) nx (by kernel_rfl) (by kernel_rfl) (by kernel_rfl) (by exact fun _ _ _ h => h) (y_loadCell (fun _ h => h) (by rfl) (by rfl) (by rfl) (by infer_instance) (by rfl)) (hL.box (g := g2) HasV.mem) ?_
  (try simp only [Act.put, zs, zt, zu])
  refine heldTake (i := 5) nx (by kernel_rfl) (by kernel_rfl) (by kernel_rfl) (by exact fun _ _ _ h => h) (y_pure (v := .pointer (some ⟨g2, 9, none⟩)) (by rfl) (fun w => by simp [execOp, Instr.fieldAt, go_sem])) (hL.box (g := g2) HasV.mem) ?_
  (try simp only [Act.put, zs, zt, zu])
  refine heldTake (i := 6) nx (by kernel_rfl) (by kernel_rfl) (by kernel_rfl) (by exact fun _ _ _ h => h) (y_loadCell (fun _ h => h) (by rfl) (by rfl) (by rfl) (by infer_instance) (by rfl)) (hL.box (g := g2) HasV.mem) ?_
  (try simp only [Act.put, zs, zt, zu])
  refine heldOne (i := 4) (by kernel_rfl) ?_
  refine heldCall (Nth.get nx) (by rfl) (enter1 Try.func52 (by kernel_rfl) (by kernel_rfl) (by rfl) (by rfl)) (clone_nodes (.slice a1 0 c1) [] _ (HN.out.below hL.below) (by simp)) ?_
  rintro e w9 ⟨u9, rfl, hL9⟩
  replace hL := hL.takeRow hL9
  clear hL9
  obtain ⟨na, nc, hu9, -⟩ := R_elem (hL.own (E := encN) (.head _)).read
  replace hu9 : u9 = .slice na 0 nc := hu9
  subst hu9
  refine ⟨_, rfl, (hL.box (g := g2) HasV.mem), ?_⟩
  (try simp only [Act.put, zs, zt, zu])
  refine heldOne (i := 7) (by kernel_rfl) ?_
  refine heldCall (Nth.get nx) (by rfl) (enter1 Try.func53 (by kernel_rfl) (by kernel_rfl) (by rfl) (by rfl)) (clone_links (.slice la 1 lc0) [l] _ (HL.out.below hL.below) (by simp)) ?_
  rintro e w10 ⟨u10, rfl, hL10⟩
  replace hL := hL.takeRow hL10
  clear hL10
  rcases own_casesG hL with ⟨-, e2⟩ | ⟨gl, lc, hu10, -, -, hgl⟩
  · cases e2
  replace hu10 : u10 = .slice (some ⟨gl, 0, none⟩) 1 lc := hu10
  subst hu10
  refine ⟨_, rfl, (hL.box (g := g2) HasV.mem), ?_⟩
  (try simp only [Act.put, zs, zt, zu])
  refine heldTake (i := 8) nx (by kernel_rfl) (by kernel_rfl) (by kernel_rfl) (by exact fun _ _ _ h => h) (y_pure (v := .pointer (some ⟨g12, 0, none⟩)) (by rfl) (fun w => by simp [execOp, go_sem])) (hL.box (g := g2) HasV.mem) ?_
  (try simp only [Act.put, zs, zt, zu])
  refine heldTake (i := 9) nx (by kernel_rfl) (by kernel_rfl) (by kernel_rfl) (by exact fun _ _ _ h => h) (y_pure (v := .pointer (some ⟨g12, 0, none⟩)) (by rfl) (fun w => by simp [execOp, Instr.fieldAt, go_sem])) (hL.box (g := g2) HasV.mem) ?_
  (try simp only [Act.put, zs, zt, zu])
  refine heldTake (i := 10) nx (by kernel_rfl) (by kernel_rfl) (by kernel_rfl) (by exact fun _ _ _ h => h) (y_pure (v := .pointer (some ⟨g12, 8, none⟩)) (by rfl) (fun w => by simp [execOp, Instr.fieldAt, go_sem])) (hL.box (g := g2) HasV.mem) ?_
  (try simp only [Act.put, zs, zt, zu])
  refine heldStore (i := 11) nx (by kernel_rfl) rfl hL rfl (by rfl) (by rfl) cy (by rfl) ?_
  clear hL; intro w11 hL
  refine ⟨(hL.box (g := g2) HasV.mem), ?_⟩
  (try simp only [Act.put, zs, zt, zu])
  refine heldTake (i := 12) nx (by kernel_rfl) (by kernel_rfl) (by kernel_rfl) (by exact fun _ _ _ h => h) (y_pure (v := .pointer (some ⟨g12, 0, none⟩)) (by rfl) (fun w => by simp [execOp, go_sem])) (hL.box (g := g2) HasV.mem) ?_
  (try simp only [Act.put, zs, zt, zu])
  refine heldTake (i := 13) nx (by kernel_rfl) (by kernel_rfl) (by kernel_rfl) (by exact fun _ _ _ h => h) (y_pure (v := .pointer (some ⟨g12, 0, none⟩)) (by rfl) (fun w => by simp [execOp, Instr.fieldAt, go_sem])) (hL.box (g := g2) HasV.mem) ?_
  (try simp only [Act.put, zs, zt, zu])
  refine heldTake (i := 14) nx (by kernel_rfl) (by kernel_rfl) (by kernel_rfl) (by exact fun _ _ _ h => h) (y_pure (v := .pointer (some ⟨g12, 9, none⟩)) (by rfl) (fun w => by simp [execOp, Instr.fieldAt, go_sem])) (hL.box (g := g2) HasV.mem) ?_
  (try simp only [Act.put, zs, zt, zu])
  refine heldStore (i := 15) nx (by kernel_rfl) rfl hL rfl (by rfl) (by rfl) cy (by rfl) ?_
  clear hL; intro w15 hL
  refine ⟨(hL.box (g := g2) HasV.mem), ?_⟩
  (try simp only [Act.put, zs, zt, zu])
  refine wpAnyH_done (by kernel_rfl) ?_ _
  replace hL := hL.sub (l' := [row encK w.heap.size 48 (.slice (some ⟨gl, 0, none⟩) 1 lc) [l], var g12 [.int .i64 sv.a0, .int .i64 sv.a1, .int .i64 sv.a2, .int .i64 sv.a3, .int .i64 sv.a4, .int .i64 sv.a5, .int .i64 sv.a6, .int .i64 sv.a7, .slice na 0 nc, .slice (some ⟨gl, 0, none⟩) 1 lc, .int .i64 st.a0, .int .i64 st.a1, .int .i64 st.a2, .int .i64 st.a3, .int .i64 st.a4, .int .i64 st.a5, .int .i64 st.a6, .int .i64 st.a7] 91, var g4 [.int .i64 0, .int .i64 0, .int .i64 0, .int .i64 0, .int .i64 0, .int .i64 0, .int .i64 0, .int .i64 0, .slice none 0 0, .slice none 0 0] 27]) (by repeat (first | exact List.nil_sublist _ | apply List.Sublist.cons_cons | apply List.Sublist.cons))
  replace hL := hL.comm
  go_wp2_with (first
    | (go_at_call 54; have hq := cut_moved ⟨⟨sv, ⟨na, 0, nc⟩, ⟨some ⟨gl, 0, none⟩, 1, lc⟩⟩, st⟩ l g12 _ (hL.box (g := g12) HasV.mem) (hL.own (E := encK) (.tail _ (.head _))).read H0.out; (with_reducible refine hq.mono ?_); rintro e w16 ⟨rfl, hb16⟩; clear hq; have hL := hL.call hb16; clear hb16)
    | (go_at_call 55; have hq := cut_links sv st ⟨na, 0, nc⟩ l gl lc g12 _ _ _ _ _ hL HAL.out H1.out H2.out H3.out HK.out; clear hL; (with_reducible refine hq.mono ?_); rintro e w17 ⟨rfl, hL⟩; clear hq)
    | (go_at_call 56; have hq := cut_nodes sv st na nc g12 _ _ _ _ hL; clear hL; (with_reducible refine hq.mono ?_); rintro e w18 ⟨rfl, hL⟩; clear hq)
    | ((with_reducible refine qD rfl rfl ?_); (refine lI rfl hL rfl cy ?_; clear hL; intro gq wq hL)) | ((with_reducible refine qE rfl rfl ?_); (refine lJ rfl hL rfl rfl cy ?_; clear hL; intro gq wq hL)) | ((with_reducible refine qB rfl rfl ?_); (first | (refine lC rfl hL rfl rfl HasV.mem (by rfl) ?_) | (refine lA rfl hL rfl rfl HasV.mem (by rfl) ?_) | (refine lF rfl hL rfl rfl HasV.mem SegC.seg ?_))) | ((with_reducible refine qC rfl rfl ?_); (first | (refine lH rfl hL rfl rfl rfl cy (by rfl) ?_) | (refine lG rfl hL rfl rfl rfl cy (by rfl) (by rfl) ?_)); clear hL; intro wq hL) | ((with_reducible refine qA rfl rfl ?_ ?_); (exact wz rfl rfl rfl (by with_reducible rfl)); (first | (refine lD (wz rfl rfl rfl rfl) hL rfl rfl HasV.mem (by rfl) ?_) | (refine lB (wz rfl rfl rfl rfl) hL rfl rfl HasV.mem (by rfl) ?_) | (refine lE (wz rfl rfl rfl rfl) hL rfl rfl HasV.mem SegC.seg ?_))))
  exact bodyPost_ret (res_cell rfl hL _ rfl HasV.mem (by rfl)) rfl ⟨⟨na, nc, rfl⟩, hL.below⟩
end Go.Proofs.Ytebpacmhdkgfeaa
