/- Texts laid together: Ref9, Mrg0, ConcatPc, ConcatXt, Nest, ConcatN, ConcatK, Pru2. -/
import Derived.Test.YtebpacmhdkgfeaaJa4
import Derived.StillTailTactics
set_option linter.unusedSimpArgs false
set_option linter.unusedVariables false
/- The document's Less, Within (chapter 9), Node (chapter 10). -/
namespace Go.Proofs.Ytebpacmhdkgfeaa
open Go.RowKit
set_option maxHeartbeats 4000000
set_option maxRecDepth 20000
def Mk.lssB (a b : Mk) : Bool := decide (a.boot < b.boot) || (decide (a.boot = b.boot) && decide (a.n < b.n))
theorem Mk.lssB_iff {a b : Mk} : a.lssB b = true ↔ a.lss b := by unfold Mk.lssB Mk.lss; simp
theorem Mk.lssB_not {a b : Mk} (h : ¬ a.lss b) : a.lssB b = false := by
  cases h1 : a.lssB b
  · rfl
  · exact absurd (Mk.lssB_iff.1 h1) h
theorem ref09_less (a b : Mk) (w : World) : Calls Try.prog 16 #[.agg #[.int .i64 a.boot, .int .i64 a.n], .agg #[.int .i64 b.boot, .int .i64 b.n]] w fun e w' => e = .returned (.bool (a.lssB b)) ∧ Below w.heap.size w w' := by
  have hL := Loc.nil w NoM
  unfold Mk.lssB
  obtain ⟨a1, a2⟩ := a
  obtain ⟨b1, b2⟩ := b
  simp only
  by_cases h1 : a1 < b1
  · have t1 : decide (a1 < b1) = true := decide_eq_true h1
    rw [t1]
    simp only [Bool.true_or]
    clear h1
    go_enter Try.func16, Try.ntmps16
    go_wp2_with (first | ((with_reducible refine gate (N := 2) rfl ?_); (refine lJ rfl hL rfl rfl cy ?_; clear hL; intro g2 w2 hL)) | ((with_reducible refine gate (N := 3) rfl ?_); (refine lJ rfl hL rfl rfl cy ?_; clear hL; intro g3 w3 hL)) | ((with_reducible refine qD rfl rfl ?_); (refine lI rfl hL rfl cy ?_; clear hL; intro gq wq hL)) | ((with_reducible refine qE rfl rfl ?_); (refine lJ rfl hL rfl rfl cy ?_; clear hL; intro gq wq hL)) | ((with_reducible refine qB rfl rfl ?_); (first | (refine lC rfl hL rfl rfl HasV.mem (by rfl) ?_) | (refine lA rfl hL rfl rfl HasV.mem (by rfl) ?_) | (refine lF rfl hL rfl rfl HasV.mem SegC.seg ?_))) | ((with_reducible refine qC rfl rfl ?_); (first | (refine lH rfl hL rfl rfl rfl cy (by rfl) ?_) | (refine lG rfl hL rfl rfl rfl cy (by rfl) (by rfl) ?_)); clear hL; intro wq hL) | ((with_reducible refine qA rfl rfl ?_ ?_); (exact wz rfl rfl rfl (by with_reducible rfl)); (first | (refine lD (wz rfl rfl rfl rfl) hL rfl rfl HasV.mem (by rfl) ?_) | (refine lB (wz rfl rfl rfl rfl) hL rfl rfl HasV.mem (by rfl) ?_) | (refine lE (wz rfl rfl rfl rfl) hL rfl rfl HasV.mem SegC.seg ?_))))
    go_ret
    exact ⟨rfl, hL.below⟩
  · have t1 : decide (a1 < b1) = false := decide_eq_false h1
    rw [t1]
    simp only [Bool.false_or]
    by_cases h2 : a1 = b1
    · subst h2
      simp only [decide_true, Bool.true_and]
      clear h1
      go_enter Try.func16, Try.ntmps16
      go_wp2_with (first | ((with_reducible refine gate (N := 2) rfl ?_); (refine lJ rfl hL rfl rfl cy ?_; clear hL; intro g2 w2 hL)) | ((with_reducible refine gate (N := 3) rfl ?_); (refine lJ rfl hL rfl rfl cy ?_; clear hL; intro g3 w3 hL)) | ((with_reducible refine qD rfl rfl ?_); (refine lI rfl hL rfl cy ?_; clear hL; intro gq wq hL)) | ((with_reducible refine qE rfl rfl ?_); (refine lJ rfl hL rfl rfl cy ?_; clear hL; intro gq wq hL)) | ((with_reducible refine qB rfl rfl ?_); (first | (refine lC rfl hL rfl rfl HasV.mem (by rfl) ?_) | (refine lA rfl hL rfl rfl HasV.mem (by rfl) ?_) | (refine lF rfl hL rfl rfl HasV.mem SegC.seg ?_))) | ((with_reducible refine qC rfl rfl ?_); (first | (refine lH rfl hL rfl rfl rfl cy (by rfl) ?_) | (refine lG rfl hL rfl rfl rfl cy (by rfl) (by rfl) ?_)); clear hL; intro wq hL) | ((with_reducible refine qA rfl rfl ?_ ?_); (exact wz rfl rfl rfl (by with_reducible rfl)); (first | (refine lD (wz rfl rfl rfl rfl) hL rfl rfl HasV.mem (by rfl) ?_) | (refine lB (wz rfl rfl rfl rfl) hL rfl rfl HasV.mem (by rfl) ?_) | (refine lE (wz rfl rfl rfl rfl) hL rfl rfl HasV.mem SegC.seg ?_))))
      go_ret
      exact ⟨rfl, hL.below⟩
    · have t2 : (a1 == b1) = false := by simpa using h2
      have t3 : decide (a1 = b1) = false := decide_eq_false h2
      rw [t3]
      simp only [Bool.false_and]
      clear h1 h2 t3
      go_enter Try.func16, Try.ntmps16
      go_wp2_with (first | ((with_reducible refine gate (N := 2) rfl ?_); (refine lJ rfl hL rfl rfl cy ?_; clear hL; intro g2 w2 hL)) | ((with_reducible refine gate (N := 3) rfl ?_); (refine lJ rfl hL rfl rfl cy ?_; clear hL; intro g3 w3 hL)) | ((with_reducible refine qD rfl rfl ?_); (refine lI rfl hL rfl cy ?_; clear hL; intro gq wq hL)) | ((with_reducible refine qE rfl rfl ?_); (refine lJ rfl hL rfl rfl cy ?_; clear hL; intro gq wq hL)) | ((with_reducible refine qB rfl rfl ?_); (first | (refine lC rfl hL rfl rfl HasV.mem (by rfl) ?_) | (refine lA rfl hL rfl rfl HasV.mem (by rfl) ?_) | (refine lF rfl hL rfl rfl HasV.mem SegC.seg ?_))) | ((with_reducible refine qC rfl rfl ?_); (first | (refine lH rfl hL rfl rfl rfl cy (by rfl) ?_) | (refine lG rfl hL rfl rfl rfl cy (by rfl) (by rfl) ?_)); clear hL; intro wq hL) | ((with_reducible refine qA rfl rfl ?_ ?_); (exact wz rfl rfl rfl (by with_reducible rfl)); (first | (refine lD (wz rfl rfl rfl rfl) hL rfl rfl HasV.mem (by rfl) ?_) | (refine lB (wz rfl rfl rfl rfl) hL rfl rfl HasV.mem (by rfl) ?_) | (refine lE (wz rfl rfl rfl rfl) hL rfl rfl HasV.mem SegC.seg ?_))))
      go_ret
      exact ⟨rfl, hL.below⟩
theorem ref09_within (a b : V8) (w : World) : Calls Try.prog 14 #[.agg #[.int .i64 a.a0, .int .i64 a.a1, .int .i64 a.a2, .int .i64 a.a3, .int .i64 a.a4, .int .i64 a.a5, .int .i64 a.a6, .int .i64 a.a7], .agg #[.int .i64 b.a0, .int .i64 b.a1, .int .i64 b.a2, .int .i64 b.a3, .int .i64 b.a4, .int .i64 b.a5, .int .i64 b.a6, .int .i64 b.a7]] w fun e w' => e = .returned (.bool (a.within b)) ∧ Below w.heap.size w w' := by
  have hL := Loc.nil w NoM
  have hwi := V8.within_iff (a := a) (b := b)
  generalize a.within b = R at *
  obtain ⟨a0, a1, a2, a3, a4, a5, a6, a7⟩ := a
  obtain ⟨b0, b1, b2, b3, b4, b5, b6, b7⟩ := b
  simp only at hwi
  have HR := Lib.hid hwi
  clear hwi
  simp only
  go_enter Try.func14, Try.ntmps14
  go_wp2_with (first | ((with_reducible refine gate (N := 2) rfl ?_); (refine lJ rfl hL rfl rfl cy ?_; clear hL; intro g2 w2 hL)) | ((with_reducible refine gate (N := 3) rfl ?_); (refine lJ rfl hL rfl rfl cy ?_; clear hL; intro g3 w3 hL)) | ((with_reducible refine qD rfl rfl ?_); (refine lI rfl hL rfl cy ?_; clear hL; intro gq wq hL)) | ((with_reducible refine qE rfl rfl ?_); (refine lJ rfl hL rfl rfl cy ?_; clear hL; intro gq wq hL)) | ((with_reducible refine qB rfl rfl ?_); (first | (refine lC rfl hL rfl rfl HasV.mem (by rfl) ?_) | (refine lA rfl hL rfl rfl HasV.mem (by rfl) ?_) | (refine lF rfl hL rfl rfl HasV.mem SegC.seg ?_))) | ((with_reducible refine qC rfl rfl ?_); (first | (refine lH rfl hL rfl rfl rfl cy (by rfl) ?_) | (refine lG rfl hL rfl rfl rfl cy (by rfl) (by rfl) ?_)); clear hL; intro wq hL) | ((with_reducible refine qA rfl rfl ?_ ?_); (exact wz rfl rfl rfl (by with_reducible rfl)); (first | (refine lD (wz rfl rfl rfl rfl) hL rfl rfl HasV.mem (by rfl) ?_) | (refine lB (wz rfl rfl rfl rfl) hL rfl rfl HasV.mem (by rfl) ?_) | (refine lE (wz rfl rfl rfl rfl) hL rfl rfl HasV.mem SegC.seg ?_))))
  refine wp_loop_rounds 9 ?_
  rw [rounds_succ]
  by_cases h0 : a0 ≤ b0
  rotate_left
  · have t0 : decide (a0 > b0) = true := decide_eq_true (by omega)
    have HF : Hid (R = false) := Lib.hid (by
      cases hR9 : R with
      | false => rfl
      | true => have := HR.out.1 hR9; omega)
    clear h0
    go_wp2_with (first | ((with_reducible refine qD rfl rfl ?_); (refine lI rfl hL rfl cy ?_; clear hL; intro gq wq hL)) | ((with_reducible refine qE rfl rfl ?_); (refine lJ rfl hL rfl rfl cy ?_; clear hL; intro gq wq hL)) | ((with_reducible refine qB rfl rfl ?_); (first | (refine lC rfl hL rfl rfl HasV.mem (by rfl) ?_) | (refine lA rfl hL rfl rfl HasV.mem (by rfl) ?_) | (refine lF rfl hL rfl rfl HasV.mem SegC.seg ?_))) | ((with_reducible refine qC rfl rfl ?_); (first | (refine lH rfl hL rfl rfl rfl cy (by rfl) ?_) | (refine lG rfl hL rfl rfl rfl cy (by rfl) (by rfl) ?_)); clear hL; intro wq hL) | ((with_reducible refine qA rfl rfl ?_ ?_); (exact wz rfl rfl rfl (by with_reducible rfl)); (first | (refine lD (wz rfl rfl rfl rfl) hL rfl rfl HasV.mem (by rfl) ?_) | (refine lB (wz rfl rfl rfl rfl) hL rfl rfl HasV.mem (by rfl) ?_) | (refine lE (wz rfl rfl rfl rfl) hL rfl rfl HasV.mem SegC.seg ?_))))
    (try simp only [Act.put, zs, zt, zu])
    refine wp_region_ext (by kernel_rfl) (by kernel_rfl) ?_
    repeat (first | (go_big_quiet_want; (first | refine qH hL rfl rfl HasV.mem (by rfl) ?_ | refine qG hL rfl rfl HasV.mem (by rfl) ?_ | refine qI hL rfl rfl HasV.mem SegC.seg ?_); go_big_quiet_on; simp only [Act.put, zs, zt, zu]) | go_big_quiet_step (fail))
    refine wpQuiet_nil ?_
    rintro _ ⟨⟨w9, hb9⟩, rfl⟩
    replace hL := hL.call hb9
    clear hb9
    go_wp2_with (first | ((with_reducible refine qD rfl rfl ?_); (refine lI rfl hL rfl cy ?_; clear hL; intro gq wq hL)) | ((with_reducible refine qE rfl rfl ?_); (refine lJ rfl hL rfl rfl cy ?_; clear hL; intro gq wq hL)) | ((with_reducible refine qB rfl rfl ?_); (first | (refine lC rfl hL rfl rfl HasV.mem (by rfl) ?_) | (refine lA rfl hL rfl rfl HasV.mem (by rfl) ?_) | (refine lF rfl hL rfl rfl HasV.mem SegC.seg ?_))) | ((with_reducible refine qC rfl rfl ?_); (first | (refine lH rfl hL rfl rfl rfl cy (by rfl) ?_) | (refine lG rfl hL rfl rfl rfl cy (by rfl) (by rfl) ?_)); clear hL; intro wq hL) | ((with_reducible refine qA rfl rfl ?_ ?_); (exact wz rfl rfl rfl (by with_reducible rfl)); (first | (refine lD (wz rfl rfl rfl rfl) hL rfl rfl HasV.mem (by rfl) ?_) | (refine lB (wz rfl rfl rfl rfl) hL rfl rfl HasV.mem (by rfl) ?_) | (refine lE (wz rfl rfl rfl rfl) hL rfl rfl HasV.mem SegC.seg ?_))))
    go_ret
    exact ⟨by rw [HF.out]; rfl, hL.below⟩
  have t0 : decide (a0 > b0) = false := decide_eq_false (by omega)
  have H0 := Lib.hid h0
  clear h0
  go_wp2_with (first | ((with_reducible refine qD rfl rfl ?_); (refine lI rfl hL rfl cy ?_; clear hL; intro gq wq hL)) | ((with_reducible refine qE rfl rfl ?_); (refine lJ rfl hL rfl rfl cy ?_; clear hL; intro gq wq hL)) | ((with_reducible refine qB rfl rfl ?_); (first | (refine lC rfl hL rfl rfl HasV.mem (by rfl) ?_) | (refine lA rfl hL rfl rfl HasV.mem (by rfl) ?_) | (refine lF rfl hL rfl rfl HasV.mem SegC.seg ?_))) | ((with_reducible refine qC rfl rfl ?_); (first | (refine lH rfl hL rfl rfl rfl cy (by rfl) ?_) | (refine lG rfl hL rfl rfl rfl cy (by rfl) (by rfl) ?_)); clear hL; intro wq hL) | ((with_reducible refine qA rfl rfl ?_ ?_); (exact wz rfl rfl rfl (by with_reducible rfl)); (first | (refine lD (wz rfl rfl rfl rfl) hL rfl rfl HasV.mem (by rfl) ?_) | (refine lB (wz rfl rfl rfl rfl) hL rfl rfl HasV.mem (by rfl) ?_) | (refine lE (wz rfl rfl rfl rfl) hL rfl rfl HasV.mem SegC.seg ?_))))
  (try simp only [Act.put, zs, zt, zu])
  refine wp_region_ext (by kernel_rfl) (by kernel_rfl) ?_
  repeat (first | (go_big_quiet_want; (first | refine qH hL rfl rfl HasV.mem (by rfl) ?_ | refine qG hL rfl rfl HasV.mem (by rfl) ?_ | refine qI hL rfl rfl HasV.mem SegC.seg ?_); go_big_quiet_on; simp only [Act.put, zs, zt, zu]) | go_big_quiet_step (fail))
  refine wpQuiet_nil ?_
  rintro _ ⟨⟨w9, hb9⟩, rfl⟩
  replace hL := hL.call hb9
  clear hb9
  go_wp2_with (first | ((with_reducible refine qD rfl rfl ?_); (refine lI rfl hL rfl cy ?_; clear hL; intro gq wq hL)) | ((with_reducible refine qE rfl rfl ?_); (refine lJ rfl hL rfl rfl cy ?_; clear hL; intro gq wq hL)) | ((with_reducible refine qB rfl rfl ?_); (first | (refine lC rfl hL rfl rfl HasV.mem (by rfl) ?_) | (refine lA rfl hL rfl rfl HasV.mem (by rfl) ?_) | (refine lF rfl hL rfl rfl HasV.mem SegC.seg ?_))) | ((with_reducible refine qC rfl rfl ?_); (first | (refine lH rfl hL rfl rfl rfl cy (by rfl) ?_) | (refine lG rfl hL rfl rfl rfl cy (by rfl) (by rfl) ?_)); clear hL; intro wq hL) | ((with_reducible refine qA rfl rfl ?_ ?_); (exact wz rfl rfl rfl (by with_reducible rfl)); (first | (refine lD (wz rfl rfl rfl rfl) hL rfl rfl HasV.mem (by rfl) ?_) | (refine lB (wz rfl rfl rfl rfl) hL rfl rfl HasV.mem (by rfl) ?_) | (refine lE (wz rfl rfl rfl rfl) hL rfl rfl HasV.mem SegC.seg ?_))))
  rw [rounds_succ]
  by_cases h1 : a1 ≤ b1
  rotate_left
  · have t1 : decide (a1 > b1) = true := decide_eq_true (by omega)
    have HF : Hid (R = false) := Lib.hid (by
      cases hR9 : R with
      | false => rfl
      | true => have := HR.out.1 hR9; omega)
    clear h1
    go_wp2_with (first | ((with_reducible refine qD rfl rfl ?_); (refine lI rfl hL rfl cy ?_; clear hL; intro gq wq hL)) | ((with_reducible refine qE rfl rfl ?_); (refine lJ rfl hL rfl rfl cy ?_; clear hL; intro gq wq hL)) | ((with_reducible refine qB rfl rfl ?_); (first | (refine lC rfl hL rfl rfl HasV.mem (by rfl) ?_) | (refine lA rfl hL rfl rfl HasV.mem (by rfl) ?_) | (refine lF rfl hL rfl rfl HasV.mem SegC.seg ?_))) | ((with_reducible refine qC rfl rfl ?_); (first | (refine lH rfl hL rfl rfl rfl cy (by rfl) ?_) | (refine lG rfl hL rfl rfl rfl cy (by rfl) (by rfl) ?_)); clear hL; intro wq hL) | ((with_reducible refine qA rfl rfl ?_ ?_); (exact wz rfl rfl rfl (by with_reducible rfl)); (first | (refine lD (wz rfl rfl rfl rfl) hL rfl rfl HasV.mem (by rfl) ?_) | (refine lB (wz rfl rfl rfl rfl) hL rfl rfl HasV.mem (by rfl) ?_) | (refine lE (wz rfl rfl rfl rfl) hL rfl rfl HasV.mem SegC.seg ?_))))
    (try simp only [Act.put, zs, zt, zu])
    refine wp_region_ext (by kernel_rfl) (by kernel_rfl) ?_
    repeat (first | (go_big_quiet_want; (first | refine qH hL rfl rfl HasV.mem (by rfl) ?_ | refine qG hL rfl rfl HasV.mem (by rfl) ?_ | refine qI hL rfl rfl HasV.mem SegC.seg ?_); go_big_quiet_on; simp only [Act.put, zs, zt, zu]) | go_big_quiet_step (fail))
    refine wpQuiet_nil ?_
    rintro _ ⟨⟨w9, hb9⟩, rfl⟩
    replace hL := hL.call hb9
    clear hb9
    go_wp2_with (first | ((with_reducible refine qD rfl rfl ?_); (refine lI rfl hL rfl cy ?_; clear hL; intro gq wq hL)) | ((with_reducible refine qE rfl rfl ?_); (refine lJ rfl hL rfl rfl cy ?_; clear hL; intro gq wq hL)) | ((with_reducible refine qB rfl rfl ?_); (first | (refine lC rfl hL rfl rfl HasV.mem (by rfl) ?_) | (refine lA rfl hL rfl rfl HasV.mem (by rfl) ?_) | (refine lF rfl hL rfl rfl HasV.mem SegC.seg ?_))) | ((with_reducible refine qC rfl rfl ?_); (first | (refine lH rfl hL rfl rfl rfl cy (by rfl) ?_) | (refine lG rfl hL rfl rfl rfl cy (by rfl) (by rfl) ?_)); clear hL; intro wq hL) | ((with_reducible refine qA rfl rfl ?_ ?_); (exact wz rfl rfl rfl (by with_reducible rfl)); (first | (refine lD (wz rfl rfl rfl rfl) hL rfl rfl HasV.mem (by rfl) ?_) | (refine lB (wz rfl rfl rfl rfl) hL rfl rfl HasV.mem (by rfl) ?_) | (refine lE (wz rfl rfl rfl rfl) hL rfl rfl HasV.mem SegC.seg ?_))))
    go_ret
    exact ⟨by rw [HF.out]; rfl, hL.below⟩
  have t1 : decide (a1 > b1) = false := decide_eq_false (by omega)
  have H1 := Lib.hid h1
  clear h1
  go_wp2_with (first | ((with_reducible refine qD rfl rfl ?_); (refine lI rfl hL rfl cy ?_; clear hL; intro gq wq hL)) | ((with_reducible refine qE rfl rfl ?_); (refine lJ rfl hL rfl rfl cy ?_; clear hL; intro gq wq hL)) | ((with_reducible refine qB rfl rfl ?_); (first | (refine lC rfl hL rfl rfl HasV.mem (by rfl) ?_) | (refine lA rfl hL rfl rfl HasV.mem (by rfl) ?_) | (refine lF rfl hL rfl rfl HasV.mem SegC.seg ?_))) | ((with_reducible refine qC rfl rfl ?_); (first | (refine lH rfl hL rfl rfl rfl cy (by rfl) ?_) | (refine lG rfl hL rfl rfl rfl cy (by rfl) (by rfl) ?_)); clear hL; intro wq hL) | ((with_reducible refine qA rfl rfl ?_ ?_); (exact wz rfl rfl rfl (by with_reducible rfl)); (first | (refine lD (wz rfl rfl rfl rfl) hL rfl rfl HasV.mem (by rfl) ?_) | (refine lB (wz rfl rfl rfl rfl) hL rfl rfl HasV.mem (by rfl) ?_) | (refine lE (wz rfl rfl rfl rfl) hL rfl rfl HasV.mem SegC.seg ?_))))
  (try simp only [Act.put, zs, zt, zu])
  refine wp_region_ext (by kernel_rfl) (by kernel_rfl) ?_
  repeat (first | (go_big_quiet_want; (first | refine qH hL rfl rfl HasV.mem (by rfl) ?_ | refine qG hL rfl rfl HasV.mem (by rfl) ?_ | refine qI hL rfl rfl HasV.mem SegC.seg ?_); go_big_quiet_on; simp only [Act.put, zs, zt, zu]) | go_big_quiet_step (fail))
  refine wpQuiet_nil ?_
  rintro _ ⟨⟨w9, hb9⟩, rfl⟩
  replace hL := hL.call hb9
  clear hb9
  go_wp2_with (first | ((with_reducible refine qD rfl rfl ?_); (refine lI rfl hL rfl cy ?_; clear hL; intro gq wq hL)) | ((with_reducible refine qE rfl rfl ?_); (refine lJ rfl hL rfl rfl cy ?_; clear hL; intro gq wq hL)) | ((with_reducible refine qB rfl rfl ?_); (first | (refine lC rfl hL rfl rfl HasV.mem (by rfl) ?_) | (refine lA rfl hL rfl rfl HasV.mem (by rfl) ?_) | (refine lF rfl hL rfl rfl HasV.mem SegC.seg ?_))) | ((with_reducible refine qC rfl rfl ?_); (first | (refine lH rfl hL rfl rfl rfl cy (by rfl) ?_) | (refine lG rfl hL rfl rfl rfl cy (by rfl) (by rfl) ?_)); clear hL; intro wq hL) | ((with_reducible refine qA rfl rfl ?_ ?_); (exact wz rfl rfl rfl (by with_reducible rfl)); (first | (refine lD (wz rfl rfl rfl rfl) hL rfl rfl HasV.mem (by rfl) ?_) | (refine lB (wz rfl rfl rfl rfl) hL rfl rfl HasV.mem (by rfl) ?_) | (refine lE (wz rfl rfl rfl rfl) hL rfl rfl HasV.mem SegC.seg ?_))))
  rw [rounds_succ]
  by_cases h2 : a2 ≤ b2
  rotate_left
  · have t2 : decide (a2 > b2) = true := decide_eq_true (by omega)
    have HF : Hid (R = false) := Lib.hid (by
      cases hR9 : R with
      | false => rfl
      | true => have := HR.out.1 hR9; omega)
    clear h2
    go_wp2_with (first | ((with_reducible refine qD rfl rfl ?_); (refine lI rfl hL rfl cy ?_; clear hL; intro gq wq hL)) | ((with_reducible refine qE rfl rfl ?_); (refine lJ rfl hL rfl rfl cy ?_; clear hL; intro gq wq hL)) | ((with_reducible refine qB rfl rfl ?_); (first | (refine lC rfl hL rfl rfl HasV.mem (by rfl) ?_) | (refine lA rfl hL rfl rfl HasV.mem (by rfl) ?_) | (refine lF rfl hL rfl rfl HasV.mem SegC.seg ?_))) | ((with_reducible refine qC rfl rfl ?_); (first | (refine lH rfl hL rfl rfl rfl cy (by rfl) ?_) | (refine lG rfl hL rfl rfl rfl cy (by rfl) (by rfl) ?_)); clear hL; intro wq hL) | ((with_reducible refine qA rfl rfl ?_ ?_); (exact wz rfl rfl rfl (by with_reducible rfl)); (first | (refine lD (wz rfl rfl rfl rfl) hL rfl rfl HasV.mem (by rfl) ?_) | (refine lB (wz rfl rfl rfl rfl) hL rfl rfl HasV.mem (by rfl) ?_) | (refine lE (wz rfl rfl rfl rfl) hL rfl rfl HasV.mem SegC.seg ?_))))
    (try simp only [Act.put, zs, zt, zu])
    refine wp_region_ext (by kernel_rfl) (by kernel_rfl) ?_
    repeat (first | (go_big_quiet_want; (first | refine qH hL rfl rfl HasV.mem (by rfl) ?_ | refine qG hL rfl rfl HasV.mem (by rfl) ?_ | refine qI hL rfl rfl HasV.mem SegC.seg ?_); go_big_quiet_on; simp only [Act.put, zs, zt, zu]) | go_big_quiet_step (fail))
    refine wpQuiet_nil ?_
    rintro _ ⟨⟨w9, hb9⟩, rfl⟩
    replace hL := hL.call hb9
    clear hb9
    go_wp2_with (first | ((with_reducible refine qD rfl rfl ?_); (refine lI rfl hL rfl cy ?_; clear hL; intro gq wq hL)) | ((with_reducible refine qE rfl rfl ?_); (refine lJ rfl hL rfl rfl cy ?_; clear hL; intro gq wq hL)) | ((with_reducible refine qB rfl rfl ?_); (first | (refine lC rfl hL rfl rfl HasV.mem (by rfl) ?_) | (refine lA rfl hL rfl rfl HasV.mem (by rfl) ?_) | (refine lF rfl hL rfl rfl HasV.mem SegC.seg ?_))) | ((with_reducible refine qC rfl rfl ?_); (first | (refine lH rfl hL rfl rfl rfl cy (by rfl) ?_) | (refine lG rfl hL rfl rfl rfl cy (by rfl) (by rfl) ?_)); clear hL; intro wq hL) | ((with_reducible refine qA rfl rfl ?_ ?_); (exact wz rfl rfl rfl (by with_reducible rfl)); (first | (refine lD (wz rfl rfl rfl rfl) hL rfl rfl HasV.mem (by rfl) ?_) | (refine lB (wz rfl rfl rfl rfl) hL rfl rfl HasV.mem (by rfl) ?_) | (refine lE (wz rfl rfl rfl rfl) hL rfl rfl HasV.mem SegC.seg ?_))))
    go_ret
    exact ⟨by rw [HF.out]; rfl, hL.below⟩
  have t2 : decide (a2 > b2) = false := decide_eq_false (by omega)
  have H2 := Lib.hid h2
  clear h2
  go_wp2_with (first | ((with_reducible refine qD rfl rfl ?_); (refine lI rfl hL rfl cy ?_; clear hL; intro gq wq hL)) | ((with_reducible refine qE rfl rfl ?_); (refine lJ rfl hL rfl rfl cy ?_; clear hL; intro gq wq hL)) | ((with_reducible refine qB rfl rfl ?_); (first | (refine lC rfl hL rfl rfl HasV.mem (by rfl) ?_) | (refine lA rfl hL rfl rfl HasV.mem (by rfl) ?_) | (refine lF rfl hL rfl rfl HasV.mem SegC.seg ?_))) | ((with_reducible refine qC rfl rfl ?_); (first | (refine lH rfl hL rfl rfl rfl cy (by rfl) ?_) | (refine lG rfl hL rfl rfl rfl cy (by rfl) (by rfl) ?_)); clear hL; intro wq hL) | ((with_reducible refine qA rfl rfl ?_ ?_); (exact wz rfl rfl rfl (by with_reducible rfl)); (first | (refine lD (wz rfl rfl rfl rfl) hL rfl rfl HasV.mem (by rfl) ?_) | (refine lB (wz rfl rfl rfl rfl) hL rfl rfl HasV.mem (by rfl) ?_) | (refine lE (wz rfl rfl rfl rfl) hL rfl rfl HasV.mem SegC.seg ?_))))
  (try simp only [Act.put, zs, zt, zu])
  refine wp_region_ext (by kernel_rfl) (by kernel_rfl) ?_
  repeat (first | (go_big_quiet_want; (first | refine qH hL rfl rfl HasV.mem (by rfl) ?_ | refine qG hL rfl rfl HasV.mem (by rfl) ?_ | refine qI hL rfl rfl HasV.mem SegC.seg ?_); go_big_quiet_on; simp only [Act.put, zs, zt, zu]) | go_big_quiet_step (fail))
  refine wpQuiet_nil ?_
  rintro _ ⟨⟨w9, hb9⟩, rfl⟩
  replace hL := hL.call hb9
  clear hb9
  go_wp2_with (first | ((with_reducible refine qD rfl rfl ?_); (refine lI rfl hL rfl cy ?_; clear hL; intro gq wq hL)) | ((with_reducible refine qE rfl rfl ?_); (refine lJ rfl hL rfl rfl cy ?_; clear hL; intro gq wq hL)) | ((with_reducible refine qB rfl rfl ?_); (first | (refine lC rfl hL rfl rfl HasV.mem (by rfl) ?_) | (refine lA rfl hL rfl rfl HasV.mem (by rfl) ?_) | (refine lF rfl hL rfl rfl HasV.mem SegC.seg ?_))) | ((with_reducible refine qC rfl rfl ?_); (first | (refine lH rfl hL rfl rfl rfl cy (by rfl) ?_) | (refine lG rfl hL rfl rfl rfl cy (by rfl) (by rfl) ?_)); clear hL; intro wq hL) | ((with_reducible refine qA rfl rfl ?_ ?_); (exact wz rfl rfl rfl (by with_reducible rfl)); (first | (refine lD (wz rfl rfl rfl rfl) hL rfl rfl HasV.mem (by rfl) ?_) | (refine lB (wz rfl rfl rfl rfl) hL rfl rfl HasV.mem (by rfl) ?_) | (refine lE (wz rfl rfl rfl rfl) hL rfl rfl HasV.mem SegC.seg ?_))))
  rw [rounds_succ]
  by_cases h3 : a3 ≤ b3
  rotate_left
  · have t3 : decide (a3 > b3) = true := decide_eq_true (by omega)
    have HF : Hid (R = false) := Lib.hid (by
      cases hR9 : R with
      | false => rfl
      | true => have := HR.out.1 hR9; omega)
    clear h3
    go_wp2_with (first | ((with_reducible refine qD rfl rfl ?_); (refine lI rfl hL rfl cy ?_; clear hL; intro gq wq hL)) | ((with_reducible refine qE rfl rfl ?_); (refine lJ rfl hL rfl rfl cy ?_; clear hL; intro gq wq hL)) | ((with_reducible refine qB rfl rfl ?_); (first | (refine lC rfl hL rfl rfl HasV.mem (by rfl) ?_) | (refine lA rfl hL rfl rfl HasV.mem (by rfl) ?_) | (refine lF rfl hL rfl rfl HasV.mem SegC.seg ?_))) | ((with_reducible refine qC rfl rfl ?_); (first | (refine lH rfl hL rfl rfl rfl cy (by rfl) ?_) | (refine lG rfl hL rfl rfl rfl cy (by rfl) (by rfl) ?_)); clear hL; intro wq hL) | ((with_reducible refine qA rfl rfl ?_ ?_); (exact wz rfl rfl rfl (by with_reducible rfl)); (first | (refine lD (wz rfl rfl rfl rfl) hL rfl rfl HasV.mem (by rfl) ?_) | (refine lB (wz rfl rfl rfl rfl) hL rfl rfl HasV.mem (by rfl) ?_) | (refine lE (wz rfl rfl rfl rfl) hL rfl rfl HasV.mem SegC.seg ?_))))
    (try simp only [Act.put, zs, zt, zu])
    refine wp_region_ext (by kernel_rfl) (by kernel_rfl) ?_
    repeat (first | (go_big_quiet_want; (first | refine qH hL rfl rfl HasV.mem (by rfl) ?_ | refine qG hL rfl rfl HasV.mem (by rfl) ?_ | refine qI hL rfl rfl HasV.mem SegC.seg ?_); go_big_quiet_on; simp only [Act.put, zs, zt, zu]) | go_big_quiet_step (fail))
    refine wpQuiet_nil ?_
    rintro _ ⟨⟨w9, hb9⟩, rfl⟩
    replace hL := hL.call hb9
    clear hb9
    go_wp2_with (first | ((with_reducible refine qD rfl rfl ?_); (refine lI rfl hL rfl cy ?_; clear hL; intro gq wq hL)) | ((with_reducible refine qE rfl rfl ?_); (refine lJ rfl hL rfl rfl cy ?_; clear hL; intro gq wq hL)) | ((with_reducible refine qB rfl rfl ?_); (first | (refine lC rfl hL rfl rfl HasV.mem (by rfl) ?_) | (refine lA rfl hL rfl rfl HasV.mem (by rfl) ?_) | (refine lF rfl hL rfl rfl HasV.mem SegC.seg ?_))) | ((with_reducible refine qC rfl rfl ?_); (first | (refine lH rfl hL rfl rfl rfl cy (by rfl) ?_) | (refine lG rfl hL rfl rfl rfl cy (by rfl) (by rfl) ?_)); clear hL; intro wq hL) | ((with_reducible refine qA rfl rfl ?_ ?_); (exact wz rfl rfl rfl (by with_reducible rfl)); (first | (refine lD (wz rfl rfl rfl rfl) hL rfl rfl HasV.mem (by rfl) ?_) | (refine lB (wz rfl rfl rfl rfl) hL rfl rfl HasV.mem (by rfl) ?_) | (refine lE (wz rfl rfl rfl rfl) hL rfl rfl HasV.mem SegC.seg ?_))))
    go_ret
    exact ⟨by rw [HF.out]; rfl, hL.below⟩
  have t3 : decide (a3 > b3) = false := decide_eq_false (by omega)
  have H3 := Lib.hid h3
  clear h3
  go_wp2_with (first | ((with_reducible refine qD rfl rfl ?_); (refine lI rfl hL rfl cy ?_; clear hL; intro gq wq hL)) | ((with_reducible refine qE rfl rfl ?_); (refine lJ rfl hL rfl rfl cy ?_; clear hL; intro gq wq hL)) | ((with_reducible refine qB rfl rfl ?_); (first | (refine lC rfl hL rfl rfl HasV.mem (by rfl) ?_) | (refine lA rfl hL rfl rfl HasV.mem (by rfl) ?_) | (refine lF rfl hL rfl rfl HasV.mem SegC.seg ?_))) | ((with_reducible refine qC rfl rfl ?_); (first | (refine lH rfl hL rfl rfl rfl cy (by rfl) ?_) | (refine lG rfl hL rfl rfl rfl cy (by rfl) (by rfl) ?_)); clear hL; intro wq hL) | ((with_reducible refine qA rfl rfl ?_ ?_); (exact wz rfl rfl rfl (by with_reducible rfl)); (first | (refine lD (wz rfl rfl rfl rfl) hL rfl rfl HasV.mem (by rfl) ?_) | (refine lB (wz rfl rfl rfl rfl) hL rfl rfl HasV.mem (by rfl) ?_) | (refine lE (wz rfl rfl rfl rfl) hL rfl rfl HasV.mem SegC.seg ?_))))
  (try simp only [Act.put, zs, zt, zu])
  refine wp_region_ext (by kernel_rfl) (by kernel_rfl) ?_
  repeat (first | (go_big_quiet_want; (first | refine qH hL rfl rfl HasV.mem (by rfl) ?_ | refine qG hL rfl rfl HasV.mem (by rfl) ?_ | refine qI hL rfl rfl HasV.mem SegC.seg ?_); go_big_quiet_on; simp only [Act.put, zs, zt, zu]) | go_big_quiet_step (fail))
  refine wpQuiet_nil ?_
  rintro _ ⟨⟨w9, hb9⟩, rfl⟩
  replace hL := hL.call hb9
  clear hb9
  go_wp2_with (first | ((with_reducible refine qD rfl rfl ?_); (refine lI rfl hL rfl cy ?_; clear hL; intro gq wq hL)) | ((with_reducible refine qE rfl rfl ?_); (refine lJ rfl hL rfl rfl cy ?_; clear hL; intro gq wq hL)) | ((with_reducible refine qB rfl rfl ?_); (first | (refine lC rfl hL rfl rfl HasV.mem (by rfl) ?_) | (refine lA rfl hL rfl rfl HasV.mem (by rfl) ?_) | (refine lF rfl hL rfl rfl HasV.mem SegC.seg ?_))) | ((with_reducible refine qC rfl rfl ?_); (first | (refine lH rfl hL rfl rfl rfl cy (by rfl) ?_) | (refine lG rfl hL rfl rfl rfl cy (by rfl) (by rfl) ?_)); clear hL; intro wq hL) | ((with_reducible refine qA rfl rfl ?_ ?_); (exact wz rfl rfl rfl (by with_reducible rfl)); (first | (refine lD (wz rfl rfl rfl rfl) hL rfl rfl HasV.mem (by rfl) ?_) | (refine lB (wz rfl rfl rfl rfl) hL rfl rfl HasV.mem (by rfl) ?_) | (refine lE (wz rfl rfl rfl rfl) hL rfl rfl HasV.mem SegC.seg ?_))))
  rw [rounds_succ]
  by_cases h4 : a4 ≤ b4
  rotate_left
  · have t4 : decide (a4 > b4) = true := decide_eq_true (by omega)
    have HF : Hid (R = false) := Lib.hid (by
      cases hR9 : R with
      | false => rfl
      | true => have := HR.out.1 hR9; omega)
    clear h4
    go_wp2_with (first | ((with_reducible refine qD rfl rfl ?_); (refine lI rfl hL rfl cy ?_; clear hL; intro gq wq hL)) | ((with_reducible refine qE rfl rfl ?_); (refine lJ rfl hL rfl rfl cy ?_; clear hL; intro gq wq hL)) | ((with_reducible refine qB rfl rfl ?_); (first | (refine lC rfl hL rfl rfl HasV.mem (by rfl) ?_) | (refine lA rfl hL rfl rfl HasV.mem (by rfl) ?_) | (refine lF rfl hL rfl rfl HasV.mem SegC.seg ?_))) | ((with_reducible refine qC rfl rfl ?_); (first | (refine lH rfl hL rfl rfl rfl cy (by rfl) ?_) | (refine lG rfl hL rfl rfl rfl cy (by rfl) (by rfl) ?_)); clear hL; intro wq hL) | ((with_reducible refine qA rfl rfl ?_ ?_); (exact wz rfl rfl rfl (by with_reducible rfl)); (first | (refine lD (wz rfl rfl rfl rfl) hL rfl rfl HasV.mem (by rfl) ?_) | (refine lB (wz rfl rfl rfl rfl) hL rfl rfl HasV.mem (by rfl) ?_) | (refine lE (wz rfl rfl rfl rfl) hL rfl rfl HasV.mem SegC.seg ?_))))
    (try simp only [Act.put, zs, zt, zu])
    refine wp_region_ext (by kernel_rfl) (by kernel_rfl) ?_
    repeat (first | (go_big_quiet_want; (first | refine qH hL rfl rfl HasV.mem (by rfl) ?_ | refine qG hL rfl rfl HasV.mem (by rfl) ?_ | refine qI hL rfl rfl HasV.mem SegC.seg ?_); go_big_quiet_on; simp only [Act.put, zs, zt, zu]) | go_big_quiet_step (fail))
    refine wpQuiet_nil ?_
    rintro _ ⟨⟨w9, hb9⟩, rfl⟩
    replace hL := hL.call hb9
    clear hb9
    go_wp2_with (first | ((with_reducible refine qD rfl rfl ?_); (refine lI rfl hL rfl cy ?_; clear hL; intro gq wq hL)) | ((with_reducible refine qE rfl rfl ?_); (refine lJ rfl hL rfl rfl cy ?_; clear hL; intro gq wq hL)) | ((with_reducible refine qB rfl rfl ?_); (first | (refine lC rfl hL rfl rfl HasV.mem (by rfl) ?_) | (refine lA rfl hL rfl rfl HasV.mem (by rfl) ?_) | (refine lF rfl hL rfl rfl HasV.mem SegC.seg ?_))) | ((with_reducible refine qC rfl rfl ?_); (first | (refine lH rfl hL rfl rfl rfl cy (by rfl) ?_) | (refine lG rfl hL rfl rfl rfl cy (by rfl) (by rfl) ?_)); clear hL; intro wq hL) | ((with_reducible refine qA rfl rfl ?_ ?_); (exact wz rfl rfl rfl (by with_reducible rfl)); (first | (refine lD (wz rfl rfl rfl rfl) hL rfl rfl HasV.mem (by rfl) ?_) | (refine lB (wz rfl rfl rfl rfl) hL rfl rfl HasV.mem (by rfl) ?_) | (refine lE (wz rfl rfl rfl rfl) hL rfl rfl HasV.mem SegC.seg ?_))))
    go_ret
    exact ⟨by rw [HF.out]; rfl, hL.below⟩
  have t4 : decide (a4 > b4) = false := decide_eq_false (by omega)
  have H4 := Lib.hid h4
  clear h4
  go_wp2_with (first | ((with_reducible refine qD rfl rfl ?_); (refine lI rfl hL rfl cy ?_; clear hL; intro gq wq hL)) | ((with_reducible refine qE rfl rfl ?_); (refine lJ rfl hL rfl rfl cy ?_; clear hL; intro gq wq hL)) | ((with_reducible refine qB rfl rfl ?_); (first | (refine lC rfl hL rfl rfl HasV.mem (by rfl) ?_) | (refine lA rfl hL rfl rfl HasV.mem (by rfl) ?_) | (refine lF rfl hL rfl rfl HasV.mem SegC.seg ?_))) | ((with_reducible refine qC rfl rfl ?_); (first | (refine lH rfl hL rfl rfl rfl cy (by rfl) ?_) | (refine lG rfl hL rfl rfl rfl cy (by rfl) (by rfl) ?_)); clear hL; intro wq hL) | ((with_reducible refine qA rfl rfl ?_ ?_); (exact wz rfl rfl rfl (by with_reducible rfl)); (first | (refine lD (wz rfl rfl rfl rfl) hL rfl rfl HasV.mem (by rfl) ?_) | (refine lB (wz rfl rfl rfl rfl) hL rfl rfl HasV.mem (by rfl) ?_) | (refine lE (wz rfl rfl rfl rfl) hL rfl rfl HasV.mem SegC.seg ?_))))
  (try simp only [Act.put, zs, zt, zu])
  refine wp_region_ext (by kernel_rfl) (by kernel_rfl) ?_
  repeat (first | (go_big_quiet_want; (first | refine qH hL rfl rfl HasV.mem (by rfl) ?_ | refine qG hL rfl rfl HasV.mem (by rfl) ?_ | refine qI hL rfl rfl HasV.mem SegC.seg ?_); go_big_quiet_on; simp only [Act.put, zs, zt, zu]) | go_big_quiet_step (fail))
  refine wpQuiet_nil ?_
  rintro _ ⟨⟨w9, hb9⟩, rfl⟩
  replace hL := hL.call hb9
  clear hb9
  go_wp2_with (first | ((with_reducible refine qD rfl rfl ?_); (refine lI rfl hL rfl cy ?_; clear hL; intro gq wq hL)) | ((with_reducible refine qE rfl rfl ?_); (refine lJ rfl hL rfl rfl cy ?_; clear hL; intro gq wq hL)) | ((with_reducible refine qB rfl rfl ?_); (first | (refine lC rfl hL rfl rfl HasV.mem (by rfl) ?_) | (refine lA rfl hL rfl rfl HasV.mem (by rfl) ?_) | (refine lF rfl hL rfl rfl HasV.mem SegC.seg ?_))) | ((with_reducible refine qC rfl rfl ?_); (first | (refine lH rfl hL rfl rfl rfl cy (by rfl) ?_) | (refine lG rfl hL rfl rfl rfl cy (by rfl) (by rfl) ?_)); clear hL; intro wq hL) | ((with_reducible refine qA rfl rfl ?_ ?_); (exact wz rfl rfl rfl (by with_reducible rfl)); (first | (refine lD (wz rfl rfl rfl rfl) hL rfl rfl HasV.mem (by rfl) ?_) | (refine lB (wz rfl rfl rfl rfl) hL rfl rfl HasV.mem (by rfl) ?_) | (refine lE (wz rfl rfl rfl rfl) hL rfl rfl HasV.mem SegC.seg ?_))))
  rw [rounds_succ]
  by_cases h5 : a5 ≤ b5
  rotate_left
  · have t5 : decide (a5 > b5) = true := decide_eq_true (by omega)
    have HF : Hid (R = false) := Lib.hid (by
      cases hR9 : R with
      | false => rfl
      | true => have := HR.out.1 hR9; omega)
    clear h5
    go_wp2_with (first | ((with_reducible refine qD rfl rfl ?_); (refine lI rfl hL rfl cy ?_; clear hL; intro gq wq hL)) | ((with_reducible refine qE rfl rfl ?_); (refine lJ rfl hL rfl rfl cy ?_; clear hL; intro gq wq hL)) | ((with_reducible refine qB rfl rfl ?_); (first | (refine lC rfl hL rfl rfl HasV.mem (by rfl) ?_) | (refine lA rfl hL rfl rfl HasV.mem (by rfl) ?_) | (refine lF rfl hL rfl rfl HasV.mem SegC.seg ?_))) | ((with_reducible refine qC rfl rfl ?_); (first | (refine lH rfl hL rfl rfl rfl cy (by rfl) ?_) | (refine lG rfl hL rfl rfl rfl cy (by rfl) (by rfl) ?_)); clear hL; intro wq hL) | ((with_reducible refine qA rfl rfl ?_ ?_); (exact wz rfl rfl rfl (by with_reducible rfl)); (first | (refine lD (wz rfl rfl rfl rfl) hL rfl rfl HasV.mem (by rfl) ?_) | (refine lB (wz rfl rfl rfl rfl) hL rfl rfl HasV.mem (by rfl) ?_) | (refine lE (wz rfl rfl rfl rfl) hL rfl rfl HasV.mem SegC.seg ?_))))
    (try simp only [Act.put, zs, zt, zu])
    refine wp_region_ext (by kernel_rfl) (by kernel_rfl) ?_
    repeat (first | (go_big_quiet_want; (first | refine qH hL rfl rfl HasV.mem (by rfl) ?_ | refine qG hL rfl rfl HasV.mem (by rfl) ?_ | refine qI hL rfl rfl HasV.mem SegC.seg ?_); go_big_quiet_on; simp only [Act.put, zs, zt, zu]) | go_big_quiet_step (fail))
    refine wpQuiet_nil ?_
    rintro _ ⟨⟨w9, hb9⟩, rfl⟩
    replace hL := hL.call hb9
    clear hb9
    go_wp2_with (first | ((with_reducible refine qD rfl rfl ?_); (refine lI rfl hL rfl cy ?_; clear hL; intro gq wq hL)) | ((with_reducible refine qE rfl rfl ?_); (refine lJ rfl hL rfl rfl cy ?_; clear hL; intro gq wq hL)) | ((with_reducible refine qB rfl rfl ?_); (first | (refine lC rfl hL rfl rfl HasV.mem (by rfl) ?_) | (refine lA rfl hL rfl rfl HasV.mem (by rfl) ?_) | (refine lF rfl hL rfl rfl HasV.mem SegC.seg ?_))) | ((with_reducible refine qC rfl rfl ?_); (first | (refine lH rfl hL rfl rfl rfl cy (by rfl) ?_) | (refine lG rfl hL rfl rfl rfl cy (by rfl) (by rfl) ?_)); clear hL; intro wq hL) | ((with_reducible refine qA rfl rfl ?_ ?_); (exact wz rfl rfl rfl (by with_reducible rfl)); (first | (refine lD (wz rfl rfl rfl rfl) hL rfl rfl HasV.mem (by rfl) ?_) | (refine lB (wz rfl rfl rfl rfl) hL rfl rfl HasV.mem (by rfl) ?_) | (refine lE (wz rfl rfl rfl rfl) hL rfl rfl HasV.mem SegC.seg ?_))))
    go_ret
    exact ⟨by rw [HF.out]; rfl, hL.below⟩
  have t5 : decide (a5 > b5) = false := decide_eq_false (by omega)
  have H5 := Lib.hid h5
  clear h5
  go_wp2_with (first | ((with_reducible refine qD rfl rfl ?_); (refine lI rfl hL rfl cy ?_; clear hL; intro gq wq hL)) | ((with_reducible refine qE rfl rfl ?_); (refine lJ rfl hL rfl rfl cy ?_; clear hL; intro gq wq hL)) | ((with_reducible refine qB rfl rfl ?_); (first | (refine lC rfl hL rfl rfl HasV.mem (by rfl) ?_) | (refine lA rfl hL rfl rfl HasV.mem (by rfl) ?_) | (refine lF rfl hL rfl rfl HasV.mem SegC.seg ?_))) | ((with_reducible refine qC rfl rfl ?_); (first | (refine lH rfl hL rfl rfl rfl cy (by rfl) ?_) | (refine lG rfl hL rfl rfl rfl cy (by rfl) (by rfl) ?_)); clear hL; intro wq hL) | ((with_reducible refine qA rfl rfl ?_ ?_); (exact wz rfl rfl rfl (by with_reducible rfl)); (first | (refine lD (wz rfl rfl rfl rfl) hL rfl rfl HasV.mem (by rfl) ?_) | (refine lB (wz rfl rfl rfl rfl) hL rfl rfl HasV.mem (by rfl) ?_) | (refine lE (wz rfl rfl rfl rfl) hL rfl rfl HasV.mem SegC.seg ?_))))
  (try simp only [Act.put, zs, zt, zu])
  refine wp_region_ext (by kernel_rfl) (by kernel_rfl) ?_
  repeat (first | (go_big_quiet_want; (first | refine qH hL rfl rfl HasV.mem (by rfl) ?_ | refine qG hL rfl rfl HasV.mem (by rfl) ?_ | refine qI hL rfl rfl HasV.mem SegC.seg ?_); go_big_quiet_on; simp only [Act.put, zs, zt, zu]) | go_big_quiet_step (fail))
  refine wpQuiet_nil ?_
  rintro _ ⟨⟨w9, hb9⟩, rfl⟩
  replace hL := hL.call hb9
  clear hb9
  go_wp2_with (first | ((with_reducible refine qD rfl rfl ?_); (refine lI rfl hL rfl cy ?_; clear hL; intro gq wq hL)) | ((with_reducible refine qE rfl rfl ?_); (refine lJ rfl hL rfl rfl cy ?_; clear hL; intro gq wq hL)) | ((with_reducible refine qB rfl rfl ?_); (first | (refine lC rfl hL rfl rfl HasV.mem (by rfl) ?_) | (refine lA rfl hL rfl rfl HasV.mem (by rfl) ?_) | (refine lF rfl hL rfl rfl HasV.mem SegC.seg ?_))) | ((with_reducible refine qC rfl rfl ?_); (first | (refine lH rfl hL rfl rfl rfl cy (by rfl) ?_) | (refine lG rfl hL rfl rfl rfl cy (by rfl) (by rfl) ?_)); clear hL; intro wq hL) | ((with_reducible refine qA rfl rfl ?_ ?_); (exact wz rfl rfl rfl (by with_reducible rfl)); (first | (refine lD (wz rfl rfl rfl rfl) hL rfl rfl HasV.mem (by rfl) ?_) | (refine lB (wz rfl rfl rfl rfl) hL rfl rfl HasV.mem (by rfl) ?_) | (refine lE (wz rfl rfl rfl rfl) hL rfl rfl HasV.mem SegC.seg ?_))))
  rw [rounds_succ]
  by_cases h6 : a6 ≤ b6
  rotate_left
  · have t6 : decide (a6 > b6) = true := decide_eq_true (by omega)
    have HF : Hid (R = false) := Lib.hid (by
      cases hR9 : R with
      | false => rfl
      | true => have := HR.out.1 hR9; omega)
    clear h6
    go_wp2_with (first | ((with_reducible refine qD rfl rfl ?_); (refine lI rfl hL rfl cy ?_; clear hL; intro gq wq hL)) | ((with_reducible refine qE rfl rfl ?_); (refine lJ rfl hL rfl rfl cy ?_; clear hL; intro gq wq hL)) | ((with_reducible refine qB rfl rfl ?_); (first | (refine lC rfl hL rfl rfl HasV.mem (by rfl) ?_) | (refine lA rfl hL rfl rfl HasV.mem (by rfl) ?_) | (refine lF rfl hL rfl rfl HasV.mem SegC.seg ?_))) | ((with_reducible refine qC rfl rfl ?_); (first | (refine lH rfl hL rfl rfl rfl cy (by rfl) ?_) | (refine lG rfl hL rfl rfl rfl cy (by rfl) (by rfl) ?_)); clear hL; intro wq hL) | ((with_reducible refine qA rfl rfl ?_ ?_); (exact wz rfl rfl rfl (by with_reducible rfl)); (first | (refine lD (wz rfl rfl rfl rfl) hL rfl rfl HasV.mem (by rfl) ?_) | (refine lB (wz rfl rfl rfl rfl) hL rfl rfl HasV.mem (by rfl) ?_) | (refine lE (wz rfl rfl rfl rfl) hL rfl rfl HasV.mem SegC.seg ?_))))
    (try simp only [Act.put, zs, zt, zu])
    refine wp_region_ext (by kernel_rfl) (by kernel_rfl) ?_
    repeat (first | (go_big_quiet_want; (first | refine qH hL rfl rfl HasV.mem (by rfl) ?_ | refine qG hL rfl rfl HasV.mem (by rfl) ?_ | refine qI hL rfl rfl HasV.mem SegC.seg ?_); go_big_quiet_on; simp only [Act.put, zs, zt, zu]) | go_big_quiet_step (fail))
    refine wpQuiet_nil ?_
    rintro _ ⟨⟨w9, hb9⟩, rfl⟩
    replace hL := hL.call hb9
    clear hb9
    go_wp2_with (first | ((with_reducible refine qD rfl rfl ?_); (refine lI rfl hL rfl cy ?_; clear hL; intro gq wq hL)) | ((with_reducible refine qE rfl rfl ?_); (refine lJ rfl hL rfl rfl cy ?_; clear hL; intro gq wq hL)) | ((with_reducible refine qB rfl rfl ?_); (first | (refine lC rfl hL rfl rfl HasV.mem (by rfl) ?_) | (refine lA rfl hL rfl rfl HasV.mem (by rfl) ?_) | (refine lF rfl hL rfl rfl HasV.mem SegC.seg ?_))) | ((with_reducible refine qC rfl rfl ?_); (first | (refine lH rfl hL rfl rfl rfl cy (by rfl) ?_) | (refine lG rfl hL rfl rfl rfl cy (by rfl) (by rfl) ?_)); clear hL; intro wq hL) | ((with_reducible refine qA rfl rfl ?_ ?_); (exact wz rfl rfl rfl (by with_reducible rfl)); (first | (refine lD (wz rfl rfl rfl rfl) hL rfl rfl HasV.mem (by rfl) ?_) | (refine lB (wz rfl rfl rfl rfl) hL rfl rfl HasV.mem (by rfl) ?_) | (refine lE (wz rfl rfl rfl rfl) hL rfl rfl HasV.mem SegC.seg ?_))))
    go_ret
    exact ⟨by rw [HF.out]; rfl, hL.below⟩
  have t6 : decide (a6 > b6) = false := decide_eq_false (by omega)
  have H6 := Lib.hid h6
  clear h6
  go_wp2_with (first | ((with_reducible refine qD rfl rfl ?_); (refine lI rfl hL rfl cy ?_; clear hL; intro gq wq hL)) | ((with_reducible refine qE rfl rfl ?_); (refine lJ rfl hL rfl rfl cy ?_; clear hL; intro gq wq hL)) | ((with_reducible refine qB rfl rfl ?_); (first | (refine lC rfl hL rfl rfl HasV.mem (by rfl) ?_) | (refine lA rfl hL rfl rfl HasV.mem (by rfl) ?_) | (refine lF rfl hL rfl rfl HasV.mem SegC.seg ?_))) | ((with_reducible refine qC rfl rfl ?_); (first | (refine lH rfl hL rfl rfl rfl cy (by rfl) ?_) | (refine lG rfl hL rfl rfl rfl cy (by rfl) (by rfl) ?_)); clear hL; intro wq hL) | ((with_reducible refine qA rfl rfl ?_ ?_); (exact wz rfl rfl rfl (by with_reducible rfl)); (first | (refine lD (wz rfl rfl rfl rfl) hL rfl rfl HasV.mem (by rfl) ?_) | (refine lB (wz rfl rfl rfl rfl) hL rfl rfl HasV.mem (by rfl) ?_) | (refine lE (wz rfl rfl rfl rfl) hL rfl rfl HasV.mem SegC.seg ?_))))
  (try simp only [Act.put, zs, zt, zu])
  refine wp_region_ext (by kernel_rfl) (by kernel_rfl) ?_
  repeat (first | (go_big_quiet_want; (first | refine qH hL rfl rfl HasV.mem (by rfl) ?_ | refine qG hL rfl rfl HasV.mem (by rfl) ?_ | refine qI hL rfl rfl HasV.mem SegC.seg ?_); go_big_quiet_on; simp only [Act.put, zs, zt, zu]) | go_big_quiet_step (fail))
  refine wpQuiet_nil ?_
  rintro _ ⟨⟨w9, hb9⟩, rfl⟩
  replace hL := hL.call hb9
  clear hb9
  go_wp2_with (first | ((with_reducible refine qD rfl rfl ?_); (refine lI rfl hL rfl cy ?_; clear hL; intro gq wq hL)) | ((with_reducible refine qE rfl rfl ?_); (refine lJ rfl hL rfl rfl cy ?_; clear hL; intro gq wq hL)) | ((with_reducible refine qB rfl rfl ?_); (first | (refine lC rfl hL rfl rfl HasV.mem (by rfl) ?_) | (refine lA rfl hL rfl rfl HasV.mem (by rfl) ?_) | (refine lF rfl hL rfl rfl HasV.mem SegC.seg ?_))) | ((with_reducible refine qC rfl rfl ?_); (first | (refine lH rfl hL rfl rfl rfl cy (by rfl) ?_) | (refine lG rfl hL rfl rfl rfl cy (by rfl) (by rfl) ?_)); clear hL; intro wq hL) | ((with_reducible refine qA rfl rfl ?_ ?_); (exact wz rfl rfl rfl (by with_reducible rfl)); (first | (refine lD (wz rfl rfl rfl rfl) hL rfl rfl HasV.mem (by rfl) ?_) | (refine lB (wz rfl rfl rfl rfl) hL rfl rfl HasV.mem (by rfl) ?_) | (refine lE (wz rfl rfl rfl rfl) hL rfl rfl HasV.mem SegC.seg ?_))))
  rw [rounds_succ]
  by_cases h7 : a7 ≤ b7
  rotate_left
  · have t7 : decide (a7 > b7) = true := decide_eq_true (by omega)
    have HF : Hid (R = false) := Lib.hid (by
      cases hR9 : R with
      | false => rfl
      | true => have := HR.out.1 hR9; omega)
    clear h7
    go_wp2_with (first | ((with_reducible refine qD rfl rfl ?_); (refine lI rfl hL rfl cy ?_; clear hL; intro gq wq hL)) | ((with_reducible refine qE rfl rfl ?_); (refine lJ rfl hL rfl rfl cy ?_; clear hL; intro gq wq hL)) | ((with_reducible refine qB rfl rfl ?_); (first | (refine lC rfl hL rfl rfl HasV.mem (by rfl) ?_) | (refine lA rfl hL rfl rfl HasV.mem (by rfl) ?_) | (refine lF rfl hL rfl rfl HasV.mem SegC.seg ?_))) | ((with_reducible refine qC rfl rfl ?_); (first | (refine lH rfl hL rfl rfl rfl cy (by rfl) ?_) | (refine lG rfl hL rfl rfl rfl cy (by rfl) (by rfl) ?_)); clear hL; intro wq hL) | ((with_reducible refine qA rfl rfl ?_ ?_); (exact wz rfl rfl rfl (by with_reducible rfl)); (first | (refine lD (wz rfl rfl rfl rfl) hL rfl rfl HasV.mem (by rfl) ?_) | (refine lB (wz rfl rfl rfl rfl) hL rfl rfl HasV.mem (by rfl) ?_) | (refine lE (wz rfl rfl rfl rfl) hL rfl rfl HasV.mem SegC.seg ?_))))
    (try simp only [Act.put, zs, zt, zu])
    refine wp_region_ext (by kernel_rfl) (by kernel_rfl) ?_
    repeat (first | (go_big_quiet_want; (first | refine qH hL rfl rfl HasV.mem (by rfl) ?_ | refine qG hL rfl rfl HasV.mem (by rfl) ?_ | refine qI hL rfl rfl HasV.mem SegC.seg ?_); go_big_quiet_on; simp only [Act.put, zs, zt, zu]) | go_big_quiet_step (fail))
    refine wpQuiet_nil ?_
    rintro _ ⟨⟨w9, hb9⟩, rfl⟩
    replace hL := hL.call hb9
    clear hb9
    go_wp2_with (first | ((with_reducible refine qD rfl rfl ?_); (refine lI rfl hL rfl cy ?_; clear hL; intro gq wq hL)) | ((with_reducible refine qE rfl rfl ?_); (refine lJ rfl hL rfl rfl cy ?_; clear hL; intro gq wq hL)) | ((with_reducible refine qB rfl rfl ?_); (first | (refine lC rfl hL rfl rfl HasV.mem (by rfl) ?_) | (refine lA rfl hL rfl rfl HasV.mem (by rfl) ?_) | (refine lF rfl hL rfl rfl HasV.mem SegC.seg ?_))) | ((with_reducible refine qC rfl rfl ?_); (first | (refine lH rfl hL rfl rfl rfl cy (by rfl) ?_) | (refine lG rfl hL rfl rfl rfl cy (by rfl) (by rfl) ?_)); clear hL; intro wq hL) | ((with_reducible refine qA rfl rfl ?_ ?_); (exact wz rfl rfl rfl (by with_reducible rfl)); (first | (refine lD (wz rfl rfl rfl rfl) hL rfl rfl HasV.mem (by rfl) ?_) | (refine lB (wz rfl rfl rfl rfl) hL rfl rfl HasV.mem (by rfl) ?_) | (refine lE (wz rfl rfl rfl rfl) hL rfl rfl HasV.mem SegC.seg ?_))))
    go_ret
    exact ⟨by rw [HF.out]; rfl, hL.below⟩
  have t7 : decide (a7 > b7) = false := decide_eq_false (by omega)
  have H7 := Lib.hid h7
  clear h7
  go_wp2_with (first | ((with_reducible refine qD rfl rfl ?_); (refine lI rfl hL rfl cy ?_; clear hL; intro gq wq hL)) | ((with_reducible refine qE rfl rfl ?_); (refine lJ rfl hL rfl rfl cy ?_; clear hL; intro gq wq hL)) | ((with_reducible refine qB rfl rfl ?_); (first | (refine lC rfl hL rfl rfl HasV.mem (by rfl) ?_) | (refine lA rfl hL rfl rfl HasV.mem (by rfl) ?_) | (refine lF rfl hL rfl rfl HasV.mem SegC.seg ?_))) | ((with_reducible refine qC rfl rfl ?_); (first | (refine lH rfl hL rfl rfl rfl cy (by rfl) ?_) | (refine lG rfl hL rfl rfl rfl cy (by rfl) (by rfl) ?_)); clear hL; intro wq hL) | ((with_reducible refine qA rfl rfl ?_ ?_); (exact wz rfl rfl rfl (by with_reducible rfl)); (first | (refine lD (wz rfl rfl rfl rfl) hL rfl rfl HasV.mem (by rfl) ?_) | (refine lB (wz rfl rfl rfl rfl) hL rfl rfl HasV.mem (by rfl) ?_) | (refine lE (wz rfl rfl rfl rfl) hL rfl rfl HasV.mem SegC.seg ?_))))
  (try simp only [Act.put, zs, zt, zu])
  refine wp_region_ext (by kernel_rfl) (by kernel_rfl) ?_
  repeat (first | (go_big_quiet_want; (first | refine qH hL rfl rfl HasV.mem (by rfl) ?_ | refine qG hL rfl rfl HasV.mem (by rfl) ?_ | refine qI hL rfl rfl HasV.mem SegC.seg ?_); go_big_quiet_on; simp only [Act.put, zs, zt, zu]) | go_big_quiet_step (fail))
  refine wpQuiet_nil ?_
  rintro _ ⟨⟨w9, hb9⟩, rfl⟩
  replace hL := hL.call hb9
  clear hb9
  go_wp2_with (first | ((with_reducible refine qD rfl rfl ?_); (refine lI rfl hL rfl cy ?_; clear hL; intro gq wq hL)) | ((with_reducible refine qE rfl rfl ?_); (refine lJ rfl hL rfl rfl cy ?_; clear hL; intro gq wq hL)) | ((with_reducible refine qB rfl rfl ?_); (first | (refine lC rfl hL rfl rfl HasV.mem (by rfl) ?_) | (refine lA rfl hL rfl rfl HasV.mem (by rfl) ?_) | (refine lF rfl hL rfl rfl HasV.mem SegC.seg ?_))) | ((with_reducible refine qC rfl rfl ?_); (first | (refine lH rfl hL rfl rfl rfl cy (by rfl) ?_) | (refine lG rfl hL rfl rfl rfl cy (by rfl) (by rfl) ?_)); clear hL; intro wq hL) | ((with_reducible refine qA rfl rfl ?_ ?_); (exact wz rfl rfl rfl (by with_reducible rfl)); (first | (refine lD (wz rfl rfl rfl rfl) hL rfl rfl HasV.mem (by rfl) ?_) | (refine lB (wz rfl rfl rfl rfl) hL rfl rfl HasV.mem (by rfl) ?_) | (refine lE (wz rfl rfl rfl rfl) hL rfl rfl HasV.mem SegC.seg ?_))))
  rw [rounds_succ]
  go_wp2_with (first | ((with_reducible refine qD rfl rfl ?_); (refine lI rfl hL rfl cy ?_; clear hL; intro gq wq hL)) | ((with_reducible refine qE rfl rfl ?_); (refine lJ rfl hL rfl rfl cy ?_; clear hL; intro gq wq hL)) | ((with_reducible refine qB rfl rfl ?_); (first | (refine lC rfl hL rfl rfl HasV.mem (by rfl) ?_) | (refine lA rfl hL rfl rfl HasV.mem (by rfl) ?_) | (refine lF rfl hL rfl rfl HasV.mem SegC.seg ?_))) | ((with_reducible refine qC rfl rfl ?_); (first | (refine lH rfl hL rfl rfl rfl cy (by rfl) ?_) | (refine lG rfl hL rfl rfl rfl cy (by rfl) (by rfl) ?_)); clear hL; intro wq hL) | ((with_reducible refine qA rfl rfl ?_ ?_); (exact wz rfl rfl rfl (by with_reducible rfl)); (first | (refine lD (wz rfl rfl rfl rfl) hL rfl rfl HasV.mem (by rfl) ?_) | (refine lB (wz rfl rfl rfl rfl) hL rfl rfl HasV.mem (by rfl) ?_) | (refine lE (wz rfl rfl rfl rfl) hL rfl rfl HasV.mem SegC.seg ?_))))
  go_ret
  exact ⟨by rw [HR.out.2 ⟨H0.out, H1.out, H2.out, H3.out, H4.out, H5.out, H6.out, H7.out⟩]; rfl, hL.below⟩
end Go.Proofs.Ytebpacmhdkgfeaa


/- Rows of one's own: what they are; calls that turn them; two slices read. Over any program. -/
namespace Go.Proofs.Ytebpacmhdkgfeaa
open Go.RowKit

theorem R_none {α : Type} (E : Enc α) (w : World) : E.R w (.slice none 0 0) [] := (Enc.O.none (E := E) w 0 0).read
theorem own_casesG {α : Type} {E : Enc α} {w0 w : World} {M : Nat → Prop} {l : List Item} {u : Value} {xs : List α} {base : Nat} {te : TypeId} (hL : Loc w0 M w (row E base te u xs :: l)) : (u = .slice none 0 0 ∧ xs = []) ∨ ∃ g c, u = .slice (some ⟨g, 0, none⟩) xs.length c ∧ xs.length ≤ c ∧ c ≤ 9223372036854775807 ∧ base ≤ g := by
  have h := hL.own (E := E) (.head _)
  rcases h.2 with ⟨rfl, h0⟩ | ⟨g, c, cur, rfl, hb, hg, h1, h2, h3⟩
  · exact .inl ⟨rfl, List.eq_nil_of_length_eq_zero h0⟩
  · exact .inr ⟨g, c, rfl, h1, by unfold maxLen at h2; omega, hb⟩
theorem Loc.thenRowG {α : Type} {E : Enc α} {te : TypeId} {w0 w w1 : World} {g n c m d base : Nat} {xs ys : List α} (h : Loc w0 NoM w [row E base te (.slice (some ⟨g, 0, none⟩) n c) xs]) (h2 : Loc w (· = g) w1 [row E base te (.slice (some ⟨g, 0, none⟩) m d) ys]) (hg : w0.heap.size ≤ g) :
    Loc w0 NoM w1 [row E base te (.slice (some ⟨g, 0, none⟩) m d) ys] := by
  refine ⟨h.mod.trans h2.mod fun b hb e => ?_, h2.at_, fun i hi k hk => ?_, h2.apart⟩
  · have e' : b = g := e
    omega
  · rw [List.mem_singleton.1 hi] at hk
    have hk' : (Value.slice (some ⟨g, 0, none⟩) m d).ownBlock = some k := hk
    injection hk' with hk'
    subst hk'
    exact .inl hg
theorem Loc.rowNil' {w0 w : World} {M : Nat → Prop} {l : List Item} (h : Loc w0 M w l) {α : Type} (E : Enc α) (base : Nat) (e : TypeId) : Loc w0 M w (row E base e (.slice none 0 0) [] :: l) :=
  h.callNew (Below.refl _ _) (row_at (Enc.O.none _ _ _)) fun k hk => by cases hk
theorem two_rows {α : Type} {E : Enc α} {w : World} {s t : Sl} {xs ys : List α} (h1 : E.R w s.val xs) (h2 : E.R w t.val ys) : ∀ i (p : i < [s, t].length) (q : i < [xs, ys].length), E.R w [s, t][i].val [xs, ys][i]
  | 0, _, _ => h1
  | 1, _, _ => h2
  | i + 2, p, _ => by simp at p; omega
end Go.Proofs.Ytebpacmhdkgfeaa


/- slices.Grow of nil, and slices.Concat, at crannog/api.Piece. -/
namespace Go.Proofs.Ytebpacmhdkgfeaa.ConcatPc
open Go.RowKit

theorem row0 {w0 w : World} {M : Nat → Prop} {l : List Item} (h : Loc w0 M w l) {α : Type} (E : Enc α) (base : Nat) (e : TypeId) : Loc w0 M w (row E base e (.slice none 0 0) [] :: l) :=
  h.callNew (Below.refl _ _) (row_at (Enc.O.none _ _ _)) fun k hk => by cases hk
set_option maxHeartbeats 1000000 in
theorem growNil (n : Nat) (w : World) (hn : n ≤ 100000000000) :
    Calls Try.prog 149 #[.slice none 0 0, .int .i64 n] w fun e w' => ∃ v, e = .returned v ∧ Loc w NoM w' [row encPc w.heap.size 71 v []] := by
  have hL := Loc.nil w NoM
  have h0 : ¬ ((n : Int) < 0) := by omega
  by_cases hz : n = 0
  · subst hz
    have hL := row0 hL encPc w.heap.size 71
    go_enter Try.func149, Try.ntmps149
    go_wp2_with (first | ((with_reducible refine qD rfl rfl ?_); (refine lI rfl hL rfl cy ?_; clear hL; intro gq wq hL)) | ((with_reducible refine qE rfl rfl ?_); (refine lJ rfl hL rfl rfl cy ?_; clear hL; intro gq wq hL)) | ((with_reducible refine qB rfl rfl ?_); (first | (refine lC rfl hL rfl rfl HasV.mem (by rfl) ?_) | (refine lA rfl hL rfl rfl HasV.mem (by rfl) ?_) | (refine lF rfl hL rfl rfl HasV.mem SegC.seg ?_))) | ((with_reducible refine qC rfl rfl ?_); (first | (refine lH rfl hL rfl rfl rfl cy (by rfl) ?_) | (refine lG rfl hL rfl rfl rfl cy (by rfl) (by rfl) ?_)); clear hL; intro wq hL) | ((with_reducible refine qA rfl rfl ?_ ?_); (exact wz rfl rfl rfl (by with_reducible rfl)); (first | (refine lD (wz rfl rfl rfl rfl) hL rfl rfl HasV.mem (by rfl) ?_) | (refine lB (wz rfl rfl rfl rfl) hL rfl rfl HasV.mem (by rfl) ?_) | (refine lE (wz rfl rfl rfl rfl) hL rfl rfl HasV.mem SegC.seg ?_))))
    go_ret
    exact ⟨_, rfl, hL⟩
  · have h1 : (0 : Int) < (n : Int) := by omega
    go_enter Try.func149, Try.ntmps149
    go_wp2_with (first
      | ((with_reducible refine qD rfl rfl ?_); (refine lI rfl hL rfl cy ?_; clear hL; intro gq wq hL)) | ((with_reducible refine qE rfl rfl ?_); (refine lJ rfl hL rfl rfl cy ?_; clear hL; intro gq wq hL)) | ((with_reducible refine qB rfl rfl ?_); (first | (refine lC rfl hL rfl rfl HasV.mem (by rfl) ?_) | (refine lA rfl hL rfl rfl HasV.mem (by rfl) ?_) | (refine lF rfl hL rfl rfl HasV.mem SegC.seg ?_))) | ((with_reducible refine qC rfl rfl ?_); (first | (refine lH rfl hL rfl rfl rfl cy (by rfl) ?_) | (refine lG rfl hL rfl rfl rfl cy (by rfl) (by rfl) ?_)); clear hL; intro wq hL) | ((with_reducible refine qA rfl rfl ?_ ?_); (exact wz rfl rfl rfl (by with_reducible rfl)); (first | (refine lD (wz rfl rfl rfl rfl) hL rfl rfl HasV.mem (by rfl) ?_) | (refine lB (wz rfl rfl rfl rfl) hL rfl rfl HasV.mem (by rfl) ?_) | (refine lE (wz rfl rfl rfl rfl) hL rfl rfl HasV.mem SegC.seg ?_)))
      | (at_builtin; refine ev_growNil encPc w.heap.size rfl hL rfl rfl rfl Try.underlying3 rfl rfl (by omega) hn (Nat.le_refl _) ?_; clear hL; intro g G wq hG hG63 hL; have hG2 : (0 : Int) ≤ (G : Int) := by omega))
    go_ret
    exact ⟨_, rfl, hL⟩
/-- What k of the lists hold together. -/
def upto {α : Type} (xss : List (List α)) (k : Nat) : List α := (xss.take k).flatten
theorem upto_succ {α : Type} (xss : List (List α)) (k : Nat) (h : k < xss.length) : upto xss (k + 1) = upto xss k ++ xss[k] := by
  unfold upto
  rw [(List.take_append_getElem h).symm, List.flatten_append]
  simp
theorem upto_len {α : Type} (xss : List (List α)) (k : Nat) : (upto xss k).length ≤ xss.flatten.length := by
  have h : xss.flatten = upto xss k ++ (xss.drop k).flatten := by unfold upto; rw [← List.flatten_append, List.take_append_drop]
  rw [h, List.length_append]
  omega
set_option maxHeartbeats 2000000 in
theorem concat (v : Value) (ss : List Sl) (xss : List (List Pce)) (w : World) (h : encSl.R w v ss) (hl : ss.length = xss.length) (hx : ∀ i (h1 : i < ss.length) (h2 : i < xss.length), (encPc).R w ss[i].val xss[i]) (hn : xss.flatten.length ≤ 1000000000) (hm : ss.length ≤ 1000000000) :
    Calls Try.prog 98 #[v] w fun e w' => ∃ u, e = .returned u ∧ Loc w NoM w' [row encPc w.heap.size 71 u xss.flatten] := by
  have hL := Loc.nil w NoM
  obtain ⟨ao, c, rfl, hel⟩ := R_elem h
  have HX := Lib.hid hx
  have HL := Lib.hid hl
  clear hx h hl
  go_enter Try.func98, Try.ntmps98
  go_wp2_with (first | ((with_reducible refine qD rfl rfl ?_); (refine lI rfl hL rfl cy ?_; clear hL; intro gq wq hL)) | ((with_reducible refine qE rfl rfl ?_); (refine lJ rfl hL rfl rfl cy ?_; clear hL; intro gq wq hL)) | ((with_reducible refine qB rfl rfl ?_); (first | (refine lC rfl hL rfl rfl HasV.mem (by rfl) ?_) | (refine lA rfl hL rfl rfl HasV.mem (by rfl) ?_) | (refine lF rfl hL rfl rfl HasV.mem SegC.seg ?_))) | ((with_reducible refine qC rfl rfl ?_); (first | (refine lH rfl hL rfl rfl rfl cy (by rfl) ?_) | (refine lG rfl hL rfl rfl rfl cy (by rfl) (by rfl) ?_)); clear hL; intro wq hL) | ((with_reducible refine qA rfl rfl ?_ ?_); (exact wz rfl rfl rfl (by with_reducible rfl)); (first | (refine lD (wz rfl rfl rfl rfl) hL rfl rfl HasV.mem (by rfl) ?_) | (refine lB (wz rfl rfl rfl rfl) hL rfl rfl HasV.mem (by rfl) ?_) | (refine lE (wz rfl rfl rfl rfl) hL rfl rfl HasV.mem SegC.seg ?_))))
  go_loopw [3, 11] (fun s i wr => ∃ k : Nat, k ≤ ss.length ∧ i = .int .i64 k ∧ s = .int .i64 ((upto xss k).length : Nat) ∧ Loc w NoM wr []) (fun _ i _ => ss.length - (intOf i).toNat)
  case atStart => exact ⟨0, by omega, rfl, rfl, hL⟩
  case round =>
    clear hL
    obtain ⟨k, hk, rfl, rfl, hL⟩ := hrel
    by_cases hlt : k < ss.length
    · obtain ⟨g, off, rfl, hr⟩ := hel k hlt
      have hrW : wr.rangeAt g (off + k * 1) [.slice ss[k].a ss[k].n ss[k].c] := range_below hr hL.below
      clear hr
      have hlt2 : k < xss.length := by have := HL.out; omega
      have hR := HX.out k hlt hlt2
      obtain ⟨ao2, c2, e2, -⟩ := R_elem hR
      have HN : Hid ((upto xss (k + 1)).length = (upto xss k).length + ss[k].n) := Lib.hid (by
        rw [upto_succ xss k hlt2, List.length_append]
        have e3 : ss[k].n = xss[k].length := by unfold Sl.val at e2; injection e2
        rw [e3])
      have hb1 := upto_len xss (k + 1)
      rw [HN.out] at hb1
      generalize (upto xss k).length = N at *
      clear hR e2
      generalize ss[k].n = m at *
      generalize ss[k].a = aa at *
      generalize ss[k].c = cc at *
      have hb2 : N + m ≤ 1000000000 := by omega
      have hneg : ¬ ((N : Int) + (m : Int) < 0) := by omega
      go_wp2_with (first
        | ((with_reducible refine qF rfl rfl ?_); refine lL rfl rfl rfl rfl hlt ?_)
        | ((with_reducible refine gate (N := 14) rfl ?_); refine ev_loadR1 (v := .slice aa m cc) rfl rfl rfl hrW ?_)
        | ((with_reducible refine qD rfl rfl ?_); (refine lI rfl hL rfl cy ?_; clear hL; intro gq wq hL)) | ((with_reducible refine qE rfl rfl ?_); (refine lJ rfl hL rfl rfl cy ?_; clear hL; intro gq wq hL)) | ((with_reducible refine qB rfl rfl ?_); (first | (refine lC rfl hL rfl rfl HasV.mem (by rfl) ?_) | (refine lA rfl hL rfl rfl HasV.mem (by rfl) ?_) | (refine lF rfl hL rfl rfl HasV.mem SegC.seg ?_))) | ((with_reducible refine qC rfl rfl ?_); (first | (refine lH rfl hL rfl rfl rfl cy (by rfl) ?_) | (refine lG rfl hL rfl rfl rfl cy (by rfl) (by rfl) ?_)); clear hL; intro wq hL) | ((with_reducible refine qA rfl rfl ?_ ?_); (exact wz rfl rfl rfl (by with_reducible rfl)); (first | (refine lD (wz rfl rfl rfl rfl) hL rfl rfl HasV.mem (by rfl) ?_) | (refine lB (wz rfl rfl rfl rfl) hL rfl rfl HasV.mem (by rfl) ?_) | (refine lE (wz rfl rfl rfl rfl) hL rfl rfl HasV.mem SegC.seg ?_))))
      go_roundw
      case rel => exact ⟨k + 1, by omega, by go_num, by rw [HN.out]; go_num, hL⟩
      case measure => simp [intOf]; omega
    · obtain rfl : k = ss.length := by omega
      have hb1 := upto_len xss ss.length
      generalize (upto xss ss.length).length = N at *
      go_wp2_with (first
        | (go_at_call 149; (with_reducible refine (growNil N _ (by omega)).mono ?_); rintro e w3 ⟨v0, rfl, hL3⟩; have hL := hL.takeRow hL3; clear hL3)
        | ((with_reducible refine qD rfl rfl ?_); (refine lI rfl hL rfl cy ?_; clear hL; intro gq wq hL)) | ((with_reducible refine qE rfl rfl ?_); (refine lJ rfl hL rfl rfl cy ?_; clear hL; intro gq wq hL)) | ((with_reducible refine qB rfl rfl ?_); (first | (refine lC rfl hL rfl rfl HasV.mem (by rfl) ?_) | (refine lA rfl hL rfl rfl HasV.mem (by rfl) ?_) | (refine lF rfl hL rfl rfl HasV.mem SegC.seg ?_))) | ((with_reducible refine qC rfl rfl ?_); (first | (refine lH rfl hL rfl rfl rfl cy (by rfl) ?_) | (refine lG rfl hL rfl rfl rfl cy (by rfl) (by rfl) ?_)); clear hL; intro wq hL) | ((with_reducible refine qA rfl rfl ?_ ?_); (exact wz rfl rfl rfl (by with_reducible rfl)); (first | (refine lD (wz rfl rfl rfl rfl) hL rfl rfl HasV.mem (by rfl) ?_) | (refine lB (wz rfl rfl rfl rfl) hL rfl rfl HasV.mem (by rfl) ?_) | (refine lE (wz rfl rfl rfl rfl) hL rfl rfl HasV.mem SegC.seg ?_))))
      clear hb1 hk hlt
      go_loopw [6, 27] (fun s i wr => ∃ (k : Nat) (vs : Value), k ≤ ss.length ∧ i = .int .i64 k ∧ s = vs ∧ Loc w NoM wr [row encPc w.heap.size 71 vs (upto xss k)]) (fun _ i _ => ss.length - (intOf i).toNat)
      case atStart => exact ⟨0, _, by omega, rfl, rfl, hL⟩
      case round =>
        clear hL
        obtain ⟨k, vs, hk, rfl, rfl, hL⟩ := hrel
        by_cases hlt : k < ss.length
        · obtain ⟨g, off, rfl, hr⟩ := hel k hlt
          have hrW : wr.rangeAt g (off + k * 1) [.slice ss[k].a ss[k].n ss[k].c] := range_below hr hL.below
          clear hr
          have hlt2 : k < xss.length := by have := HL.out; omega
          have hR := Lib.hid ((HX.out k hlt hlt2).below hL.below)
          have HN := Lib.hid (upto_succ xss k hlt2)
          have hb1 := upto_len xss (k + 1)
          rw [HN.out, List.length_append] at hb1
          unfold Sl.val at hR
          generalize upto xss k = L at *
          generalize xss[k] = ys at *
          generalize ss[k].n = m at *
          generalize ss[k].a = aa at *
          generalize ss[k].c = cc at *
          go_wp2_with (first
            | ((with_reducible refine qF rfl rfl ?_); refine lL rfl rfl rfl rfl hlt ?_)
            | ((with_reducible refine gate (N := 30) rfl ?_); refine ev_loadR1 (v := .slice aa m cc) rfl rfl rfl hrW ?_)
            | ((with_reducible refine qD rfl rfl ?_); (refine lI rfl hL rfl cy ?_; clear hL; intro gq wq hL)) | ((with_reducible refine qE rfl rfl ?_); (refine lJ rfl hL rfl rfl cy ?_; clear hL; intro gq wq hL)) | ((with_reducible refine qB rfl rfl ?_); (first | (refine lC rfl hL rfl rfl HasV.mem (by rfl) ?_) | (refine lA rfl hL rfl rfl HasV.mem (by rfl) ?_) | (refine lF rfl hL rfl rfl HasV.mem SegC.seg ?_))) | ((with_reducible refine qC rfl rfl ?_); (first | (refine lH rfl hL rfl rfl rfl cy (by rfl) ?_) | (refine lG rfl hL rfl rfl rfl cy (by rfl) (by rfl) ?_)); clear hL; intro wq hL) | ((with_reducible refine qA rfl rfl ?_ ?_); (exact wz rfl rfl rfl (by with_reducible rfl)); (first | (refine lD (wz rfl rfl rfl rfl) hL rfl rfl HasV.mem (by rfl) ?_) | (refine lB (wz rfl rfl rfl rfl) hL rfl rfl HasV.mem (by rfl) ?_) | (refine lE (wz rfl rfl rfl rfl) hL rfl rfl HasV.mem SegC.seg ?_)))
            | (at_builtin; refine ev_appL (E := encPc) ys rfl hL rfl rfl rfl hR.out (fun _ => sx) rfl rfl (by omega) hL.size ?_; clear hL hR; intro v' wq hL))
          go_roundw
          case rel => exact ⟨k + 1, _, by omega, by go_num, rfl, by rw [HN.out]; exact hL⟩
          case measure => simp [intOf]; omega
        · obtain rfl : k = ss.length := by omega
          have HT := Lib.hid (show upto xss ss.length = xss.flatten from by unfold upto; rw [HL.out, List.take_length])
          rw [HT.out] at hL
          go_wp2
          go_ret
          exact ⟨_, rfl, hL⟩
end Go.Proofs.Ytebpacmhdkgfeaa.ConcatPc


/- slices.Grow of nil, and slices.Concat, at crannog/api.Xattr. -/
namespace Go.Proofs.Ytebpacmhdkgfeaa.ConcatXt
open Go.RowKit

theorem row0 {w0 w : World} {M : Nat → Prop} {l : List Item} (h : Loc w0 M w l) {α : Type} (E : Enc α) (base : Nat) (e : TypeId) : Loc w0 M w (row E base e (.slice none 0 0) [] :: l) :=
  h.callNew (Below.refl _ _) (row_at (Enc.O.none _ _ _)) fun k hk => by cases hk
set_option maxHeartbeats 1000000 in
theorem growNil (n : Nat) (w : World) (hn : n ≤ 100000000000) :
    Calls Try.prog 150 #[.slice none 0 0, .int .i64 n] w fun e w' => ∃ v, e = .returned v ∧ Loc w NoM w' [row encXt w.heap.size 73 v []] := by
  have hL := Loc.nil w NoM
  have h0 : ¬ ((n : Int) < 0) := by omega
  by_cases hz : n = 0
  · subst hz
    have hL := row0 hL encXt w.heap.size 73
    go_enter Try.func150, Try.ntmps150
    go_wp2_with (first | ((with_reducible refine qD rfl rfl ?_); (refine lI rfl hL rfl cy ?_; clear hL; intro gq wq hL)) | ((with_reducible refine qE rfl rfl ?_); (refine lJ rfl hL rfl rfl cy ?_; clear hL; intro gq wq hL)) | ((with_reducible refine qB rfl rfl ?_); (first | (refine lC rfl hL rfl rfl HasV.mem (by rfl) ?_) | (refine lA rfl hL rfl rfl HasV.mem (by rfl) ?_) | (refine lF rfl hL rfl rfl HasV.mem SegC.seg ?_))) | ((with_reducible refine qC rfl rfl ?_); (first | (refine lH rfl hL rfl rfl rfl cy (by rfl) ?_) | (refine lG rfl hL rfl rfl rfl cy (by rfl) (by rfl) ?_)); clear hL; intro wq hL) | ((with_reducible refine qA rfl rfl ?_ ?_); (exact wz rfl rfl rfl (by with_reducible rfl)); (first | (refine lD (wz rfl rfl rfl rfl) hL rfl rfl HasV.mem (by rfl) ?_) | (refine lB (wz rfl rfl rfl rfl) hL rfl rfl HasV.mem (by rfl) ?_) | (refine lE (wz rfl rfl rfl rfl) hL rfl rfl HasV.mem SegC.seg ?_))))
    go_ret
    exact ⟨_, rfl, hL⟩
  · have h1 : (0 : Int) < (n : Int) := by omega
    go_enter Try.func150, Try.ntmps150
    go_wp2_with (first
      | ((with_reducible refine qD rfl rfl ?_); (refine lI rfl hL rfl cy ?_; clear hL; intro gq wq hL)) | ((with_reducible refine qE rfl rfl ?_); (refine lJ rfl hL rfl rfl cy ?_; clear hL; intro gq wq hL)) | ((with_reducible refine qB rfl rfl ?_); (first | (refine lC rfl hL rfl rfl HasV.mem (by rfl) ?_) | (refine lA rfl hL rfl rfl HasV.mem (by rfl) ?_) | (refine lF rfl hL rfl rfl HasV.mem SegC.seg ?_))) | ((with_reducible refine qC rfl rfl ?_); (first | (refine lH rfl hL rfl rfl rfl cy (by rfl) ?_) | (refine lG rfl hL rfl rfl rfl cy (by rfl) (by rfl) ?_)); clear hL; intro wq hL) | ((with_reducible refine qA rfl rfl ?_ ?_); (exact wz rfl rfl rfl (by with_reducible rfl)); (first | (refine lD (wz rfl rfl rfl rfl) hL rfl rfl HasV.mem (by rfl) ?_) | (refine lB (wz rfl rfl rfl rfl) hL rfl rfl HasV.mem (by rfl) ?_) | (refine lE (wz rfl rfl rfl rfl) hL rfl rfl HasV.mem SegC.seg ?_)))
      | (at_builtin; refine ev_growNil encXt w.heap.size rfl hL rfl rfl rfl Try.underlying3 rfl rfl (by omega) hn (Nat.le_refl _) ?_; clear hL; intro g G wq hG hG63 hL; have hG2 : (0 : Int) ≤ (G : Int) := by omega))
    go_ret
    exact ⟨_, rfl, hL⟩
/-- What k of the lists hold together. -/
def upto {α : Type} (xss : List (List α)) (k : Nat) : List α := (xss.take k).flatten
theorem upto_succ {α : Type} (xss : List (List α)) (k : Nat) (h : k < xss.length) : upto xss (k + 1) = upto xss k ++ xss[k] := by
  unfold upto
  rw [(List.take_append_getElem h).symm, List.flatten_append]
  simp
theorem upto_len {α : Type} (xss : List (List α)) (k : Nat) : (upto xss k).length ≤ xss.flatten.length := by
  have h : xss.flatten = upto xss k ++ (xss.drop k).flatten := by unfold upto; rw [← List.flatten_append, List.take_append_drop]
  rw [h, List.length_append]
  omega
set_option maxHeartbeats 2000000 in
theorem concat (v : Value) (ss : List Sl) (xss : List (List Xat)) (w : World) (h : encSl.R w v ss) (hl : ss.length = xss.length) (hx : ∀ i (h1 : i < ss.length) (h2 : i < xss.length), (encXt).R w ss[i].val xss[i]) (hn : xss.flatten.length ≤ 1000000000) (hm : ss.length ≤ 1000000000) :
    Calls Try.prog 99 #[v] w fun e w' => ∃ u, e = .returned u ∧ Loc w NoM w' [row encXt w.heap.size 73 u xss.flatten] := by
  have hL := Loc.nil w NoM
  obtain ⟨ao, c, rfl, hel⟩ := R_elem h
  have HX := Lib.hid hx
  have HL := Lib.hid hl
  clear hx h hl
  go_enter Try.func99, Try.ntmps99
  go_wp2_with (first | ((with_reducible refine qD rfl rfl ?_); (refine lI rfl hL rfl cy ?_; clear hL; intro gq wq hL)) | ((with_reducible refine qE rfl rfl ?_); (refine lJ rfl hL rfl rfl cy ?_; clear hL; intro gq wq hL)) | ((with_reducible refine qB rfl rfl ?_); (first | (refine lC rfl hL rfl rfl HasV.mem (by rfl) ?_) | (refine lA rfl hL rfl rfl HasV.mem (by rfl) ?_) | (refine lF rfl hL rfl rfl HasV.mem SegC.seg ?_))) | ((with_reducible refine qC rfl rfl ?_); (first | (refine lH rfl hL rfl rfl rfl cy (by rfl) ?_) | (refine lG rfl hL rfl rfl rfl cy (by rfl) (by rfl) ?_)); clear hL; intro wq hL) | ((with_reducible refine qA rfl rfl ?_ ?_); (exact wz rfl rfl rfl (by with_reducible rfl)); (first | (refine lD (wz rfl rfl rfl rfl) hL rfl rfl HasV.mem (by rfl) ?_) | (refine lB (wz rfl rfl rfl rfl) hL rfl rfl HasV.mem (by rfl) ?_) | (refine lE (wz rfl rfl rfl rfl) hL rfl rfl HasV.mem SegC.seg ?_))))
  go_loopw [3, 11] (fun s i wr => ∃ k : Nat, k ≤ ss.length ∧ i = .int .i64 k ∧ s = .int .i64 ((upto xss k).length : Nat) ∧ Loc w NoM wr []) (fun _ i _ => ss.length - (intOf i).toNat)
  case atStart => exact ⟨0, by omega, rfl, rfl, hL⟩
  case round =>
    clear hL
    obtain ⟨k, hk, rfl, rfl, hL⟩ := hrel
    by_cases hlt : k < ss.length
    · obtain ⟨g, off, rfl, hr⟩ := hel k hlt
      have hrW : wr.rangeAt g (off + k * 1) [.slice ss[k].a ss[k].n ss[k].c] := range_below hr hL.below
      clear hr
      have hlt2 : k < xss.length := by have := HL.out; omega
      have hR := HX.out k hlt hlt2
      obtain ⟨ao2, c2, e2, -⟩ := R_elem hR
      have HN : Hid ((upto xss (k + 1)).length = (upto xss k).length + ss[k].n) := Lib.hid (by
        rw [upto_succ xss k hlt2, List.length_append]
        have e3 : ss[k].n = xss[k].length := by unfold Sl.val at e2; injection e2
        rw [e3])
      have hb1 := upto_len xss (k + 1)
      rw [HN.out] at hb1
      generalize (upto xss k).length = N at *
      clear hR e2
      generalize ss[k].n = m at *
      generalize ss[k].a = aa at *
      generalize ss[k].c = cc at *
      have hb2 : N + m ≤ 1000000000 := by omega
      have hneg : ¬ ((N : Int) + (m : Int) < 0) := by omega
      go_wp2_with (first
        | ((with_reducible refine qF rfl rfl ?_); refine lL rfl rfl rfl rfl hlt ?_)
        | ((with_reducible refine gate (N := 14) rfl ?_); refine ev_loadR1 (v := .slice aa m cc) rfl rfl rfl hrW ?_)
        | ((with_reducible refine qD rfl rfl ?_); (refine lI rfl hL rfl cy ?_; clear hL; intro gq wq hL)) | ((with_reducible refine qE rfl rfl ?_); (refine lJ rfl hL rfl rfl cy ?_; clear hL; intro gq wq hL)) | ((with_reducible refine qB rfl rfl ?_); (first | (refine lC rfl hL rfl rfl HasV.mem (by rfl) ?_) | (refine lA rfl hL rfl rfl HasV.mem (by rfl) ?_) | (refine lF rfl hL rfl rfl HasV.mem SegC.seg ?_))) | ((with_reducible refine qC rfl rfl ?_); (first | (refine lH rfl hL rfl rfl rfl cy (by rfl) ?_) | (refine lG rfl hL rfl rfl rfl cy (by rfl) (by rfl) ?_)); clear hL; intro wq hL) | ((with_reducible refine qA rfl rfl ?_ ?_); (exact wz rfl rfl rfl (by with_reducible rfl)); (first | (refine lD (wz rfl rfl rfl rfl) hL rfl rfl HasV.mem (by rfl) ?_) | (refine lB (wz rfl rfl rfl rfl) hL rfl rfl HasV.mem (by rfl) ?_) | (refine lE (wz rfl rfl rfl rfl) hL rfl rfl HasV.mem SegC.seg ?_))))
      go_roundw
      case rel => exact ⟨k + 1, by omega, by go_num, by rw [HN.out]; go_num, hL⟩
      case measure => simp [intOf]; omega
    · obtain rfl : k = ss.length := by omega
      have hb1 := upto_len xss ss.length
      generalize (upto xss ss.length).length = N at *
      go_wp2_with (first
        | (go_at_call 150; (with_reducible refine (growNil N _ (by omega)).mono ?_); rintro e w3 ⟨v0, rfl, hL3⟩; have hL := hL.takeRow hL3; clear hL3)
        | ((with_reducible refine qD rfl rfl ?_); (refine lI rfl hL rfl cy ?_; clear hL; intro gq wq hL)) | ((with_reducible refine qE rfl rfl ?_); (refine lJ rfl hL rfl rfl cy ?_; clear hL; intro gq wq hL)) | ((with_reducible refine qB rfl rfl ?_); (first | (refine lC rfl hL rfl rfl HasV.mem (by rfl) ?_) | (refine lA rfl hL rfl rfl HasV.mem (by rfl) ?_) | (refine lF rfl hL rfl rfl HasV.mem SegC.seg ?_))) | ((with_reducible refine qC rfl rfl ?_); (first | (refine lH rfl hL rfl rfl rfl cy (by rfl) ?_) | (refine lG rfl hL rfl rfl rfl cy (by rfl) (by rfl) ?_)); clear hL; intro wq hL) | ((with_reducible refine qA rfl rfl ?_ ?_); (exact wz rfl rfl rfl (by with_reducible rfl)); (first | (refine lD (wz rfl rfl rfl rfl) hL rfl rfl HasV.mem (by rfl) ?_) | (refine lB (wz rfl rfl rfl rfl) hL rfl rfl HasV.mem (by rfl) ?_) | (refine lE (wz rfl rfl rfl rfl) hL rfl rfl HasV.mem SegC.seg ?_))))
      clear hb1 hk hlt
      go_loopw [6, 27] (fun s i wr => ∃ (k : Nat) (vs : Value), k ≤ ss.length ∧ i = .int .i64 k ∧ s = vs ∧ Loc w NoM wr [row encXt w.heap.size 73 vs (upto xss k)]) (fun _ i _ => ss.length - (intOf i).toNat)
      case atStart => exact ⟨0, _, by omega, rfl, rfl, hL⟩
      case round =>
        clear hL
        obtain ⟨k, vs, hk, rfl, rfl, hL⟩ := hrel
        by_cases hlt : k < ss.length
        · obtain ⟨g, off, rfl, hr⟩ := hel k hlt
          have hrW : wr.rangeAt g (off + k * 1) [.slice ss[k].a ss[k].n ss[k].c] := range_below hr hL.below
          clear hr
          have hlt2 : k < xss.length := by have := HL.out; omega
          have hR := Lib.hid ((HX.out k hlt hlt2).below hL.below)
          have HN := Lib.hid (upto_succ xss k hlt2)
          have hb1 := upto_len xss (k + 1)
          rw [HN.out, List.length_append] at hb1
          unfold Sl.val at hR
          generalize upto xss k = L at *
          generalize xss[k] = ys at *
          generalize ss[k].n = m at *
          generalize ss[k].a = aa at *
          generalize ss[k].c = cc at *
          go_wp2_with (first
            | ((with_reducible refine qF rfl rfl ?_); refine lL rfl rfl rfl rfl hlt ?_)
            | ((with_reducible refine gate (N := 30) rfl ?_); refine ev_loadR1 (v := .slice aa m cc) rfl rfl rfl hrW ?_)
            | ((with_reducible refine qD rfl rfl ?_); (refine lI rfl hL rfl cy ?_; clear hL; intro gq wq hL)) | ((with_reducible refine qE rfl rfl ?_); (refine lJ rfl hL rfl rfl cy ?_; clear hL; intro gq wq hL)) | ((with_reducible refine qB rfl rfl ?_); (first | (refine lC rfl hL rfl rfl HasV.mem (by rfl) ?_) | (refine lA rfl hL rfl rfl HasV.mem (by rfl) ?_) | (refine lF rfl hL rfl rfl HasV.mem SegC.seg ?_))) | ((with_reducible refine qC rfl rfl ?_); (first | (refine lH rfl hL rfl rfl rfl cy (by rfl) ?_) | (refine lG rfl hL rfl rfl rfl cy (by rfl) (by rfl) ?_)); clear hL; intro wq hL) | ((with_reducible refine qA rfl rfl ?_ ?_); (exact wz rfl rfl rfl (by with_reducible rfl)); (first | (refine lD (wz rfl rfl rfl rfl) hL rfl rfl HasV.mem (by rfl) ?_) | (refine lB (wz rfl rfl rfl rfl) hL rfl rfl HasV.mem (by rfl) ?_) | (refine lE (wz rfl rfl rfl rfl) hL rfl rfl HasV.mem SegC.seg ?_)))
            | (at_builtin; refine ev_appL (E := encXt) ys rfl hL rfl rfl rfl hR.out (fun _ => sx) rfl rfl (by omega) hL.size ?_; clear hL hR; intro v' wq hL))
          go_roundw
          case rel => exact ⟨k + 1, _, by omega, by go_num, rfl, by rw [HN.out]; exact hL⟩
          case measure => simp [intOf]; omega
        · obtain rfl : k = ss.length := by omega
          have HT := Lib.hid (show upto xss ss.length = xss.flatten from by unfold upto; rw [HL.out, List.take_length])
          rw [HT.out] at hL
          go_wp2
          go_ret
          exact ⟨_, rfl, hL⟩
end Go.Proofs.Ytebpacmhdkgfeaa.ConcatXt


/- Inodes of a row, with what they lead to in blocks of one's own or of the caller's. -/
namespace Go.Proofs.Ytebpacmhdkgfeaa
open Go.RowKit

theorem R_keep {α : Type} {E : Enc α} {w w1 : World} {v : Value} {xs : List α} (h : E.R w v xs) (hb : ∀ a n c, v = .slice (some a) n c → w.heap[a.block]?.isSome = true → w1.heap[a.block]? = w.heap[a.block]?) : E.R w1 v xs := by
  obtain ⟨hl, a, c, rfl, hc, hm, h0⟩ := h
  refine ⟨hl, a, c, rfl, hc, hm, ?_⟩
  rcases h0 with h0 | ⟨a, rfl, hel⟩
  · exact .inl h0
  · refine .inr ⟨a, rfl, fun j u hu => ?_⟩
    have h1 := hel j u hu
    have hlt := World.block_lt_of_cell? w _ h1
    have hbk : (a.add j).block = a.block := by unfold Addr.add; split <;> rfl
    generalize a.add j = b at *
    have e : w1.heap[a.block]? = w.heap[a.block]? := hb a _ _ rfl (by
      have : a.block < w.heap.size := by omega
      simp [this])
    rw [← hbk] at e
    rw [← h1]
    unfold World.cell?
    rw [e]
theorem O_keep {α : Type} {E : Enc α} {w w1 : World} {base : Nat} {e : TypeId} {v : Value} {xs : List α} (h : E.O w base e v xs) (hz : w.heap.size ≤ w1.heap.size) (hb : ∀ k, v.ownBlock = some k → w1.heap[k]? = w.heap[k]?) : E.O w1 base e v xs := (row_at h).stay w1 hz hb
/-- What holds of inodes by the blocks of F, and by those below w0's end. -/
def nest (w0 : World) (F : Nat → Prop) (L : List Nd) : Item := ⟨F, fun w => (∀ k, F k → k < w.heap.size) ∧ ∀ w', w.heap.size ≤ w'.heap.size → (∀ k, F k → w'.heap[k]? = w.heap[k]?) → (∀ k, k < w0.heap.size → w'.heap[k]? = w0.heap[k]?) → ∀ n ∈ L, n.s.Ok w' n.d⟩
theorem nest_at {w0 w : World} {F : Nat → Prop} {L : List Nd} (h : (nest w0 F L).p w) : (nest w0 F L).At w :=
  ⟨h, fun k hk => h.1 k hk, fun w' hz hb => ⟨fun k hk => Nat.lt_of_lt_of_le (h.1 k hk) hz, fun w'' hz' hb' h0 => h.2 w'' (Nat.le_trans hz hz') (fun k hk => (hb' k hk).trans (hb k hk)) h0⟩⟩
theorem Ino.Ok.old {w0 w : World} {i : Ino} {d : InoD} (h : i.Ok w0 d) (hb : ∀ k, k < w0.heap.size → w.heap[k]? = w0.heap[k]?) : i.Ok w d := by
  have key : ∀ (a : Addr), w0.heap[a.block]?.isSome = true → w.heap[a.block]? = w0.heap[a.block]? := fun a ha => hb _ (by
    rcases Nat.lt_or_ge a.block w0.heap.size with h1 | h1
    · exact h1
    · rw [Array.getElem?_eq_none h1] at ha; cases ha)
  exact ⟨h.hd, R_keep h.ps fun a _ _ _ ha => key a ha, R_keep h.xs fun a _ _ _ ha => key a ha⟩
namespace Loc
variable {w00 w0 w w1 : World} {l : List Item} {F : Nat → Prop} {L : List Nd}
theorem nested (h : Loc w0 NoM w l) (hb : Below w00.heap.size w00 w0) (hm : nest w00 F L ∈ l) : ∀ n ∈ L, n.s.Ok w n.d :=
  (h.get hm).2 w (Nat.le_refl _) (fun _ _ => rfl) fun k hk => (h.mod.block k (Nat.lt_of_lt_of_le hk hb.size) fun e => e).trans (hb.block k hk)
/-- Nothing of one's own yet: all lies below. -/
theorem nestOld (h : Loc w0 NoM w l) (hO : ∀ n ∈ L, n.s.Ok w00 n.d) : Loc w0 NoM w (nest w00 (fun _ => False) L :: l) :=
  h.callNew (Below.refl _ _) (nest_at ⟨fun _ h => h.elim, fun w' _ _ h0 n hn => (hO n hn).old h0⟩) fun k hk => hk.elim
/-- A new one, whose rows are of one's own: these go into the nest. -/
theorem nestNew {e1 e2 : TypeId} {i : Ino} {d : InoD} {b1 b2 : Nat} (h : Loc w0 NoM w (row encPc b1 e1 i.p.val d.ps :: row encXt b2 e2 i.x.val d.xs :: nest w00 F L :: l)) (hh : i.hd = d.hd) :
    ∃ F', Loc w0 NoM w (nest w00 F' (⟨i, d⟩ :: L) :: l) := by
  have ha := h.apart
  have h1 := h.own (.head _)
  have h2 := h.own (.tail _ (.head _))
  have h3 := h.get (.tail _ (.tail _ (.head _)))
  refine ⟨fun k => F k ∨ i.p.val.ownBlock = some k ∨ i.x.val.ownBlock = some k, ?_⟩
  rw [List.pairwise_cons, List.pairwise_cons, List.pairwise_cons] at ha
  obtain ⟨a1, a2, a3, a4⟩ := ha
  refine ⟨h.mod, fun j hj => ?_, fun j hj k hk => ?_, List.pairwise_cons.2 ⟨fun j hj k hk => ?_, a4⟩⟩
  · rcases List.mem_cons.1 hj with rfl | hj
    · refine nest_at ⟨fun k hk => ?_, fun w' hz hb h0 n hn => ?_⟩
      · rcases hk with hk | hk | hk
        · exact h3.1 k hk
        · exact h1.lt k hk
        · exact h2.lt k hk
      · rcases List.mem_cons.1 hn with rfl | hn
        · exact ⟨hh, (O_keep h1 hz fun k hk => hb k (.inr (.inl hk))).read, (O_keep h2 hz fun k hk => hb k (.inr (.inr hk))).read⟩
        · exact h3.2 w' hz (fun k hk => hb k (.inl hk)) h0 n hn
    · exact h.at_ j (.tail _ (.tail _ (.tail _ hj)))
  · rcases List.mem_cons.1 hj with rfl | hj
    · rcases hk with hk | hk | hk
      · exact h.new _ (.tail _ (.tail _ (.head _))) k hk
      · exact h.new _ (.head _) k hk
      · exact h.new _ (.tail _ (.head _)) k hk
    · exact h.new j (.tail _ (.tail _ (.tail _ hj))) k hk
  · rcases hk with hk | hk | hk
    · exact a3 j hj k hk
    · exact a1 j (.tail _ (.tail _ hj)) k hk
    · exact a2 j (.tail _ hj) k hk
theorem nestSubAt {L' : List Nd} {l' : List Item} (h : Loc w0 NoM w l) (hs : Swap (nest w00 F L) (nest w00 F L') l l') (hO : ∀ n ∈ L', n ∈ L ∨ n.s.Ok w00 n.d) : Loc w0 NoM w l' :=
  h.swap hs (.refl _ _) (nest_at ⟨(h.get hs.mem).1, fun w' hz hb h0 n hn => (hO n hn).elim (fun hn => (h.get hs.mem).2 w' hz hb h0 n hn) fun hn => hn.old h0⟩) fun k hk => .inl hk
end Loc
theorem Loc.perm {w0 w : World} {M : Nat → Prop} {l l' : List Item} (h : Loc w0 M w l) (hp : l.Perm l') : Loc w0 M w l' :=
  ⟨h.mod, fun i hi => h.at_ i (hp.mem_iff.2 hi), fun i hi => h.new i (hp.mem_iff.2 hi), h.apart.perm hp fun h k h1 h2 => h k h2 h1⟩
theorem Loc.weakRow {α : Type} {E : Enc α} {w0 w : World} {M : Nat → Prop} {l : List Item} {base base' : Nat} {e : TypeId} {v : Value} {xs : List α} (h : Loc w0 M w (row E base e v xs :: l)) (hb : base' ≤ base) : Loc w0 M w (row E base' e v xs :: l) :=
  h.swap (.here _) (.refl _ _) (row_at ((h.own (.head _)).weaken hb)) fun _ hk => .inl hk
theorem own_casesM {α : Type} {E : Enc α} {w0 w : World} {M : Nat → Prop} {l : List Item} {u : Value} {xs : List α} {base : Nat} {te : TypeId} (hL : Loc w0 M w l) (hm : row E base te u xs ∈ l) : (u = .slice none 0 0 ∧ xs = []) ∨ ∃ g c, u = .slice (some ⟨g, 0, none⟩) xs.length c ∧ xs.length ≤ c ∧ c ≤ 9223372036854775807 ∧ base ≤ g := by
  have h := hL.own (E := E) hm
  rcases h.2 with ⟨rfl, h0⟩ | ⟨g, c, cur, rfl, hb, hg, h1, h2, h3⟩
  · exact .inl ⟨rfl, List.eq_nil_of_length_eq_zero h0⟩
  · exact .inr ⟨g, c, rfl, h1, by unfold maxLen at h2; omega, hb⟩
theorem Loc.takeAll {w0 w w1 : World} {M : Nat → Prop} {l l3 : List Item} (h : Loc w0 M w l) (h3 : Loc w NoM w1 l3) : Loc w0 M w1 (l3 ++ l) := by
  have h1 := h.call h3.below
  refine ⟨h1.mod, fun i hi => ?_, fun i hi k hk => ?_, List.pairwise_append.2 ⟨h3.apart, h1.apart, fun i hi j hj k hk hk' => ?_⟩⟩
  · rcases List.mem_append.1 hi with hi | hi
    · exact h3.at_ i hi
    · exact h1.at_ i hi
  · rcases List.mem_append.1 hi with hi | hi
    · rcases h3.new i hi k hk with h4 | h4
      · exact .inl (Nat.le_trans h.size h4)
      · exact h4.elim
    · exact h1.new i hi k hk
  · rcases h3.new i hi k hk with h4 | h4
    · have := (h.at_ j hj).lt k hk'; omega
    · exact h4.elim
end Go.Proofs.Ytebpacmhdkgfeaa


/- slices.Grow of nil, and slices.Concat, at crannog/api.Inode. -/
namespace Go.Proofs.Ytebpacmhdkgfeaa.ConcatN
open Go.RowKit

theorem row0 {w0 w : World} {M : Nat → Prop} {l : List Item} (h : Loc w0 M w l) {α : Type} (E : Enc α) (base : Nat) (e : TypeId) : Loc w0 M w (row E base e (.slice none 0 0) [] :: l) :=
  h.callNew (Below.refl _ _) (row_at (Enc.O.none _ _ _)) fun k hk => by cases hk
set_option maxHeartbeats 1000000 in
theorem growNil (n : Nat) (w : World) (hn : n ≤ 100000000000) :
    Calls Try.prog 145 #[.slice none 0 0, .int .i64 n] w fun e w' => ∃ v, e = .returned v ∧ Loc w NoM w' [row encN w.heap.size 43 v []] := by
  have hL := Loc.nil w NoM
  have h0 : ¬ ((n : Int) < 0) := by omega
  by_cases hz : n = 0
  · subst hz
    have hL := row0 hL encN w.heap.size 43
    go_enter Try.func145, Try.ntmps145
    go_wp2_with (first | ((with_reducible refine qD rfl rfl ?_); (refine lI rfl hL rfl cy ?_; clear hL; intro gq wq hL)) | ((with_reducible refine qE rfl rfl ?_); (refine lJ rfl hL rfl rfl cy ?_; clear hL; intro gq wq hL)) | ((with_reducible refine qB rfl rfl ?_); (first | (refine lC rfl hL rfl rfl HasV.mem (by rfl) ?_) | (refine lA rfl hL rfl rfl HasV.mem (by rfl) ?_) | (refine lF rfl hL rfl rfl HasV.mem SegC.seg ?_))) | ((with_reducible refine qC rfl rfl ?_); (first | (refine lH rfl hL rfl rfl rfl cy (by rfl) ?_) | (refine lG rfl hL rfl rfl rfl cy (by rfl) (by rfl) ?_)); clear hL; intro wq hL) | ((with_reducible refine qA rfl rfl ?_ ?_); (exact wz rfl rfl rfl (by with_reducible rfl)); (first | (refine lD (wz rfl rfl rfl rfl) hL rfl rfl HasV.mem (by rfl) ?_) | (refine lB (wz rfl rfl rfl rfl) hL rfl rfl HasV.mem (by rfl) ?_) | (refine lE (wz rfl rfl rfl rfl) hL rfl rfl HasV.mem SegC.seg ?_))))
    go_ret
    exact ⟨_, rfl, hL⟩
  · have h1 : (0 : Int) < (n : Int) := by omega
    go_enter Try.func145, Try.ntmps145
    go_wp2_with (first
      | ((with_reducible refine qD rfl rfl ?_); (refine lI rfl hL rfl cy ?_; clear hL; intro gq wq hL)) | ((with_reducible refine qE rfl rfl ?_); (refine lJ rfl hL rfl rfl cy ?_; clear hL; intro gq wq hL)) | ((with_reducible refine qB rfl rfl ?_); (first | (refine lC rfl hL rfl rfl HasV.mem (by rfl) ?_) | (refine lA rfl hL rfl rfl HasV.mem (by rfl) ?_) | (refine lF rfl hL rfl rfl HasV.mem SegC.seg ?_))) | ((with_reducible refine qC rfl rfl ?_); (first | (refine lH rfl hL rfl rfl rfl cy (by rfl) ?_) | (refine lG rfl hL rfl rfl rfl cy (by rfl) (by rfl) ?_)); clear hL; intro wq hL) | ((with_reducible refine qA rfl rfl ?_ ?_); (exact wz rfl rfl rfl (by with_reducible rfl)); (first | (refine lD (wz rfl rfl rfl rfl) hL rfl rfl HasV.mem (by rfl) ?_) | (refine lB (wz rfl rfl rfl rfl) hL rfl rfl HasV.mem (by rfl) ?_) | (refine lE (wz rfl rfl rfl rfl) hL rfl rfl HasV.mem SegC.seg ?_)))
      | (at_builtin; refine ev_growNil encN w.heap.size rfl hL rfl rfl rfl Try.underlying3 rfl rfl (by omega) hn (Nat.le_refl _) ?_; clear hL; intro g G wq hG hG63 hL; have hG2 : (0 : Int) ≤ (G : Int) := by omega))
    go_ret
    exact ⟨_, rfl, hL⟩
/-- What k of the lists hold together. -/
def upto {α : Type} (xss : List (List α)) (k : Nat) : List α := (xss.take k).flatten
theorem upto_succ {α : Type} (xss : List (List α)) (k : Nat) (h : k < xss.length) : upto xss (k + 1) = upto xss k ++ xss[k] := by
  unfold upto
  rw [(List.take_append_getElem h).symm, List.flatten_append]
  simp
theorem upto_len {α : Type} (xss : List (List α)) (k : Nat) : (upto xss k).length ≤ xss.flatten.length := by
  have h : xss.flatten = upto xss k ++ (xss.drop k).flatten := by unfold upto; rw [← List.flatten_append, List.take_append_drop]
  rw [h, List.length_append]
  omega
set_option maxHeartbeats 2000000 in
theorem concat (v : Value) (ss : List Sl) (xss : List (List Nd)) (w : World) (h : encSl.R w v ss) (hl : ss.length = xss.length) (hx : ∀ i (h1 : i < ss.length) (h2 : i < xss.length), (encN).R w ss[i].val xss[i]) (hn : xss.flatten.length ≤ 1000000000) (hm : ss.length ≤ 1000000000) :
    Calls Try.prog 90 #[v] w fun e w' => ∃ u, e = .returned u ∧ Loc w NoM w' [row encN w.heap.size 43 u xss.flatten] := by
  have hL := Loc.nil w NoM
  obtain ⟨ao, c, rfl, hel⟩ := R_elem h
  have HX := Lib.hid hx
  have HL := Lib.hid hl
  clear hx h hl
  go_enter Try.func90, Try.ntmps90
  go_wp2_with (first | ((with_reducible refine qD rfl rfl ?_); (refine lI rfl hL rfl cy ?_; clear hL; intro gq wq hL)) | ((with_reducible refine qE rfl rfl ?_); (refine lJ rfl hL rfl rfl cy ?_; clear hL; intro gq wq hL)) | ((with_reducible refine qB rfl rfl ?_); (first | (refine lC rfl hL rfl rfl HasV.mem (by rfl) ?_) | (refine lA rfl hL rfl rfl HasV.mem (by rfl) ?_) | (refine lF rfl hL rfl rfl HasV.mem SegC.seg ?_))) | ((with_reducible refine qC rfl rfl ?_); (first | (refine lH rfl hL rfl rfl rfl cy (by rfl) ?_) | (refine lG rfl hL rfl rfl rfl cy (by rfl) (by rfl) ?_)); clear hL; intro wq hL) | ((with_reducible refine qA rfl rfl ?_ ?_); (exact wz rfl rfl rfl (by with_reducible rfl)); (first | (refine lD (wz rfl rfl rfl rfl) hL rfl rfl HasV.mem (by rfl) ?_) | (refine lB (wz rfl rfl rfl rfl) hL rfl rfl HasV.mem (by rfl) ?_) | (refine lE (wz rfl rfl rfl rfl) hL rfl rfl HasV.mem SegC.seg ?_))))
  go_loopw [3, 11] (fun s i wr => ∃ k : Nat, k ≤ ss.length ∧ i = .int .i64 k ∧ s = .int .i64 ((upto xss k).length : Nat) ∧ Loc w NoM wr []) (fun _ i _ => ss.length - (intOf i).toNat)
  case atStart => exact ⟨0, by omega, rfl, rfl, hL⟩
  case round =>
    clear hL
    obtain ⟨k, hk, rfl, rfl, hL⟩ := hrel
    by_cases hlt : k < ss.length
    · obtain ⟨g, off, rfl, hr⟩ := hel k hlt
      have hrW : wr.rangeAt g (off + k * 1) [.slice ss[k].a ss[k].n ss[k].c] := range_below hr hL.below
      clear hr
      have hlt2 : k < xss.length := by have := HL.out; omega
      have hR := HX.out k hlt hlt2
      obtain ⟨ao2, c2, e2, -⟩ := R_elem hR
      have HN : Hid ((upto xss (k + 1)).length = (upto xss k).length + ss[k].n) := Lib.hid (by
        rw [upto_succ xss k hlt2, List.length_append]
        have e3 : ss[k].n = xss[k].length := by unfold Sl.val at e2; injection e2
        rw [e3])
      have hb1 := upto_len xss (k + 1)
      rw [HN.out] at hb1
      generalize (upto xss k).length = N at *
      clear hR e2
      generalize ss[k].n = m at *
      generalize ss[k].a = aa at *
      generalize ss[k].c = cc at *
      have hb2 : N + m ≤ 1000000000 := by omega
      have hneg : ¬ ((N : Int) + (m : Int) < 0) := by omega
      go_wp2_with (first
        | ((with_reducible refine qF rfl rfl ?_); refine lL rfl rfl rfl rfl hlt ?_)
        | ((with_reducible refine gate (N := 14) rfl ?_); refine ev_loadR1 (v := .slice aa m cc) rfl rfl rfl hrW ?_)
        | ((with_reducible refine qD rfl rfl ?_); (refine lI rfl hL rfl cy ?_; clear hL; intro gq wq hL)) | ((with_reducible refine qE rfl rfl ?_); (refine lJ rfl hL rfl rfl cy ?_; clear hL; intro gq wq hL)) | ((with_reducible refine qB rfl rfl ?_); (first | (refine lC rfl hL rfl rfl HasV.mem (by rfl) ?_) | (refine lA rfl hL rfl rfl HasV.mem (by rfl) ?_) | (refine lF rfl hL rfl rfl HasV.mem SegC.seg ?_))) | ((with_reducible refine qC rfl rfl ?_); (first | (refine lH rfl hL rfl rfl rfl cy (by rfl) ?_) | (refine lG rfl hL rfl rfl rfl cy (by rfl) (by rfl) ?_)); clear hL; intro wq hL) | ((with_reducible refine qA rfl rfl ?_ ?_); (exact wz rfl rfl rfl (by with_reducible rfl)); (first | (refine lD (wz rfl rfl rfl rfl) hL rfl rfl HasV.mem (by rfl) ?_) | (refine lB (wz rfl rfl rfl rfl) hL rfl rfl HasV.mem (by rfl) ?_) | (refine lE (wz rfl rfl rfl rfl) hL rfl rfl HasV.mem SegC.seg ?_))))
      go_roundw
      case rel => exact ⟨k + 1, by omega, by go_num, by rw [HN.out]; go_num, hL⟩
      case measure => simp [intOf]; omega
    · obtain rfl : k = ss.length := by omega
      have hb1 := upto_len xss ss.length
      generalize (upto xss ss.length).length = N at *
      go_wp2_with (first
        | (go_at_call 145; (with_reducible refine (growNil N _ (by omega)).mono ?_); rintro e w3 ⟨v0, rfl, hL3⟩; have hL := hL.takeRow hL3; clear hL3)
        | ((with_reducible refine qD rfl rfl ?_); (refine lI rfl hL rfl cy ?_; clear hL; intro gq wq hL)) | ((with_reducible refine qE rfl rfl ?_); (refine lJ rfl hL rfl rfl cy ?_; clear hL; intro gq wq hL)) | ((with_reducible refine qB rfl rfl ?_); (first | (refine lC rfl hL rfl rfl HasV.mem (by rfl) ?_) | (refine lA rfl hL rfl rfl HasV.mem (by rfl) ?_) | (refine lF rfl hL rfl rfl HasV.mem SegC.seg ?_))) | ((with_reducible refine qC rfl rfl ?_); (first | (refine lH rfl hL rfl rfl rfl cy (by rfl) ?_) | (refine lG rfl hL rfl rfl rfl cy (by rfl) (by rfl) ?_)); clear hL; intro wq hL) | ((with_reducible refine qA rfl rfl ?_ ?_); (exact wz rfl rfl rfl (by with_reducible rfl)); (first | (refine lD (wz rfl rfl rfl rfl) hL rfl rfl HasV.mem (by rfl) ?_) | (refine lB (wz rfl rfl rfl rfl) hL rfl rfl HasV.mem (by rfl) ?_) | (refine lE (wz rfl rfl rfl rfl) hL rfl rfl HasV.mem SegC.seg ?_))))
      clear hb1 hk hlt
      go_loopw [6, 27] (fun s i wr => ∃ (k : Nat) (vs : Value), k ≤ ss.length ∧ i = .int .i64 k ∧ s = vs ∧ Loc w NoM wr [row encN w.heap.size 43 vs (upto xss k)]) (fun _ i _ => ss.length - (intOf i).toNat)
      case atStart => exact ⟨0, _, by omega, rfl, rfl, hL⟩
      case round =>
        clear hL
        obtain ⟨k, vs, hk, rfl, rfl, hL⟩ := hrel
        by_cases hlt : k < ss.length
        · obtain ⟨g, off, rfl, hr⟩ := hel k hlt
          have hrW : wr.rangeAt g (off + k * 1) [.slice ss[k].a ss[k].n ss[k].c] := range_below hr hL.below
          clear hr
          have hlt2 : k < xss.length := by have := HL.out; omega
          have hR := Lib.hid ((HX.out k hlt hlt2).below hL.below)
          have HN := Lib.hid (upto_succ xss k hlt2)
          have hb1 := upto_len xss (k + 1)
          rw [HN.out, List.length_append] at hb1
          unfold Sl.val at hR
          generalize upto xss k = L at *
          generalize xss[k] = ys at *
          generalize ss[k].n = m at *
          generalize ss[k].a = aa at *
          generalize ss[k].c = cc at *
          go_wp2_with (first
            | ((with_reducible refine qF rfl rfl ?_); refine lL rfl rfl rfl rfl hlt ?_)
            | ((with_reducible refine gate (N := 30) rfl ?_); refine ev_loadR1 (v := .slice aa m cc) rfl rfl rfl hrW ?_)
            | ((with_reducible refine qD rfl rfl ?_); (refine lI rfl hL rfl cy ?_; clear hL; intro gq wq hL)) | ((with_reducible refine qE rfl rfl ?_); (refine lJ rfl hL rfl rfl cy ?_; clear hL; intro gq wq hL)) | ((with_reducible refine qB rfl rfl ?_); (first | (refine lC rfl hL rfl rfl HasV.mem (by rfl) ?_) | (refine lA rfl hL rfl rfl HasV.mem (by rfl) ?_) | (refine lF rfl hL rfl rfl HasV.mem SegC.seg ?_))) | ((with_reducible refine qC rfl rfl ?_); (first | (refine lH rfl hL rfl rfl rfl cy (by rfl) ?_) | (refine lG rfl hL rfl rfl rfl cy (by rfl) (by rfl) ?_)); clear hL; intro wq hL) | ((with_reducible refine qA rfl rfl ?_ ?_); (exact wz rfl rfl rfl (by with_reducible rfl)); (first | (refine lD (wz rfl rfl rfl rfl) hL rfl rfl HasV.mem (by rfl) ?_) | (refine lB (wz rfl rfl rfl rfl) hL rfl rfl HasV.mem (by rfl) ?_) | (refine lE (wz rfl rfl rfl rfl) hL rfl rfl HasV.mem SegC.seg ?_)))
            | (at_builtin; refine ev_appL (E := encN) ys rfl hL rfl rfl rfl hR.out (fun _ => sx) rfl rfl (by omega) hL.size ?_; clear hL hR; intro v' wq hL))
          go_roundw
          case rel => exact ⟨k + 1, _, by omega, by go_num, rfl, by rw [HN.out]; exact hL⟩
          case measure => simp [intOf]; omega
        · obtain rfl : k = ss.length := by omega
          have HT := Lib.hid (show upto xss ss.length = xss.flatten from by unfold upto; rw [HL.out, List.take_length])
          rw [HT.out] at hL
          go_wp2
          go_ret
          exact ⟨_, rfl, hL⟩
end Go.Proofs.Ytebpacmhdkgfeaa.ConcatN


/- slices.Grow of nil, and slices.Concat, at crannog/api.Link. -/
namespace Go.Proofs.Ytebpacmhdkgfeaa.ConcatK
open Go.RowKit

theorem row0 {w0 w : World} {M : Nat → Prop} {l : List Item} (h : Loc w0 M w l) {α : Type} (E : Enc α) (base : Nat) (e : TypeId) : Loc w0 M w (row E base e (.slice none 0 0) [] :: l) :=
  h.callNew (Below.refl _ _) (row_at (Enc.O.none _ _ _)) fun k hk => by cases hk
set_option maxHeartbeats 1000000 in
theorem growNil (n : Nat) (w : World) (hn : n ≤ 100000000000) :
    Calls Try.prog 151 #[.slice none 0 0, .int .i64 n] w fun e w' => ∃ v, e = .returned v ∧ Loc w NoM w' [row encK w.heap.size 48 v []] := by
  have hL := Loc.nil w NoM
  have h0 : ¬ ((n : Int) < 0) := by omega
  by_cases hz : n = 0
  · subst hz
    have hL := row0 hL encK w.heap.size 48
    go_enter Try.func151, Try.ntmps151
    go_wp2_with (first | ((with_reducible refine qD rfl rfl ?_); (refine lI rfl hL rfl cy ?_; clear hL; intro gq wq hL)) | ((with_reducible refine qE rfl rfl ?_); (refine lJ rfl hL rfl rfl cy ?_; clear hL; intro gq wq hL)) | ((with_reducible refine qB rfl rfl ?_); (first | (refine lC rfl hL rfl rfl HasV.mem (by rfl) ?_) | (refine lA rfl hL rfl rfl HasV.mem (by rfl) ?_) | (refine lF rfl hL rfl rfl HasV.mem SegC.seg ?_))) | ((with_reducible refine qC rfl rfl ?_); (first | (refine lH rfl hL rfl rfl rfl cy (by rfl) ?_) | (refine lG rfl hL rfl rfl rfl cy (by rfl) (by rfl) ?_)); clear hL; intro wq hL) | ((with_reducible refine qA rfl rfl ?_ ?_); (exact wz rfl rfl rfl (by with_reducible rfl)); (first | (refine lD (wz rfl rfl rfl rfl) hL rfl rfl HasV.mem (by rfl) ?_) | (refine lB (wz rfl rfl rfl rfl) hL rfl rfl HasV.mem (by rfl) ?_) | (refine lE (wz rfl rfl rfl rfl) hL rfl rfl HasV.mem SegC.seg ?_))))
    go_ret
    exact ⟨_, rfl, hL⟩
  · have h1 : (0 : Int) < (n : Int) := by omega
    go_enter Try.func151, Try.ntmps151
    go_wp2_with (first
      | ((with_reducible refine qD rfl rfl ?_); (refine lI rfl hL rfl cy ?_; clear hL; intro gq wq hL)) | ((with_reducible refine qE rfl rfl ?_); (refine lJ rfl hL rfl rfl cy ?_; clear hL; intro gq wq hL)) | ((with_reducible refine qB rfl rfl ?_); (first | (refine lC rfl hL rfl rfl HasV.mem (by rfl) ?_) | (refine lA rfl hL rfl rfl HasV.mem (by rfl) ?_) | (refine lF rfl hL rfl rfl HasV.mem SegC.seg ?_))) | ((with_reducible refine qC rfl rfl ?_); (first | (refine lH rfl hL rfl rfl rfl cy (by rfl) ?_) | (refine lG rfl hL rfl rfl rfl cy (by rfl) (by rfl) ?_)); clear hL; intro wq hL) | ((with_reducible refine qA rfl rfl ?_ ?_); (exact wz rfl rfl rfl (by with_reducible rfl)); (first | (refine lD (wz rfl rfl rfl rfl) hL rfl rfl HasV.mem (by rfl) ?_) | (refine lB (wz rfl rfl rfl rfl) hL rfl rfl HasV.mem (by rfl) ?_) | (refine lE (wz rfl rfl rfl rfl) hL rfl rfl HasV.mem SegC.seg ?_)))
      | (at_builtin; refine ev_growNil encK w.heap.size rfl hL rfl rfl rfl Try.underlying3 rfl rfl (by omega) hn (Nat.le_refl _) ?_; clear hL; intro g G wq hG hG63 hL; have hG2 : (0 : Int) ≤ (G : Int) := by omega))
    go_ret
    exact ⟨_, rfl, hL⟩
/-- What k of the lists hold together. -/
def upto {α : Type} (xss : List (List α)) (k : Nat) : List α := (xss.take k).flatten
theorem upto_succ {α : Type} (xss : List (List α)) (k : Nat) (h : k < xss.length) : upto xss (k + 1) = upto xss k ++ xss[k] := by
  unfold upto
  rw [(List.take_append_getElem h).symm, List.flatten_append]
  simp
theorem upto_len {α : Type} (xss : List (List α)) (k : Nat) : (upto xss k).length ≤ xss.flatten.length := by
  have h : xss.flatten = upto xss k ++ (xss.drop k).flatten := by unfold upto; rw [← List.flatten_append, List.take_append_drop]
  rw [h, List.length_append]
  omega
set_option maxHeartbeats 2000000 in
theorem concat (v : Value) (ss : List Sl) (xss : List (List Lnk)) (w : World) (h : encSl.R w v ss) (hl : ss.length = xss.length) (hx : ∀ i (h1 : i < ss.length) (h2 : i < xss.length), (encK).R w ss[i].val xss[i]) (hn : xss.flatten.length ≤ 1000000000) (hm : ss.length ≤ 1000000000) :
    Calls Try.prog 100 #[v] w fun e w' => ∃ u, e = .returned u ∧ Loc w NoM w' [row encK w.heap.size 48 u xss.flatten] := by
  have hL := Loc.nil w NoM
  obtain ⟨ao, c, rfl, hel⟩ := R_elem h
  have HX := Lib.hid hx
  have HL := Lib.hid hl
  clear hx h hl
  go_enter Try.func100, Try.ntmps100
  go_wp2_with (first | ((with_reducible refine qD rfl rfl ?_); (refine lI rfl hL rfl cy ?_; clear hL; intro gq wq hL)) | ((with_reducible refine qE rfl rfl ?_); (refine lJ rfl hL rfl rfl cy ?_; clear hL; intro gq wq hL)) | ((with_reducible refine qB rfl rfl ?_); (first | (refine lC rfl hL rfl rfl HasV.mem (by rfl) ?_) | (refine lA rfl hL rfl rfl HasV.mem (by rfl) ?_) | (refine lF rfl hL rfl rfl HasV.mem SegC.seg ?_))) | ((with_reducible refine qC rfl rfl ?_); (first | (refine lH rfl hL rfl rfl rfl cy (by rfl) ?_) | (refine lG rfl hL rfl rfl rfl cy (by rfl) (by rfl) ?_)); clear hL; intro wq hL) | ((with_reducible refine qA rfl rfl ?_ ?_); (exact wz rfl rfl rfl (by with_reducible rfl)); (first | (refine lD (wz rfl rfl rfl rfl) hL rfl rfl HasV.mem (by rfl) ?_) | (refine lB (wz rfl rfl rfl rfl) hL rfl rfl HasV.mem (by rfl) ?_) | (refine lE (wz rfl rfl rfl rfl) hL rfl rfl HasV.mem SegC.seg ?_))))
  go_loopw [3, 11] (fun s i wr => ∃ k : Nat, k ≤ ss.length ∧ i = .int .i64 k ∧ s = .int .i64 ((upto xss k).length : Nat) ∧ Loc w NoM wr []) (fun _ i _ => ss.length - (intOf i).toNat)
  case atStart => exact ⟨0, by omega, rfl, rfl, hL⟩
  case round =>
    clear hL
    obtain ⟨k, hk, rfl, rfl, hL⟩ := hrel
    by_cases hlt : k < ss.length
    · obtain ⟨g, off, rfl, hr⟩ := hel k hlt
      have hrW : wr.rangeAt g (off + k * 1) [.slice ss[k].a ss[k].n ss[k].c] := range_below hr hL.below
      clear hr
      have hlt2 : k < xss.length := by have := HL.out; omega
      have hR := HX.out k hlt hlt2
      obtain ⟨ao2, c2, e2, -⟩ := R_elem hR
      have HN : Hid ((upto xss (k + 1)).length = (upto xss k).length + ss[k].n) := Lib.hid (by
        rw [upto_succ xss k hlt2, List.length_append]
        have e3 : ss[k].n = xss[k].length := by unfold Sl.val at e2; injection e2
        rw [e3])
      have hb1 := upto_len xss (k + 1)
      rw [HN.out] at hb1
      generalize (upto xss k).length = N at *
      clear hR e2
      generalize ss[k].n = m at *
      generalize ss[k].a = aa at *
      generalize ss[k].c = cc at *
      have hb2 : N + m ≤ 1000000000 := by omega
      have hneg : ¬ ((N : Int) + (m : Int) < 0) := by omega
      go_wp2_with (first
        | ((with_reducible refine qF rfl rfl ?_); refine lL rfl rfl rfl rfl hlt ?_)
        | ((with_reducible refine gate (N := 14) rfl ?_); refine ev_loadR1 (v := .slice aa m cc) rfl rfl rfl hrW ?_)
        | ((with_reducible refine qD rfl rfl ?_); (refine lI rfl hL rfl cy ?_; clear hL; intro gq wq hL)) | ((with_reducible refine qE rfl rfl ?_); (refine lJ rfl hL rfl rfl cy ?_; clear hL; intro gq wq hL)) | ((with_reducible refine qB rfl rfl ?_); (first | (refine lC rfl hL rfl rfl HasV.mem (by rfl) ?_) | (refine lA rfl hL rfl rfl HasV.mem (by rfl) ?_) | (refine lF rfl hL rfl rfl HasV.mem SegC.seg ?_))) | ((with_reducible refine qC rfl rfl ?_); (first | (refine lH rfl hL rfl rfl rfl cy (by rfl) ?_) | (refine lG rfl hL rfl rfl rfl cy (by rfl) (by rfl) ?_)); clear hL; intro wq hL) | ((with_reducible refine qA rfl rfl ?_ ?_); (exact wz rfl rfl rfl (by with_reducible rfl)); (first | (refine lD (wz rfl rfl rfl rfl) hL rfl rfl HasV.mem (by rfl) ?_) | (refine lB (wz rfl rfl rfl rfl) hL rfl rfl HasV.mem (by rfl) ?_) | (refine lE (wz rfl rfl rfl rfl) hL rfl rfl HasV.mem SegC.seg ?_))))
      go_roundw
      case rel => exact ⟨k + 1, by omega, by go_num, by rw [HN.out]; go_num, hL⟩
      case measure => simp [intOf]; omega
    · obtain rfl : k = ss.length := by omega
      have hb1 := upto_len xss ss.length
      generalize (upto xss ss.length).length = N at *
      go_wp2_with (first
        | (go_at_call 151; (with_reducible refine (growNil N _ (by omega)).mono ?_); rintro e w3 ⟨v0, rfl, hL3⟩; have hL := hL.takeRow hL3; clear hL3)
        | ((with_reducible refine qD rfl rfl ?_); (refine lI rfl hL rfl cy ?_; clear hL; intro gq wq hL)) | ((with_reducible refine qE rfl rfl ?_); (refine lJ rfl hL rfl rfl cy ?_; clear hL; intro gq wq hL)) | ((with_reducible refine qB rfl rfl ?_); (first | (refine lC rfl hL rfl rfl HasV.mem (by rfl) ?_) | (refine lA rfl hL rfl rfl HasV.mem (by rfl) ?_) | (refine lF rfl hL rfl rfl HasV.mem SegC.seg ?_))) | ((with_reducible refine qC rfl rfl ?_); (first | (refine lH rfl hL rfl rfl rfl cy (by rfl) ?_) | (refine lG rfl hL rfl rfl rfl cy (by rfl) (by rfl) ?_)); clear hL; intro wq hL) | ((with_reducible refine qA rfl rfl ?_ ?_); (exact wz rfl rfl rfl (by with_reducible rfl)); (first | (refine lD (wz rfl rfl rfl rfl) hL rfl rfl HasV.mem (by rfl) ?_) | (refine lB (wz rfl rfl rfl rfl) hL rfl rfl HasV.mem (by rfl) ?_) | (refine lE (wz rfl rfl rfl rfl) hL rfl rfl HasV.mem SegC.seg ?_))))
      clear hb1 hk hlt
      go_loopw [6, 27] (fun s i wr => ∃ (k : Nat) (vs : Value), k ≤ ss.length ∧ i = .int .i64 k ∧ s = vs ∧ Loc w NoM wr [row encK w.heap.size 48 vs (upto xss k)]) (fun _ i _ => ss.length - (intOf i).toNat)
      case atStart => exact ⟨0, _, by omega, rfl, rfl, hL⟩
      case round =>
        clear hL
        obtain ⟨k, vs, hk, rfl, rfl, hL⟩ := hrel
        by_cases hlt : k < ss.length
        · obtain ⟨g, off, rfl, hr⟩ := hel k hlt
          have hrW : wr.rangeAt g (off + k * 1) [.slice ss[k].a ss[k].n ss[k].c] := range_below hr hL.below
          clear hr
          have hlt2 : k < xss.length := by have := HL.out; omega
          have hR := Lib.hid ((HX.out k hlt hlt2).below hL.below)
          have HN := Lib.hid (upto_succ xss k hlt2)
          have hb1 := upto_len xss (k + 1)
          rw [HN.out, List.length_append] at hb1
          unfold Sl.val at hR
          generalize upto xss k = L at *
          generalize xss[k] = ys at *
          generalize ss[k].n = m at *
          generalize ss[k].a = aa at *
          generalize ss[k].c = cc at *
          go_wp2_with (first
            | ((with_reducible refine qF rfl rfl ?_); refine lL rfl rfl rfl rfl hlt ?_)
            | ((with_reducible refine gate (N := 30) rfl ?_); refine ev_loadR1 (v := .slice aa m cc) rfl rfl rfl hrW ?_)
            | ((with_reducible refine qD rfl rfl ?_); (refine lI rfl hL rfl cy ?_; clear hL; intro gq wq hL)) | ((with_reducible refine qE rfl rfl ?_); (refine lJ rfl hL rfl rfl cy ?_; clear hL; intro gq wq hL)) | ((with_reducible refine qB rfl rfl ?_); (first | (refine lC rfl hL rfl rfl HasV.mem (by rfl) ?_) | (refine lA rfl hL rfl rfl HasV.mem (by rfl) ?_) | (refine lF rfl hL rfl rfl HasV.mem SegC.seg ?_))) | ((with_reducible refine qC rfl rfl ?_); (first | (refine lH rfl hL rfl rfl rfl cy (by rfl) ?_) | (refine lG rfl hL rfl rfl rfl cy (by rfl) (by rfl) ?_)); clear hL; intro wq hL) | ((with_reducible refine qA rfl rfl ?_ ?_); (exact wz rfl rfl rfl (by with_reducible rfl)); (first | (refine lD (wz rfl rfl rfl rfl) hL rfl rfl HasV.mem (by rfl) ?_) | (refine lB (wz rfl rfl rfl rfl) hL rfl rfl HasV.mem (by rfl) ?_) | (refine lE (wz rfl rfl rfl rfl) hL rfl rfl HasV.mem SegC.seg ?_)))
            | (at_builtin; refine ev_appL (E := encK) ys rfl hL rfl rfl rfl hR.out (fun _ => sx) rfl rfl (by omega) hL.size ?_; clear hL hR; intro v' wq hL))
          go_roundw
          case rel => exact ⟨k + 1, _, by omega, by go_num, rfl, by rw [HN.out]; exact hL⟩
          case measure => simp [intOf]; omega
        · obtain rfl : k = ss.length := by omega
          have HT := Lib.hid (show upto xss ss.length = xss.flatten from by unfold upto; rw [HL.out, List.take_length])
          rw [HT.out] at hL
          go_wp2
          go_ret
          exact ⟨_, rfl, hL⟩
end Go.Proofs.Ytebpacmhdkgfeaa.ConcatK


/- Package join: pruning a state of one link that all know to be gone. -/
namespace Go.Proofs.Ytebpacmhdkgfeaa
open Go.RowKit Go.Maps Go.WideMaps
set_option maxHeartbeats 8000000
set_option maxRecDepth 100000
theorem within_ext {W : World} {e : Ext W} (a b : V8) (r : Bool) (h : a.within b = r) : Calls Try.prog 89 #[.agg #[.int .i64 a.a0, .int .i64 a.a1, .int .i64 a.a2, .int .i64 a.a3, .int .i64 a.a4, .int .i64 a.a5, .int .i64 a.a6, .int .i64 a.a7], .agg #[.int .i64 b.a0, .int .i64 b.a1, .int .i64 b.a2, .int .i64 b.a3, .int .i64 b.a4, .int .i64 b.a5, .int .i64 b.a6, .int .i64 b.a7]] e.w fun en w'' => en = .returned (.bool r) ∧ ∃ z : Ext W, w'' = z.w := h ▸ calls_ext (vec_within a b e.w)
theorem vhas_ext {W : World} {e : Ext W} (a : V8) (m : Mk) (r : Bool) (h : a.has m = r) : Calls Try.prog 118 #[.agg #[.int .i64 a.a0, .int .i64 a.a1, .int .i64 a.a2, .int .i64 a.a3, .int .i64 a.a4, .int .i64 a.a5, .int .i64 a.a6, .int .i64 a.a7], .agg #[.int .i64 m.boot, .int .i64 m.n]] e.w fun en w'' => en = .returned (.bool r) ∧ ∃ z : Ext W, w'' = z.w := h ▸ calls_ext (vec_has a m e.w)
theorem meet_ext {W : World} {e : Ext W} (a b c : V8) (h : a.meet b = c) : Calls Try.prog 51 #[.agg #[.int .i64 a.a0, .int .i64 a.a1, .int .i64 a.a2, .int .i64 a.a3, .int .i64 a.a4, .int .i64 a.a5, .int .i64 a.a6, .int .i64 a.a7], .agg #[.int .i64 b.a0, .int .i64 b.a1, .int .i64 b.a2, .int .i64 b.a3, .int .i64 b.a4, .int .i64 b.a5, .int .i64 b.a6, .int .i64 b.a7]] e.w fun en w'' => en = .returned (.agg #[.int .i64 c.a0, .int .i64 c.a1, .int .i64 c.a2, .int .i64 c.a3, .int .i64 c.a4, .int .i64 c.a5, .int .i64 c.a6, .int .i64 c.a7]) ∧ ∃ z : Ext W, w'' = z.w :=
  calls_ext ((vec_meet a b e.w).mono fun _ _ ⟨⟨c', e1, e2⟩, hb⟩ => by subst e1; subst h; exact ⟨e2, hb⟩)
theorem cut_shown (sv st : V8) (nv : Sl) (l : Lnk) (gl lc gc : Nat) (w : World) (hx : Box w gc ([.int .i64 sv.a0, .int .i64 sv.a1, .int .i64 sv.a2, .int .i64 sv.a3, .int .i64 sv.a4, .int .i64 sv.a5, .int .i64 sv.a6, .int .i64 sv.a7, .slice nv.a nv.n nv.c, .slice (some ⟨gl, 0, none⟩) 1 lc, .int .i64 st.a0, .int .i64 st.a1, .int .i64 st.a2, .int .i64 st.a3, .int .i64 st.a4, .int .i64 st.a5, .int .i64 st.a6, .int .i64 st.a7] : List Value).toArray 91) (hl : encK.R w (.slice (some ⟨gl, 0, none⟩) 1 lc) [l]) (hal : l.alive.within l.dead = true) (hk : ∃ ly, keyOf Try.prog 34 (.agg #[.int .i64 l.node.boot, .int .i64 l.node.n]) = some ly) :
    Calls Try.prog 119 #[.pointer (some ⟨gc, 0, none⟩)] w fun e w' => ∃ g, e = .returned (.slice (some ⟨g, 0, none⟩) 1 1) ∧ Loc w NoM w' [var g [.bool false] 4] := by
  have hL := Loc.nil w NoM
  obtain ⟨ly, hky0⟩ := hk
  have HKY := Lib.hid hky0
  clear hky0
  obtain ⟨ao, cc, e1, hel⟩ := R_elem hl
  obtain ⟨g, off, e2, hr⟩ := hel 0 (by simp)
  rw [e2] at e1
  injection e1 with e1 e5 e6
  clear e5 e6
  injection e1 with e1
  injection e1 with e3 e4
  subst e3 e4
  have hz : w.rangeAt gl (0 + 0 * 25) (Lnk.cells l) := hr
  have hal2 : (!l.alive.within l.dead) = false := by rw [hal]; rfl
  have hqa := Lib.hid (fun wx => (show Calls Try.prog 35 #[.agg (encK.cells l).toArray] wx (fun e w' => e = .returned (.bool false) ∧ Below wx.heap.size wx w') from by
    have h9 := join_alive l wx
    rw [hal2] at h9
    exact h9))
  unfold Lnk.cells at hz
  clear hal2
  clear hl hel hr e2 hal
  go_enter Try.func119, Try.ntmps119
  go_wp2_with (first
    | ((with_reducible refine gate (N := 10) rfl ?_); refine ev_mkmap rfl hL rfl ?_; clear hL; intro gm wq hL)
    | ((with_reducible refine qB rfl rfl ?_); (first | (refine ev_loadB1 rfl (Loc.old hL hx not_noM) rfl rfl (by rfl) ?_) | (refine ev_loadBA rfl (Loc.old hL hx not_noM) rfl rfl (by repeat (first | exact .nil _ | with_reducible apply Seg.take | with_reducible apply Seg.skip)) ?_))) | ((with_reducible refine qA rfl rfl ?_ ?_); (exact wz rfl rfl rfl (by with_reducible rfl)); (refine ev_loadB1G (wz rfl rfl rfl rfl) (Loc.old hL hx not_noM) rfl rfl (by rfl) ?_))
    | ((with_reducible refine qD rfl rfl ?_); (refine lI rfl hL rfl cy ?_; clear hL; intro gq wq hL)) | ((with_reducible refine qE rfl rfl ?_); (refine lJ rfl hL rfl rfl cy ?_; clear hL; intro gq wq hL)) | ((with_reducible refine qB rfl rfl ?_); (first | (refine lC rfl hL rfl rfl HasV.mem (by rfl) ?_) | (refine lA rfl hL rfl rfl HasV.mem (by rfl) ?_) | (refine lF rfl hL rfl rfl HasV.mem SegC.seg ?_))) | ((with_reducible refine qC rfl rfl ?_); (first | (refine lH rfl hL rfl rfl rfl cy (by rfl) ?_) | (refine lG rfl hL rfl rfl rfl cy (by rfl) (by rfl) ?_)); clear hL; intro wq hL) | ((with_reducible refine qA rfl rfl ?_ ?_); (exact wz rfl rfl rfl (by with_reducible rfl)); (first | (refine lD (wz rfl rfl rfl rfl) hL rfl rfl HasV.mem (by rfl) ?_) | (refine lB (wz rfl rfl rfl rfl) hL rfl rfl HasV.mem (by rfl) ?_) | (refine lE (wz rfl rfl rfl rfl) hL rfl rfl HasV.mem SegC.seg ?_))))
  refine wp_loop_rounds 2 ?_
  rw [rounds_succ]
  go_wp2_with (first
    | ((with_reducible refine qF rfl rfl ?_); refine lL (i := 0) rfl rfl rfl rfl (by decide) ?_)
    | ((with_reducible refine gate (N := 21) rfl ?_); refine lK rfl rfl rfl (range_below hz hL.below) (by rfl) ?_)
    | ((with_reducible refine qB rfl rfl ?_); (first | (refine ev_loadB1 rfl (Loc.old hL hx not_noM) rfl rfl (by rfl) ?_) | (refine ev_loadBA rfl (Loc.old hL hx not_noM) rfl rfl (by repeat (first | exact .nil _ | with_reducible apply Seg.take | with_reducible apply Seg.skip)) ?_))) | ((with_reducible refine qA rfl rfl ?_ ?_); (exact wz rfl rfl rfl (by with_reducible rfl)); (refine ev_loadB1G (wz rfl rfl rfl rfl) (Loc.old hL hx not_noM) rfl rfl (by rfl) ?_))
    | ((with_reducible refine qD rfl rfl ?_); (refine lI rfl hL rfl cy ?_; clear hL; intro gq wq hL)) | ((with_reducible refine qE rfl rfl ?_); (refine lJ rfl hL rfl rfl cy ?_; clear hL; intro gq wq hL)) | ((with_reducible refine qB rfl rfl ?_); (first | (refine lC rfl hL rfl rfl HasV.mem (by rfl) ?_) | (refine lA rfl hL rfl rfl HasV.mem (by rfl) ?_) | (refine lF rfl hL rfl rfl HasV.mem SegC.seg ?_))) | ((with_reducible refine qC rfl rfl ?_); (first | (refine lH rfl hL rfl rfl rfl cy (by rfl) ?_) | (refine lG rfl hL rfl rfl rfl cy (by rfl) (by rfl) ?_)); clear hL; intro wq hL) | ((with_reducible refine qA rfl rfl ?_ ?_); (exact wz rfl rfl rfl (by with_reducible rfl)); (first | (refine lD (wz rfl rfl rfl rfl) hL rfl rfl HasV.mem (by rfl) ?_) | (refine lB (wz rfl rfl rfl rfl) hL rfl rfl HasV.mem (by rfl) ?_) | (refine lE (wz rfl rfl rfl rfl) hL rfl rfl HasV.mem SegC.seg ?_)))
    | (refine ev_mput0 (K := 34) (e := 3) stamp_keyed Try.underlying95 rfl hL rfl rfl rfl rfl HKY.out sx ?_; clear hL; intro wq hL))
  rw [rounds_succ]
  go_wp2_with (first
    | ((with_reducible refine gate (N := 33) rfl ?_); refine ev_make1 (e := 4) Try.underlying52 rfl (by decide) rfl hL rfl rfl rfl ?_; clear hL; intro g33 wq hL)
    | ((with_reducible refine qB rfl rfl ?_); (first | (refine ev_loadB1 rfl (Loc.old hL hx not_noM) rfl rfl (by rfl) ?_) | (refine ev_loadBA rfl (Loc.old hL hx not_noM) rfl rfl (by repeat (first | exact .nil _ | with_reducible apply Seg.take | with_reducible apply Seg.skip)) ?_))) | ((with_reducible refine qA rfl rfl ?_ ?_); (exact wz rfl rfl rfl (by with_reducible rfl)); (refine ev_loadB1G (wz rfl rfl rfl rfl) (Loc.old hL hx not_noM) rfl rfl (by rfl) ?_))
    | ((with_reducible refine qD rfl rfl ?_); (refine lI rfl hL rfl cy ?_; clear hL; intro gq wq hL)) | ((with_reducible refine qE rfl rfl ?_); (refine lJ rfl hL rfl rfl cy ?_; clear hL; intro gq wq hL)) | ((with_reducible refine qB rfl rfl ?_); (first | (refine lC rfl hL rfl rfl HasV.mem (by rfl) ?_) | (refine lA rfl hL rfl rfl HasV.mem (by rfl) ?_) | (refine lF rfl hL rfl rfl HasV.mem SegC.seg ?_))) | ((with_reducible refine qC rfl rfl ?_); (first | (refine lH rfl hL rfl rfl rfl cy (by rfl) ?_) | (refine lG rfl hL rfl rfl rfl cy (by rfl) (by rfl) ?_)); clear hL; intro wq hL) | ((with_reducible refine qA rfl rfl ?_ ?_); (exact wz rfl rfl rfl (by with_reducible rfl)); (first | (refine lD (wz rfl rfl rfl rfl) hL rfl rfl HasV.mem (by rfl) ?_) | (refine lB (wz rfl rfl rfl rfl) hL rfl rfl HasV.mem (by rfl) ?_) | (refine lE (wz rfl rfl rfl rfl) hL rfl rfl HasV.mem SegC.seg ?_))))
  refine wp_loop_rounds 2 ?_
  rw [rounds_succ]
  go_wp2_with (first
    | ((with_reducible refine qF rfl rfl ?_); refine lL (i := 0) rfl rfl rfl rfl (by decide) ?_)
    | ((with_reducible refine gate (N := 44) rfl ?_); refine lK rfl rfl rfl (range_below hz hL.below) (by rfl) ?_)
    | (go_at_call 35; (refine (hqa.out _).mono ?_); rintro e w9 ⟨rfl, hb9⟩; have hL := hL.call hb9; clear hb9)
    | ((with_reducible refine qB rfl rfl ?_); (first | (refine ev_loadB1 rfl (Loc.old hL hx not_noM) rfl rfl (by rfl) ?_) | (refine ev_loadBA rfl (Loc.old hL hx not_noM) rfl rfl (by repeat (first | exact .nil _ | with_reducible apply Seg.take | with_reducible apply Seg.skip)) ?_))) | ((with_reducible refine qA rfl rfl ?_ ?_); (exact wz rfl rfl rfl (by with_reducible rfl)); (refine ev_loadB1G (wz rfl rfl rfl rfl) (Loc.old hL hx not_noM) rfl rfl (by rfl) ?_))
    | ((with_reducible refine qD rfl rfl ?_); (refine lI rfl hL rfl cy ?_; clear hL; intro gq wq hL)) | ((with_reducible refine qE rfl rfl ?_); (refine lJ rfl hL rfl rfl cy ?_; clear hL; intro gq wq hL)) | ((with_reducible refine qB rfl rfl ?_); (first | (refine lC rfl hL rfl rfl HasV.mem (by rfl) ?_) | (refine lA rfl hL rfl rfl HasV.mem (by rfl) ?_) | (refine lF rfl hL rfl rfl HasV.mem SegC.seg ?_))) | ((with_reducible refine qC rfl rfl ?_); (first | (refine lH rfl hL rfl rfl rfl cy (by rfl) ?_) | (refine lG rfl hL rfl rfl rfl cy (by rfl) (by rfl) ?_)); clear hL; intro wq hL) | ((with_reducible refine qA rfl rfl ?_ ?_); (exact wz rfl rfl rfl (by with_reducible rfl)); (first | (refine lD (wz rfl rfl rfl rfl) hL rfl rfl HasV.mem (by rfl) ?_) | (refine lB (wz rfl rfl rfl rfl) hL rfl rfl HasV.mem (by rfl) ?_) | (refine lE (wz rfl rfl rfl rfl) hL rfl rfl HasV.mem SegC.seg ?_))))
  refine wp_loop_rounds 1 ?_
  rw [rounds_succ]
  go_wp2_with (first | ((with_reducible refine qD rfl rfl ?_); (refine lI rfl hL rfl cy ?_; clear hL; intro gq wq hL)) | ((with_reducible refine qE rfl rfl ?_); (refine lJ rfl hL rfl rfl cy ?_; clear hL; intro gq wq hL)) | ((with_reducible refine qB rfl rfl ?_); (first | (refine lC rfl hL rfl rfl HasV.mem (by rfl) ?_) | (refine lA rfl hL rfl rfl HasV.mem (by rfl) ?_) | (refine lF rfl hL rfl rfl HasV.mem SegC.seg ?_))) | ((with_reducible refine qC rfl rfl ?_); (first | (refine lH rfl hL rfl rfl rfl cy (by rfl) ?_) | (refine lG rfl hL rfl rfl rfl cy (by rfl) (by rfl) ?_)); clear hL; intro wq hL) | ((with_reducible refine qA rfl rfl ?_ ?_); (exact wz rfl rfl rfl (by with_reducible rfl)); (first | (refine lD (wz rfl rfl rfl rfl) hL rfl rfl HasV.mem (by rfl) ?_) | (refine lB (wz rfl rfl rfl rfl) hL rfl rfl HasV.mem (by rfl) ?_) | (refine lE (wz rfl rfl rfl rfl) hL rfl rfl HasV.mem SegC.seg ?_))))
  rw [rounds_succ]
  go_wp2_with (first | ((with_reducible refine qD rfl rfl ?_); (refine lI rfl hL rfl cy ?_; clear hL; intro gq wq hL)) | ((with_reducible refine qE rfl rfl ?_); (refine lJ rfl hL rfl rfl cy ?_; clear hL; intro gq wq hL)) | ((with_reducible refine qB rfl rfl ?_); (first | (refine lC rfl hL rfl rfl HasV.mem (by rfl) ?_) | (refine lA rfl hL rfl rfl HasV.mem (by rfl) ?_) | (refine lF rfl hL rfl rfl HasV.mem SegC.seg ?_))) | ((with_reducible refine qC rfl rfl ?_); (first | (refine lH rfl hL rfl rfl rfl cy (by rfl) ?_) | (refine lG rfl hL rfl rfl rfl cy (by rfl) (by rfl) ?_)); clear hL; intro wq hL) | ((with_reducible refine qA rfl rfl ?_ ?_); (exact wz rfl rfl rfl (by with_reducible rfl)); (first | (refine lD (wz rfl rfl rfl rfl) hL rfl rfl HasV.mem (by rfl) ?_) | (refine lB (wz rfl rfl rfl rfl) hL rfl rfl HasV.mem (by rfl) ?_) | (refine lE (wz rfl rfl rfl rfl) hL rfl rfl HasV.mem SegC.seg ?_))))
  go_ret
  exact ⟨_, rfl, hL.sub (by repeat (first | exact List.nil_sublist _ | apply List.Sublist.cons_cons | apply List.Sublist.cons))⟩
theorem cut_links (sv st : V8) (nv : Sl) (l : Lnk) (gl lc gc b : Nat) (w0 w : World) (M : Nat → Prop) (T : List Item) (hL : Loc w0 M w (var gc [.int .i64 sv.a0, .int .i64 sv.a1, .int .i64 sv.a2, .int .i64 sv.a3, .int .i64 sv.a4, .int .i64 sv.a5, .int .i64 sv.a6, .int .i64 sv.a7, .slice nv.a nv.n nv.c, .slice (some ⟨gl, 0, none⟩) 1 lc, .int .i64 st.a0, .int .i64 st.a1, .int .i64 st.a2, .int .i64 st.a3, .int .i64 st.a4, .int .i64 st.a5, .int .i64 st.a6, .int .i64 st.a7] 91 :: row encK b 48 (.slice (some ⟨gl, 0, none⟩) 1 lc) [l] :: T)) (hal : l.alive.within l.dead = true) (h1 : l.alive.within st = true) (h2 : l.dead.within st = true) (h3 : st.has l.at_ = true) (hk : ∃ ly, keyOf Try.prog 34 (.agg #[.int .i64 l.node.boot, .int .i64 l.node.n]) = some ly) :
    Calls Try.prog 55 #[.pointer (some ⟨gc, 0, none⟩)] w fun e w' => e = .returned (.tuple #[]) ∧ Loc w0 M w' (var gc [.int .i64 sv.a0, .int .i64 sv.a1, .int .i64 sv.a2, .int .i64 sv.a3, .int .i64 sv.a4, .int .i64 sv.a5, .int .i64 sv.a6, .int .i64 sv.a7, .slice nv.a nv.n nv.c, .slice none 0 0, .int .i64 st.a0, .int .i64 st.a1, .int .i64 st.a2, .int .i64 st.a3, .int .i64 st.a4, .int .i64 st.a5, .int .i64 st.a6, .int .i64 st.a7] 91 :: row encK b 48 (.slice (some ⟨gl, 0, none⟩) 1 lc) [l] :: T) := by
  have hsh := Lib.hid (cut_shown sv st nv l gl lc gc w (hL.box (.head _)) (hL.own (.tail _ (.head _))).read hal hk)
  obtain ⟨ly, hky0⟩ := hk
  have HKY := Lib.hid hky0
  have HA := Lib.hid h1
  have HD := Lib.hid h2
  have HH := Lib.hid h3
  have HZ : Hid (∀ (l' : List Item) (w' : World), Loc w0 M w' l' → row encK b 48 (.slice (some ⟨gl, 0, none⟩) 1 lc) [l] ∈ l' → w'.rangeAt gl (0 + 0 * 25) (Lnk.cells l)) := Lib.hid (fun l' w' h hm => by
    have := row_range (h.own (E := encK) hm) (y := l) (i := 0) rfl
    exact this)
  clear hky0 h1 h2 h3 hal
  go_enter Try.func55, Try.ntmps55
  go_wp2_with (first
    | (go_at_call 119; (with_reducible refine hsh.out.mono ?_); rintro e w9 ⟨gs, rfl, hL9⟩; replace hL := hL.takeAll hL9; simp only [List.cons_append, List.nil_append] at hL; clear hsh hL9)
    | ((with_reducible refine gate (N := 16) rfl ?_); refine ev_mkmap rfl hL rfl ?_; clear hL; intro gm wq hL)
    | ((with_reducible refine qD rfl rfl ?_); (refine lI rfl hL rfl cy ?_; clear hL; intro gq wq hL)) | ((with_reducible refine qE rfl rfl ?_); (refine lJ rfl hL rfl rfl cy ?_; clear hL; intro gq wq hL)) | ((with_reducible refine qB rfl rfl ?_); (first | (refine lC rfl hL rfl rfl HasV.mem (by rfl) ?_) | (refine lA rfl hL rfl rfl HasV.mem (by rfl) ?_) | (refine lF rfl hL rfl rfl HasV.mem SegC.seg ?_))) | ((with_reducible refine qC rfl rfl ?_); (first | (refine lH rfl hL rfl rfl rfl cy (by rfl) ?_) | (refine lG rfl hL rfl rfl rfl cy (by rfl) (by rfl) ?_)); clear hL; intro wq hL) | ((with_reducible refine qA rfl rfl ?_ ?_); (exact wz rfl rfl rfl (by with_reducible rfl)); (first | (refine lD (wz rfl rfl rfl rfl) hL rfl rfl HasV.mem (by rfl) ?_) | (refine lB (wz rfl rfl rfl rfl) hL rfl rfl HasV.mem (by rfl) ?_) | (refine lE (wz rfl rfl rfl rfl) hL rfl rfl HasV.mem SegC.seg ?_))))
  refine wp_loop_rounds 2 ?_
  rw [rounds_succ]
  have hz := HZ.out _ _ hL (.tail _ (.tail _ (.tail _ (.head _))))
  unfold Lnk.cells at hz
  go_wp2_with (first
    | ((with_reducible refine qF rfl rfl ?_); refine lL (i := 0) rfl rfl rfl rfl (by decide) ?_)
    | ((with_reducible refine gate (N := 27) rfl ?_); refine lK rfl rfl rfl hz (by rfl) ?_)
    | ((with_reducible refine qD rfl rfl ?_); (refine lI rfl hL rfl cy ?_; clear hL; intro gq wq hL)) | ((with_reducible refine qE rfl rfl ?_); (refine lJ rfl hL rfl rfl cy ?_; clear hL; intro gq wq hL)) | ((with_reducible refine qB rfl rfl ?_); (first | (refine lC rfl hL rfl rfl HasV.mem (by rfl) ?_) | (refine lA rfl hL rfl rfl HasV.mem (by rfl) ?_) | (refine lF rfl hL rfl rfl HasV.mem SegC.seg ?_))) | ((with_reducible refine qC rfl rfl ?_); (first | (refine lH rfl hL rfl rfl rfl cy (by rfl) ?_) | (refine lG rfl hL rfl rfl rfl cy (by rfl) (by rfl) ?_)); clear hL; intro wq hL) | ((with_reducible refine qA rfl rfl ?_ ?_); (exact wz rfl rfl rfl (by with_reducible rfl)); (first | (refine lD (wz rfl rfl rfl rfl) hL rfl rfl HasV.mem (by rfl) ?_) | (refine lB (wz rfl rfl rfl rfl) hL rfl rfl HasV.mem (by rfl) ?_) | (refine lE (wz rfl rfl rfl rfl) hL rfl rfl HasV.mem SegC.seg ?_)))
    | ((with_reducible refine gate (N := 33) rfl ?_); refine lM (cs := [.int .i64 0]) rfl hL rfl rfl rfl (by kernel_rfl) ?_; clear hL; intro g33 wq hL; replace hL := hL.rowNil' (encI .i64) w0.heap.size 3)
    | ((with_reducible refine gate (N := 34) rfl ?_); refine ev_entry0 (K := 34) (e := 154) stamp_keyed Try.underlying153 rfl hL rfl rfl rfl HKY.out sx ?_; clear hL; intro wq hL)
    | (at_builtin; refine ev_app1L (E := encI .i64) (base := w0.heap.size) (xs := []) 0 rfl hL rfl rfl rfl mx (fun _ => sx) rfl rfl rfl (by simp) hL.size ?_; clear hL; intro ao' c' wq hL)
    | (refine ev_estore0 rfl hL rfl rfl rfl rfl sx ?_; clear hL; intro wq hL))
  (try simp only [Act.put, zs, zt, zu])
  refine wp_region_ext (by kernel_rfl) (by kernel_rfl) ?_
  repeat (first
    | (go_big_quiet_want; (first | refine qH hL rfl rfl HasV.mem (by rfl) ?_ | refine qG hL rfl rfl HasV.mem (by rfl) ?_ | refine qI hL rfl rfl HasV.mem SegC.seg ?_); go_big_quiet_on; simp only [Act.put, zs, zt, zu])
    | go_big_quiet_step (first | (go_at_call 89; with_reducible exact within_ext l.alive st true HA.out) | (go_at_call 89; with_reducible exact within_ext l.dead st true HD.out) | (go_at_call 118; with_reducible exact vhas_ext st l.at_ true HH.out)))
  refine wpQuiet_nil ?_
  rintro _ ⟨⟨w10, hb10⟩, rfl⟩
  replace hL := hL.call hb10
  clear hb10 hz
  go_wp2_with (first
    | ((with_reducible refine qF rfl rfl ?_); refine lL (i := 0) rfl rfl rfl rfl (by decide) ?_)
    | ((with_reducible refine qD rfl rfl ?_); (refine lI rfl hL rfl cy ?_; clear hL; intro gq wq hL)) | ((with_reducible refine qE rfl rfl ?_); (refine lJ rfl hL rfl rfl cy ?_; clear hL; intro gq wq hL)) | ((with_reducible refine qB rfl rfl ?_); (first | (refine lC rfl hL rfl rfl HasV.mem (by rfl) ?_) | (refine lA rfl hL rfl rfl HasV.mem (by rfl) ?_) | (refine lF rfl hL rfl rfl HasV.mem SegC.seg ?_))) | ((with_reducible refine qC rfl rfl ?_); (first | (refine lH rfl hL rfl rfl rfl cy (by rfl) ?_) | (refine lG rfl hL rfl rfl rfl cy (by rfl) (by rfl) ?_)); clear hL; intro wq hL) | ((with_reducible refine qA rfl rfl ?_ ?_); (exact wz rfl rfl rfl (by with_reducible rfl)); (first | (refine lD (wz rfl rfl rfl rfl) hL rfl rfl HasV.mem (by rfl) ?_) | (refine lB (wz rfl rfl rfl rfl) hL rfl rfl HasV.mem (by rfl) ?_) | (refine lE (wz rfl rfl rfl rfl) hL rfl rfl HasV.mem SegC.seg ?_))))
  rw [rounds_succ]
  go_wp2_with (first | ((with_reducible refine qD rfl rfl ?_); (refine lI rfl hL rfl cy ?_; clear hL; intro gq wq hL)) | ((with_reducible refine qE rfl rfl ?_); (refine lJ rfl hL rfl rfl cy ?_; clear hL; intro gq wq hL)) | ((with_reducible refine qB rfl rfl ?_); (first | (refine lC rfl hL rfl rfl HasV.mem (by rfl) ?_) | (refine lA rfl hL rfl rfl HasV.mem (by rfl) ?_) | (refine lF rfl hL rfl rfl HasV.mem SegC.seg ?_))) | ((with_reducible refine qC rfl rfl ?_); (first | (refine lH rfl hL rfl rfl rfl cy (by rfl) ?_) | (refine lG rfl hL rfl rfl rfl cy (by rfl) (by rfl) ?_)); clear hL; intro wq hL) | ((with_reducible refine qA rfl rfl ?_ ?_); (exact wz rfl rfl rfl (by with_reducible rfl)); (first | (refine lD (wz rfl rfl rfl rfl) hL rfl rfl HasV.mem (by rfl) ?_) | (refine lB (wz rfl rfl rfl rfl) hL rfl rfl HasV.mem (by rfl) ?_) | (refine lE (wz rfl rfl rfl rfl) hL rfl rfl HasV.mem SegC.seg ?_))))
  refine wp_loop_rounds 1 ?_
  rw [rounds_succ]
  go_wp2_with (first | ((with_reducible refine qD rfl rfl ?_); (refine lI rfl hL rfl cy ?_; clear hL; intro gq wq hL)) | ((with_reducible refine qE rfl rfl ?_); (refine lJ rfl hL rfl rfl cy ?_; clear hL; intro gq wq hL)) | ((with_reducible refine qB rfl rfl ?_); (first | (refine lC rfl hL rfl rfl HasV.mem (by rfl) ?_) | (refine lA rfl hL rfl rfl HasV.mem (by rfl) ?_) | (refine lF rfl hL rfl rfl HasV.mem SegC.seg ?_))) | ((with_reducible refine qC rfl rfl ?_); (first | (refine lH rfl hL rfl rfl rfl cy (by rfl) ?_) | (refine lG rfl hL rfl rfl rfl cy (by rfl) (by rfl) ?_)); clear hL; intro wq hL) | ((with_reducible refine qA rfl rfl ?_ ?_); (exact wz rfl rfl rfl (by with_reducible rfl)); (first | (refine lD (wz rfl rfl rfl rfl) hL rfl rfl HasV.mem (by rfl) ?_) | (refine lB (wz rfl rfl rfl rfl) hL rfl rfl HasV.mem (by rfl) ?_) | (refine lE (wz rfl rfl rfl rfl) hL rfl rfl HasV.mem SegC.seg ?_))))
  refine wp_loop_rounds 2 ?_
  rw [rounds_succ]
  have hz := HZ.out _ _ hL mx
  unfold Lnk.cells at hz
  go_wp2_with (first
    | ((with_reducible refine qF rfl rfl ?_); refine lL (i := 0) rfl rfl rfl rfl (by decide) ?_)
    | ((with_reducible refine gate (N := 129) rfl ?_); refine lK rfl rfl rfl hz (by rfl) ?_)
    | ((with_reducible refine qD rfl rfl ?_); (refine lI rfl hL rfl cy ?_; clear hL; intro gq wq hL)) | ((with_reducible refine qE rfl rfl ?_); (refine lJ rfl hL rfl rfl cy ?_; clear hL; intro gq wq hL)) | ((with_reducible refine qB rfl rfl ?_); (first | (refine lC rfl hL rfl rfl HasV.mem (by rfl) ?_) | (refine lA rfl hL rfl rfl HasV.mem (by rfl) ?_) | (refine lF rfl hL rfl rfl HasV.mem SegC.seg ?_))) | ((with_reducible refine qC rfl rfl ?_); (first | (refine lH rfl hL rfl rfl rfl cy (by rfl) ?_) | (refine lG rfl hL rfl rfl rfl cy (by rfl) (by rfl) ?_)); clear hL; intro wq hL) | ((with_reducible refine qA rfl rfl ?_ ?_); (exact wz rfl rfl rfl (by with_reducible rfl)); (first | (refine lD (wz rfl rfl rfl rfl) hL rfl rfl HasV.mem (by rfl) ?_) | (refine lB (wz rfl rfl rfl rfl) hL rfl rfl HasV.mem (by rfl) ?_) | (refine lE (wz rfl rfl rfl rfl) hL rfl rfl HasV.mem SegC.seg ?_))))
  rw [rounds_succ]
  go_wp2_with (first | ((with_reducible refine qD rfl rfl ?_); (refine lI rfl hL rfl cy ?_; clear hL; intro gq wq hL)) | ((with_reducible refine qE rfl rfl ?_); (refine lJ rfl hL rfl rfl cy ?_; clear hL; intro gq wq hL)) | ((with_reducible refine qB rfl rfl ?_); (first | (refine lC rfl hL rfl rfl HasV.mem (by rfl) ?_) | (refine lA rfl hL rfl rfl HasV.mem (by rfl) ?_) | (refine lF rfl hL rfl rfl HasV.mem SegC.seg ?_))) | ((with_reducible refine qC rfl rfl ?_); (first | (refine lH rfl hL rfl rfl rfl cy (by rfl) ?_) | (refine lG rfl hL rfl rfl rfl cy (by rfl) (by rfl) ?_)); clear hL; intro wq hL) | ((with_reducible refine qA rfl rfl ?_ ?_); (exact wz rfl rfl rfl (by with_reducible rfl)); (first | (refine lD (wz rfl rfl rfl rfl) hL rfl rfl HasV.mem (by rfl) ?_) | (refine lB (wz rfl rfl rfl rfl) hL rfl rfl HasV.mem (by rfl) ?_) | (refine lE (wz rfl rfl rfl rfl) hL rfl rfl HasV.mem SegC.seg ?_))))
  go_end0
  exact ⟨rfl, hL.sub (by repeat (first | exact .refl _ | apply List.Sublist.cons_cons | apply List.Sublist.cons))⟩
end Go.Proofs.Ytebpacmhdkgfeaa

