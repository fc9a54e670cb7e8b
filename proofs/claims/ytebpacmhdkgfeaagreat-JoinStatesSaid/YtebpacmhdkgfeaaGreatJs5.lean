/- Texts laid together: R11k, Rin, R11l, R11n. -/
import Derived.Test.YtebpacmhdkgfeaaGreatJs4
set_option linter.unusedSimpArgs false
set_option linter.unusedVariables false
namespace Go.Proofs.YtebpacmhdkgfeaaGreat
open Go.RowKit
set_option maxHeartbeats 16000000
set_option maxRecDepth 20000
theorem imax_pos {a b : Int} (h : a < b) : imax a b = b := if_pos h
theorem imax_neg {a b : Int} (h : ¬ a < b) : imax a b = a := if_neg h
theorem ref09_join (a b : V8) (w : World) : Calls Tryz.prog 39 #[.agg #[.int .i64 a.a0, .int .i64 a.a1, .int .i64 a.a2, .int .i64 a.a3, .int .i64 a.a4, .int .i64 a.a5, .int .i64 a.a6, .int .i64 a.a7], .agg #[.int .i64 b.a0, .int .i64 b.a1, .int .i64 b.a2, .int .i64 b.a3, .int .i64 b.a4, .int .i64 b.a5, .int .i64 b.a6, .int .i64 b.a7]] w fun e w' => (∃ c, c = a.join b ∧ e = .returned (.agg #[.int .i64 c.a0, .int .i64 c.a1, .int .i64 c.a2, .int .i64 c.a3, .int .i64 c.a4, .int .i64 c.a5, .int .i64 c.a6, .int .i64 c.a7])) ∧ Below w.heap.size w w' := by
  have hL := Loc.nil w NoM
  unfold V8.join
  obtain ⟨a0, a1, a2, a3, a4, a5, a6, a7⟩ := a
  obtain ⟨b0, b1, b2, b3, b4, b5, b6, b7⟩ := b
  simp only
  go_enter Tryz.func39, Tryz.ntmps39
  go_wp2_with (first | ((with_reducible refine gate (N := 2) rfl ?_); (refine lJ rfl hL rfl rfl cy ?_; clear hL; intro g2 w2 hL)) | ((with_reducible refine gate (N := 3) rfl ?_); (refine lJ rfl hL rfl rfl cy ?_; clear hL; intro g3 w3 hL)) | ((with_reducible refine gate (N := 4) rfl ?_); (refine lI rfl hL rfl cy ?_; clear hL; intro g4 w4 hL)))
  go_loopw [6] (fun i wr => (i = .int .i64 0 ∧ Loc w NoM wr [var g4 [.int .i64 0, .int .i64 0, .int .i64 0, .int .i64 0, .int .i64 0, .int .i64 0, .int .i64 0, .int .i64 0] 23, var g3 [.int .i64 b0, .int .i64 b1, .int .i64 b2, .int .i64 b3, .int .i64 b4, .int .i64 b5, .int .i64 b6, .int .i64 b7] 23, var g2 [.int .i64 a0, .int .i64 a1, .int .i64 a2, .int .i64 a3, .int .i64 a4, .int .i64 a5, .int .i64 a6, .int .i64 a7] 23]) ∨ (i = .int .i64 1 ∧ Loc w NoM wr [var g4 [.int .i64 0, .int .i64 0, .int .i64 0, .int .i64 0, .int .i64 0, .int .i64 0, .int .i64 0, .int .i64 0] 23, var g3 [.int .i64 b0, .int .i64 b1, .int .i64 b2, .int .i64 b3, .int .i64 b4, .int .i64 b5, .int .i64 b6, .int .i64 b7] 23, var g2 [.int .i64 (imax a0 b0), .int .i64 a1, .int .i64 a2, .int .i64 a3, .int .i64 a4, .int .i64 a5, .int .i64 a6, .int .i64 a7] 23]) ∨ (i = .int .i64 2 ∧ Loc w NoM wr [var g4 [.int .i64 0, .int .i64 0, .int .i64 0, .int .i64 0, .int .i64 0, .int .i64 0, .int .i64 0, .int .i64 0] 23, var g3 [.int .i64 b0, .int .i64 b1, .int .i64 b2, .int .i64 b3, .int .i64 b4, .int .i64 b5, .int .i64 b6, .int .i64 b7] 23, var g2 [.int .i64 (imax a0 b0), .int .i64 (imax a1 b1), .int .i64 a2, .int .i64 a3, .int .i64 a4, .int .i64 a5, .int .i64 a6, .int .i64 a7] 23]) ∨ (i = .int .i64 3 ∧ Loc w NoM wr [var g4 [.int .i64 0, .int .i64 0, .int .i64 0, .int .i64 0, .int .i64 0, .int .i64 0, .int .i64 0, .int .i64 0] 23, var g3 [.int .i64 b0, .int .i64 b1, .int .i64 b2, .int .i64 b3, .int .i64 b4, .int .i64 b5, .int .i64 b6, .int .i64 b7] 23, var g2 [.int .i64 (imax a0 b0), .int .i64 (imax a1 b1), .int .i64 (imax a2 b2), .int .i64 a3, .int .i64 a4, .int .i64 a5, .int .i64 a6, .int .i64 a7] 23]) ∨ (i = .int .i64 4 ∧ Loc w NoM wr [var g4 [.int .i64 0, .int .i64 0, .int .i64 0, .int .i64 0, .int .i64 0, .int .i64 0, .int .i64 0, .int .i64 0] 23, var g3 [.int .i64 b0, .int .i64 b1, .int .i64 b2, .int .i64 b3, .int .i64 b4, .int .i64 b5, .int .i64 b6, .int .i64 b7] 23, var g2 [.int .i64 (imax a0 b0), .int .i64 (imax a1 b1), .int .i64 (imax a2 b2), .int .i64 (imax a3 b3), .int .i64 a4, .int .i64 a5, .int .i64 a6, .int .i64 a7] 23]) ∨ (i = .int .i64 5 ∧ Loc w NoM wr [var g4 [.int .i64 0, .int .i64 0, .int .i64 0, .int .i64 0, .int .i64 0, .int .i64 0, .int .i64 0, .int .i64 0] 23, var g3 [.int .i64 b0, .int .i64 b1, .int .i64 b2, .int .i64 b3, .int .i64 b4, .int .i64 b5, .int .i64 b6, .int .i64 b7] 23, var g2 [.int .i64 (imax a0 b0), .int .i64 (imax a1 b1), .int .i64 (imax a2 b2), .int .i64 (imax a3 b3), .int .i64 (imax a4 b4), .int .i64 a5, .int .i64 a6, .int .i64 a7] 23]) ∨ (i = .int .i64 6 ∧ Loc w NoM wr [var g4 [.int .i64 0, .int .i64 0, .int .i64 0, .int .i64 0, .int .i64 0, .int .i64 0, .int .i64 0, .int .i64 0] 23, var g3 [.int .i64 b0, .int .i64 b1, .int .i64 b2, .int .i64 b3, .int .i64 b4, .int .i64 b5, .int .i64 b6, .int .i64 b7] 23, var g2 [.int .i64 (imax a0 b0), .int .i64 (imax a1 b1), .int .i64 (imax a2 b2), .int .i64 (imax a3 b3), .int .i64 (imax a4 b4), .int .i64 (imax a5 b5), .int .i64 a6, .int .i64 a7] 23]) ∨ (i = .int .i64 7 ∧ Loc w NoM wr [var g4 [.int .i64 0, .int .i64 0, .int .i64 0, .int .i64 0, .int .i64 0, .int .i64 0, .int .i64 0, .int .i64 0] 23, var g3 [.int .i64 b0, .int .i64 b1, .int .i64 b2, .int .i64 b3, .int .i64 b4, .int .i64 b5, .int .i64 b6, .int .i64 b7] 23, var g2 [.int .i64 (imax a0 b0), .int .i64 (imax a1 b1), .int .i64 (imax a2 b2), .int .i64 (imax a3 b3), .int .i64 (imax a4 b4), .int .i64 (imax a5 b5), .int .i64 (imax a6 b6), .int .i64 a7] 23]) ∨ (i = .int .i64 8 ∧ Loc w NoM wr [var g4 [.int .i64 0, .int .i64 0, .int .i64 0, .int .i64 0, .int .i64 0, .int .i64 0, .int .i64 0, .int .i64 0] 23, var g3 [.int .i64 b0, .int .i64 b1, .int .i64 b2, .int .i64 b3, .int .i64 b4, .int .i64 b5, .int .i64 b6, .int .i64 b7] 23, var g2 [.int .i64 (imax a0 b0), .int .i64 (imax a1 b1), .int .i64 (imax a2 b2), .int .i64 (imax a3 b3), .int .i64 (imax a4 b4), .int .i64 (imax a5 b5), .int .i64 (imax a6 b6), .int .i64 (imax a7 b7)] 23])) (fun i _ => 8 - (intOf i).toNat)
  case atStart => exact .inl ⟨rfl, hL⟩
  case round =>
    clear hL
    rcases hrel with ⟨rfl, hL⟩ | ⟨rfl, hL⟩ | ⟨rfl, hL⟩ | ⟨rfl, hL⟩ | ⟨rfl, hL⟩ | ⟨rfl, hL⟩ | ⟨rfl, hL⟩ | ⟨rfl, hL⟩ | ⟨rfl, hL⟩
    · by_cases h0 : a0 < b0
      · have t0 : decide (a0 < b0) = true := decide_eq_true h0
        have HI := Lib.hid (imax_pos h0)
        clear h0
        go_wp2_with fail
        ((try simp only [Act.put, zs, zt, zu]); refine wp_region_ext (by kernel_rfl) (by kernel_rfl) ?_; (repeat (first | (go_big_quiet_want; (first | refine qH hL rfl rfl HasV.mem (by rfl) ?_ | refine qG hL rfl rfl HasV.mem (by rfl) ?_ | refine qI hL rfl rfl HasV.mem SegC.seg ?_); go_big_quiet_on; simp only [Act.put, zs, zt, zu]) | go_big_quiet_step (fail))); refine wpQuiet_nil ?_; rintro _ ⟨⟨w2, hb2⟩, rfl⟩; have hL := (hL).call hb2; clear hb2)
        go_wp2_with (first | ((with_reducible refine qB rfl rfl ?_); (refine lC rfl hL rfl rfl HasV.mem (by rfl) ?_)) | ((with_reducible refine qC rfl rfl ?_); (refine lH rfl hL rfl rfl rfl cy (by rfl) ?_); clear hL; intro wq hL))
        go_roundw
        case rel => exact .inr (.inl ⟨by go_num, by rw [HI.out]; exact hL⟩)
        case measure => simp [intOf]
      · have t0 : decide (a0 < b0) = false := decide_eq_false h0
        have HI := Lib.hid (imax_neg h0)
        clear h0
        go_wp2_with fail
        ((try simp only [Act.put, zs, zt, zu]); refine wp_region_ext (by kernel_rfl) (by kernel_rfl) ?_; (repeat (first | (go_big_quiet_want; (first | refine qH hL rfl rfl HasV.mem (by rfl) ?_ | refine qG hL rfl rfl HasV.mem (by rfl) ?_ | refine qI hL rfl rfl HasV.mem SegC.seg ?_); go_big_quiet_on; simp only [Act.put, zs, zt, zu]) | go_big_quiet_step (fail))); refine wpQuiet_nil ?_; rintro _ ⟨⟨w2, hb2⟩, rfl⟩; have hL := (hL).call hb2; clear hb2)
        go_wp2_with fail
        go_roundw
        case rel => exact .inr (.inl ⟨by go_num, by rw [HI.out]; exact hL⟩)
        case measure => simp [intOf]
    · by_cases h0 : a1 < b1
      · have t0 : decide (a1 < b1) = true := decide_eq_true h0
        have HI := Lib.hid (imax_pos h0)
        clear h0
        go_wp2_with fail
        ((try simp only [Act.put, zs, zt, zu]); refine wp_region_ext (by kernel_rfl) (by kernel_rfl) ?_; (repeat (first | (go_big_quiet_want; (first | refine qH hL rfl rfl HasV.mem (by rfl) ?_ | refine qG hL rfl rfl HasV.mem (by rfl) ?_ | refine qI hL rfl rfl HasV.mem SegC.seg ?_); go_big_quiet_on; simp only [Act.put, zs, zt, zu]) | go_big_quiet_step (fail))); refine wpQuiet_nil ?_; rintro _ ⟨⟨w2, hb2⟩, rfl⟩; have hL := (hL).call hb2; clear hb2)
        go_wp2_with (first | ((with_reducible refine qB rfl rfl ?_); (refine lC rfl hL rfl rfl HasV.mem (by rfl) ?_)) | ((with_reducible refine qC rfl rfl ?_); (refine lH rfl hL rfl rfl rfl cy (by rfl) ?_); clear hL; intro wq hL))
        go_roundw
        case rel => exact .inr (.inr (.inl ⟨by go_num, by rw [HI.out]; exact hL⟩))
        case measure => simp [intOf]
      · have t0 : decide (a1 < b1) = false := decide_eq_false h0
        have HI := Lib.hid (imax_neg h0)
        clear h0
        go_wp2_with fail
        ((try simp only [Act.put, zs, zt, zu]); refine wp_region_ext (by kernel_rfl) (by kernel_rfl) ?_; (repeat (first | (go_big_quiet_want; (first | refine qH hL rfl rfl HasV.mem (by rfl) ?_ | refine qG hL rfl rfl HasV.mem (by rfl) ?_ | refine qI hL rfl rfl HasV.mem SegC.seg ?_); go_big_quiet_on; simp only [Act.put, zs, zt, zu]) | go_big_quiet_step (fail))); refine wpQuiet_nil ?_; rintro _ ⟨⟨w2, hb2⟩, rfl⟩; have hL := (hL).call hb2; clear hb2)
        go_wp2_with fail
        go_roundw
        case rel => exact .inr (.inr (.inl ⟨by go_num, by rw [HI.out]; exact hL⟩))
        case measure => simp [intOf]
    · by_cases h0 : a2 < b2
      · have t0 : decide (a2 < b2) = true := decide_eq_true h0
        have HI := Lib.hid (imax_pos h0)
        clear h0
        go_wp2_with fail
        ((try simp only [Act.put, zs, zt, zu]); refine wp_region_ext (by kernel_rfl) (by kernel_rfl) ?_; (repeat (first | (go_big_quiet_want; (first | refine qH hL rfl rfl HasV.mem (by rfl) ?_ | refine qG hL rfl rfl HasV.mem (by rfl) ?_ | refine qI hL rfl rfl HasV.mem SegC.seg ?_); go_big_quiet_on; simp only [Act.put, zs, zt, zu]) | go_big_quiet_step (fail))); refine wpQuiet_nil ?_; rintro _ ⟨⟨w2, hb2⟩, rfl⟩; have hL := (hL).call hb2; clear hb2)
        go_wp2_with (first | ((with_reducible refine qB rfl rfl ?_); (refine lC rfl hL rfl rfl HasV.mem (by rfl) ?_)) | ((with_reducible refine qC rfl rfl ?_); (refine lH rfl hL rfl rfl rfl cy (by rfl) ?_); clear hL; intro wq hL))
        go_roundw
        case rel => exact .inr (.inr (.inr (.inl ⟨by go_num, by rw [HI.out]; exact hL⟩)))
        case measure => simp [intOf]
      · have t0 : decide (a2 < b2) = false := decide_eq_false h0
        have HI := Lib.hid (imax_neg h0)
        clear h0
        go_wp2_with fail
        ((try simp only [Act.put, zs, zt, zu]); refine wp_region_ext (by kernel_rfl) (by kernel_rfl) ?_; (repeat (first | (go_big_quiet_want; (first | refine qH hL rfl rfl HasV.mem (by rfl) ?_ | refine qG hL rfl rfl HasV.mem (by rfl) ?_ | refine qI hL rfl rfl HasV.mem SegC.seg ?_); go_big_quiet_on; simp only [Act.put, zs, zt, zu]) | go_big_quiet_step (fail))); refine wpQuiet_nil ?_; rintro _ ⟨⟨w2, hb2⟩, rfl⟩; have hL := (hL).call hb2; clear hb2)
        go_wp2_with fail
        go_roundw
        case rel => exact .inr (.inr (.inr (.inl ⟨by go_num, by rw [HI.out]; exact hL⟩)))
        case measure => simp [intOf]
    · by_cases h0 : a3 < b3
      · have t0 : decide (a3 < b3) = true := decide_eq_true h0
        have HI := Lib.hid (imax_pos h0)
        clear h0
        go_wp2_with fail
        ((try simp only [Act.put, zs, zt, zu]); refine wp_region_ext (by kernel_rfl) (by kernel_rfl) ?_; (repeat (first | (go_big_quiet_want; (first | refine qH hL rfl rfl HasV.mem (by rfl) ?_ | refine qG hL rfl rfl HasV.mem (by rfl) ?_ | refine qI hL rfl rfl HasV.mem SegC.seg ?_); go_big_quiet_on; simp only [Act.put, zs, zt, zu]) | go_big_quiet_step (fail))); refine wpQuiet_nil ?_; rintro _ ⟨⟨w2, hb2⟩, rfl⟩; have hL := (hL).call hb2; clear hb2)
        go_wp2_with (first | ((with_reducible refine qB rfl rfl ?_); (refine lC rfl hL rfl rfl HasV.mem (by rfl) ?_)) | ((with_reducible refine qC rfl rfl ?_); (refine lH rfl hL rfl rfl rfl cy (by rfl) ?_); clear hL; intro wq hL))
        go_roundw
        case rel => exact .inr (.inr (.inr (.inr (.inl ⟨by go_num, by rw [HI.out]; exact hL⟩))))
        case measure => simp [intOf]
      · have t0 : decide (a3 < b3) = false := decide_eq_false h0
        have HI := Lib.hid (imax_neg h0)
        clear h0
        go_wp2_with fail
        ((try simp only [Act.put, zs, zt, zu]); refine wp_region_ext (by kernel_rfl) (by kernel_rfl) ?_; (repeat (first | (go_big_quiet_want; (first | refine qH hL rfl rfl HasV.mem (by rfl) ?_ | refine qG hL rfl rfl HasV.mem (by rfl) ?_ | refine qI hL rfl rfl HasV.mem SegC.seg ?_); go_big_quiet_on; simp only [Act.put, zs, zt, zu]) | go_big_quiet_step (fail))); refine wpQuiet_nil ?_; rintro _ ⟨⟨w2, hb2⟩, rfl⟩; have hL := (hL).call hb2; clear hb2)
        go_wp2_with fail
        go_roundw
        case rel => exact .inr (.inr (.inr (.inr (.inl ⟨by go_num, by rw [HI.out]; exact hL⟩))))
        case measure => simp [intOf]
    · by_cases h0 : a4 < b4
      · have t0 : decide (a4 < b4) = true := decide_eq_true h0
        have HI := Lib.hid (imax_pos h0)
        clear h0
        go_wp2_with fail
        ((try simp only [Act.put, zs, zt, zu]); refine wp_region_ext (by kernel_rfl) (by kernel_rfl) ?_; (repeat (first | (go_big_quiet_want; (first | refine qH hL rfl rfl HasV.mem (by rfl) ?_ | refine qG hL rfl rfl HasV.mem (by rfl) ?_ | refine qI hL rfl rfl HasV.mem SegC.seg ?_); go_big_quiet_on; simp only [Act.put, zs, zt, zu]) | go_big_quiet_step (fail))); refine wpQuiet_nil ?_; rintro _ ⟨⟨w2, hb2⟩, rfl⟩; have hL := (hL).call hb2; clear hb2)
        go_wp2_with (first | ((with_reducible refine qB rfl rfl ?_); (refine lC rfl hL rfl rfl HasV.mem (by rfl) ?_)) | ((with_reducible refine qC rfl rfl ?_); (refine lH rfl hL rfl rfl rfl cy (by rfl) ?_); clear hL; intro wq hL))
        go_roundw
        case rel => exact .inr (.inr (.inr (.inr (.inr (.inl ⟨by go_num, by rw [HI.out]; exact hL⟩)))))
        case measure => simp [intOf]
      · have t0 : decide (a4 < b4) = false := decide_eq_false h0
        have HI := Lib.hid (imax_neg h0)
        clear h0
        go_wp2_with fail
        ((try simp only [Act.put, zs, zt, zu]); refine wp_region_ext (by kernel_rfl) (by kernel_rfl) ?_; (repeat (first | (go_big_quiet_want; (first | refine qH hL rfl rfl HasV.mem (by rfl) ?_ | refine qG hL rfl rfl HasV.mem (by rfl) ?_ | refine qI hL rfl rfl HasV.mem SegC.seg ?_); go_big_quiet_on; simp only [Act.put, zs, zt, zu]) | go_big_quiet_step (fail))); refine wpQuiet_nil ?_; rintro _ ⟨⟨w2, hb2⟩, rfl⟩; have hL := (hL).call hb2; clear hb2)
        go_wp2_with fail
        go_roundw
        case rel => exact .inr (.inr (.inr (.inr (.inr (.inl ⟨by go_num, by rw [HI.out]; exact hL⟩)))))
        case measure => simp [intOf]
    · by_cases h0 : a5 < b5
      · have t0 : decide (a5 < b5) = true := decide_eq_true h0
        have HI := Lib.hid (imax_pos h0)
        clear h0
        go_wp2_with fail
        ((try simp only [Act.put, zs, zt, zu]); refine wp_region_ext (by kernel_rfl) (by kernel_rfl) ?_; (repeat (first | (go_big_quiet_want; (first | refine qH hL rfl rfl HasV.mem (by rfl) ?_ | refine qG hL rfl rfl HasV.mem (by rfl) ?_ | refine qI hL rfl rfl HasV.mem SegC.seg ?_); go_big_quiet_on; simp only [Act.put, zs, zt, zu]) | go_big_quiet_step (fail))); refine wpQuiet_nil ?_; rintro _ ⟨⟨w2, hb2⟩, rfl⟩; have hL := (hL).call hb2; clear hb2)
        go_wp2_with (first | ((with_reducible refine qB rfl rfl ?_); (refine lC rfl hL rfl rfl HasV.mem (by rfl) ?_)) | ((with_reducible refine qC rfl rfl ?_); (refine lH rfl hL rfl rfl rfl cy (by rfl) ?_); clear hL; intro wq hL))
        go_roundw
        case rel => exact .inr (.inr (.inr (.inr (.inr (.inr (.inl ⟨by go_num, by rw [HI.out]; exact hL⟩))))))
        case measure => simp [intOf]
      · have t0 : decide (a5 < b5) = false := decide_eq_false h0
        have HI := Lib.hid (imax_neg h0)
        clear h0
        go_wp2_with fail
        ((try simp only [Act.put, zs, zt, zu]); refine wp_region_ext (by kernel_rfl) (by kernel_rfl) ?_; (repeat (first | (go_big_quiet_want; (first | refine qH hL rfl rfl HasV.mem (by rfl) ?_ | refine qG hL rfl rfl HasV.mem (by rfl) ?_ | refine qI hL rfl rfl HasV.mem SegC.seg ?_); go_big_quiet_on; simp only [Act.put, zs, zt, zu]) | go_big_quiet_step (fail))); refine wpQuiet_nil ?_; rintro _ ⟨⟨w2, hb2⟩, rfl⟩; have hL := (hL).call hb2; clear hb2)
        go_wp2_with fail
        go_roundw
        case rel => exact .inr (.inr (.inr (.inr (.inr (.inr (.inl ⟨by go_num, by rw [HI.out]; exact hL⟩))))))
        case measure => simp [intOf]
    · by_cases h0 : a6 < b6
      · have t0 : decide (a6 < b6) = true := decide_eq_true h0
        have HI := Lib.hid (imax_pos h0)
        clear h0
        go_wp2_with fail
        ((try simp only [Act.put, zs, zt, zu]); refine wp_region_ext (by kernel_rfl) (by kernel_rfl) ?_; (repeat (first | (go_big_quiet_want; (first | refine qH hL rfl rfl HasV.mem (by rfl) ?_ | refine qG hL rfl rfl HasV.mem (by rfl) ?_ | refine qI hL rfl rfl HasV.mem SegC.seg ?_); go_big_quiet_on; simp only [Act.put, zs, zt, zu]) | go_big_quiet_step (fail))); refine wpQuiet_nil ?_; rintro _ ⟨⟨w2, hb2⟩, rfl⟩; have hL := (hL).call hb2; clear hb2)
        go_wp2_with (first | ((with_reducible refine qB rfl rfl ?_); (refine lC rfl hL rfl rfl HasV.mem (by rfl) ?_)) | ((with_reducible refine qC rfl rfl ?_); (refine lH rfl hL rfl rfl rfl cy (by rfl) ?_); clear hL; intro wq hL))
        go_roundw
        case rel => exact .inr (.inr (.inr (.inr (.inr (.inr (.inr (.inl ⟨by go_num, by rw [HI.out]; exact hL⟩)))))))
        case measure => simp [intOf]
      · have t0 : decide (a6 < b6) = false := decide_eq_false h0
        have HI := Lib.hid (imax_neg h0)
        clear h0
        go_wp2_with fail
        ((try simp only [Act.put, zs, zt, zu]); refine wp_region_ext (by kernel_rfl) (by kernel_rfl) ?_; (repeat (first | (go_big_quiet_want; (first | refine qH hL rfl rfl HasV.mem (by rfl) ?_ | refine qG hL rfl rfl HasV.mem (by rfl) ?_ | refine qI hL rfl rfl HasV.mem SegC.seg ?_); go_big_quiet_on; simp only [Act.put, zs, zt, zu]) | go_big_quiet_step (fail))); refine wpQuiet_nil ?_; rintro _ ⟨⟨w2, hb2⟩, rfl⟩; have hL := (hL).call hb2; clear hb2)
        go_wp2_with fail
        go_roundw
        case rel => exact .inr (.inr (.inr (.inr (.inr (.inr (.inr (.inl ⟨by go_num, by rw [HI.out]; exact hL⟩)))))))
        case measure => simp [intOf]
    · by_cases h0 : a7 < b7
      · have t0 : decide (a7 < b7) = true := decide_eq_true h0
        have HI := Lib.hid (imax_pos h0)
        clear h0
        go_wp2_with fail
        ((try simp only [Act.put, zs, zt, zu]); refine wp_region_ext (by kernel_rfl) (by kernel_rfl) ?_; (repeat (first | (go_big_quiet_want; (first | refine qH hL rfl rfl HasV.mem (by rfl) ?_ | refine qG hL rfl rfl HasV.mem (by rfl) ?_ | refine qI hL rfl rfl HasV.mem SegC.seg ?_); go_big_quiet_on; simp only [Act.put, zs, zt, zu]) | go_big_quiet_step (fail))); refine wpQuiet_nil ?_; rintro _ ⟨⟨w2, hb2⟩, rfl⟩; have hL := (hL).call hb2; clear hb2)
        go_wp2_with (first | ((with_reducible refine qB rfl rfl ?_); (refine lC rfl hL rfl rfl HasV.mem (by rfl) ?_)) | ((with_reducible refine qC rfl rfl ?_); (refine lH rfl hL rfl rfl rfl cy (by rfl) ?_); clear hL; intro wq hL))
        go_roundw
        case rel => exact .inr (.inr (.inr (.inr (.inr (.inr (.inr (.inr (⟨by go_num, by rw [HI.out]; exact hL⟩))))))))
        case measure => simp [intOf]
      · have t0 : decide (a7 < b7) = false := decide_eq_false h0
        have HI := Lib.hid (imax_neg h0)
        clear h0
        go_wp2_with fail
        ((try simp only [Act.put, zs, zt, zu]); refine wp_region_ext (by kernel_rfl) (by kernel_rfl) ?_; (repeat (first | (go_big_quiet_want; (first | refine qH hL rfl rfl HasV.mem (by rfl) ?_ | refine qG hL rfl rfl HasV.mem (by rfl) ?_ | refine qI hL rfl rfl HasV.mem SegC.seg ?_); go_big_quiet_on; simp only [Act.put, zs, zt, zu]) | go_big_quiet_step (fail))); refine wpQuiet_nil ?_; rintro _ ⟨⟨w2, hb2⟩, rfl⟩; have hL := (hL).call hb2; clear hb2)
        go_wp2_with fail
        go_roundw
        case rel => exact .inr (.inr (.inr (.inr (.inr (.inr (.inr (.inr (⟨by go_num, by rw [HI.out]; exact hL⟩))))))))
        case measure => simp [intOf]
    · go_wp2_with (first | ((with_reducible refine qB rfl rfl ?_); (refine lA rfl hL rfl rfl HasV.mem (by rfl) ?_)) | ((with_reducible refine qC rfl rfl ?_); (refine lH rfl hL rfl rfl rfl cy (by rfl) ?_); clear hL; intro wq hL))
      exact bodyPost_ret (res_cell rfl hL _ rfl HasV.mem (by rfl)) rfl ⟨⟨_, rfl, rfl⟩, hL.below⟩
theorem ref11_link1 (a b : Lnk) (w : World) (ha : a.name.size ≤ 9223372036854775807) (hb : b.name.size ≤ 9223372036854775807) : Calls Tryz.prog 104 #[.agg #[.int .i64 a.id.boot, .int .i64 a.id.n, .int .i64 a.node.boot, .int .i64 a.node.n, .int .i64 a.at_.boot, .int .i64 a.at_.n, .int .i64 a.parent.boot, .int .i64 a.parent.n, .string a.name, .int .i64 a.alive.a0, .int .i64 a.alive.a1, .int .i64 a.alive.a2, .int .i64 a.alive.a3, .int .i64 a.alive.a4, .int .i64 a.alive.a5, .int .i64 a.alive.a6, .int .i64 a.alive.a7, .int .i64 a.dead.a0, .int .i64 a.dead.a1, .int .i64 a.dead.a2, .int .i64 a.dead.a3, .int .i64 a.dead.a4, .int .i64 a.dead.a5, .int .i64 a.dead.a6, .int .i64 a.dead.a7], .agg #[.int .i64 b.id.boot, .int .i64 b.id.n, .int .i64 b.node.boot, .int .i64 b.node.n, .int .i64 b.at_.boot, .int .i64 b.at_.n, .int .i64 b.parent.boot, .int .i64 b.parent.n, .string b.name, .int .i64 b.alive.a0, .int .i64 b.alive.a1, .int .i64 b.alive.a2, .int .i64 b.alive.a3, .int .i64 b.alive.a4, .int .i64 b.alive.a5, .int .i64 b.alive.a6, .int .i64 b.alive.a7, .int .i64 b.dead.a0, .int .i64 b.dead.a1, .int .i64 b.dead.a2, .int .i64 b.dead.a3, .int .i64 b.dead.a4, .int .i64 b.dead.a5, .int .i64 b.dead.a6, .int .i64 b.dead.a7]] w fun e w' => (∃ c, c = a.one b ∧ e = .returned (.agg #[.int .i64 c.id.boot, .int .i64 c.id.n, .int .i64 c.node.boot, .int .i64 c.node.n, .int .i64 c.at_.boot, .int .i64 c.at_.n, .int .i64 c.parent.boot, .int .i64 c.parent.n, .string c.name, .int .i64 c.alive.a0, .int .i64 c.alive.a1, .int .i64 c.alive.a2, .int .i64 c.alive.a3, .int .i64 c.alive.a4, .int .i64 c.alive.a5, .int .i64 c.alive.a6, .int .i64 c.alive.a7, .int .i64 c.dead.a0, .int .i64 c.dead.a1, .int .i64 c.dead.a2, .int .i64 c.dead.a3, .int .i64 c.dead.a4, .int .i64 c.dead.a5, .int .i64 c.dead.a6, .int .i64 c.dead.a7])) ∧ Below w.heap.size w w' := by
  have hL := Loc.nil w NoM
  have HM := Lib.hid (fun wx => ref09_later a.node b.node wx)
  have HA := Lib.hid (fun wx => ref09_join a.alive b.alive wx)
  have HD := Lib.hid (fun wx => ref09_join a.dead b.dead wx)
  have HR : Hid (∀ p nd al de, p = a.top b → nd = a.node.top b.node → al = a.alive.join b.alive → de = a.dead.join b.dead → (⟨a.id, nd, p.at_, p.parent, p.name, al, de⟩ : Lnk) = a.one b) := Lib.hid (by rintro p nd al de rfl rfl rfl rfl; rfl)
  by_cases h0 : a.at_.lss b.at_
  · have ht : a.top b = b := if_pos (by rw [Lnk.cmps_lt]; simp [h0, slt_irr, Mk.lss_irr])
    have HT := Lib.hid ht.symm
    have HQ0 := Lib.hid (fun wx => ref09_less (a.at_) (b.at_) wx); rw [Mk.lssB_true h0] at HQ0
    clear ht h0
    go_enter Tryz.func104, Tryz.ntmps104
    go_wp2_with (first
      | ((with_reducible refine gate (N := 2) rfl ?_); (refine lJ rfl hL rfl rfl cy ?_; clear hL; intro g2 w2 hL)) | ((with_reducible refine gate (N := 3) rfl ?_); (refine lJ rfl hL rfl rfl cy ?_; clear hL; intro g3 w3 hL)) | ((with_reducible refine gate (N := 4) rfl ?_); (refine lI rfl hL rfl cy ?_; clear hL; intro g4 w4 hL)) | ((with_reducible refine gate (N := 5) rfl ?_); (refine lI rfl hL rfl cy ?_; clear hL; intro g5 w5 hL))
      | (go_at_call 103; (with_reducible refine (HQ0.out _).mono ?_); rintro e w5 ⟨rfl, hb5⟩; have hL := hL.call hb5; clear hb5)
      | (go_at_call 175; (with_reducible refine (HM.out _).mono ?_); rintro e w5 ⟨⟨nd, e1, rfl⟩, hb5⟩; have HE1 := Lib.hid e1; clear e1; have hL := hL.call hb5; clear hb5)
      | (go_at_call 39; (with_reducible refine (HA.out _).mono ?_); rintro e w5 ⟨⟨al, e2, rfl⟩, hb5⟩; have HE2 := Lib.hid e2; clear e2; have hL := hL.call hb5; clear hb5; clear HA)
      | (go_at_call 39; (with_reducible refine (HD.out _).mono ?_); rintro e w5 ⟨⟨de, e3, rfl⟩, hb5⟩; have HE3 := Lib.hid e3; clear e3; have hL := hL.call hb5; clear hb5)
      | ((with_reducible refine qB rfl rfl ?_); (first | (refine lC rfl hL rfl rfl HasV.mem (by rfl) ?_) | (refine lA rfl hL rfl rfl HasV.mem (by rfl) ?_) | (refine lF rfl hL rfl rfl HasV.mem SegC.seg ?_))) | ((with_reducible refine qC rfl rfl ?_); (refine lH rfl hL rfl rfl rfl cy (by rfl) ?_); clear hL; intro wq hL))
    exact bodyPost_ret (res_cell rfl hL _ rfl HasV.mem (by rfl)) rfl ⟨⟨⟨a.id, nd, b.at_, b.parent, b.name, al, de⟩, HR.out _ _ _ _ HT.out HE1.out HE2.out HE3.out, rfl⟩, hL.below⟩
  · by_cases h1 : a.at_ = b.at_
    · by_cases h2 : a.parent.lss b.parent
      · have ht : a.top b = b := if_pos (by rw [Lnk.cmps_lt]; simp [h0, h1, h2, slt_irr, Mk.lss_irr])
        have HT := Lib.hid ht.symm
        have HQ0 := Lib.hid (fun wx => ref09_less (a.at_) (b.at_) wx); rw [Mk.lssB_not h0] at HQ0
        have q1 := stampE (a.at_) (b.at_) (decide_eq_true h1)
        have HQ2 := Lib.hid (fun wx => ref09_less (a.parent) (b.parent) wx); rw [Mk.lssB_true h2] at HQ2
        clear ht h0 h1 h2
        go_enter Tryz.func104, Tryz.ntmps104
        go_wp2_with (first
          | ((with_reducible refine gate (N := 2) rfl ?_); (refine lJ rfl hL rfl rfl cy ?_; clear hL; intro g2 w2 hL)) | ((with_reducible refine gate (N := 3) rfl ?_); (refine lJ rfl hL rfl rfl cy ?_; clear hL; intro g3 w3 hL)) | ((with_reducible refine gate (N := 4) rfl ?_); (refine lI rfl hL rfl cy ?_; clear hL; intro g4 w4 hL)) | ((with_reducible refine gate (N := 5) rfl ?_); (refine lI rfl hL rfl cy ?_; clear hL; intro g5 w5 hL))
          | (go_at_call 103; (with_reducible refine (HQ0.out _).mono ?_); rintro e w5 ⟨rfl, hb5⟩; have hL := hL.call hb5; clear hb5)
          | (go_at_call 103; (with_reducible refine (HQ2.out _).mono ?_); rintro e w5 ⟨rfl, hb5⟩; have hL := hL.call hb5; clear hb5)
          | (go_at_call 175; (with_reducible refine (HM.out _).mono ?_); rintro e w5 ⟨⟨nd, e1, rfl⟩, hb5⟩; have HE1 := Lib.hid e1; clear e1; have hL := hL.call hb5; clear hb5)
          | (go_at_call 39; (with_reducible refine (HA.out _).mono ?_); rintro e w5 ⟨⟨al, e2, rfl⟩, hb5⟩; have HE2 := Lib.hid e2; clear e2; have hL := hL.call hb5; clear hb5; clear HA)
          | (go_at_call 39; (with_reducible refine (HD.out _).mono ?_); rintro e w5 ⟨⟨de, e3, rfl⟩, hb5⟩; have HE3 := Lib.hid e3; clear e3; have hL := hL.call hb5; clear hb5)
          | ((with_reducible refine qB rfl rfl ?_); (first | (refine lC rfl hL rfl rfl HasV.mem (by rfl) ?_) | (refine lA rfl hL rfl rfl HasV.mem (by rfl) ?_) | (refine lF rfl hL rfl rfl HasV.mem SegC.seg ?_))) | ((with_reducible refine qC rfl rfl ?_); (refine lH rfl hL rfl rfl rfl cy (by rfl) ?_); clear hL; intro wq hL) | ((with_reducible refine qA rfl rfl ?_ ?_); (exact wz rfl rfl rfl (by with_reducible rfl)); (refine lE (wz rfl rfl rfl rfl) hL rfl rfl HasV.mem SegC.seg ?_)))
        exact bodyPost_ret (res_cell rfl hL _ rfl HasV.mem (by rfl)) rfl ⟨⟨⟨a.id, nd, b.at_, b.parent, b.name, al, de⟩, HR.out _ _ _ _ HT.out HE1.out HE2.out HE3.out, rfl⟩, hL.below⟩
      · by_cases h3 : a.parent = b.parent
        · by_cases h4 : slt a.name b.name = true
          · have ht : a.top b = b := if_pos (by rw [Lnk.cmps_lt]; simp [h0, h1, h2, h3, h4, slt_irr, Mk.lss_irr])
            have HT := Lib.hid ht.symm
            have HQ0 := Lib.hid (fun wx => ref09_less (a.at_) (b.at_) wx); rw [Mk.lssB_not h0] at HQ0
            have q1 := stampE (a.at_) (b.at_) (decide_eq_true h1)
            have HQ2 := Lib.hid (fun wx => ref09_less (a.parent) (b.parent) wx); rw [Mk.lssB_not h2] at HQ2
            have q3 := stampE (a.parent) (b.parent) (decide_eq_true h3)
            have HS := Lib.hid (fun wx => ref01_less (a.name) (b.name) wx ha hb); rw [show slt (a.name) (b.name) = true from h4] at HS
            clear ht h0 h1 h2 h3 h4
            go_enter Tryz.func104, Tryz.ntmps104
            go_wp2_with (first
              | ((with_reducible refine gate (N := 2) rfl ?_); (refine lJ rfl hL rfl rfl cy ?_; clear hL; intro g2 w2 hL)) | ((with_reducible refine gate (N := 3) rfl ?_); (refine lJ rfl hL rfl rfl cy ?_; clear hL; intro g3 w3 hL)) | ((with_reducible refine gate (N := 4) rfl ?_); (refine lI rfl hL rfl cy ?_; clear hL; intro g4 w4 hL)) | ((with_reducible refine gate (N := 5) rfl ?_); (refine lI rfl hL rfl cy ?_; clear hL; intro g5 w5 hL))
              | (go_at_call 103; (with_reducible refine (HQ0.out _).mono ?_); rintro e w5 ⟨rfl, hb5⟩; have hL := hL.call hb5; clear hb5)
              | (go_at_call 103; (with_reducible refine (HQ2.out _).mono ?_); rintro e w5 ⟨rfl, hb5⟩; have hL := hL.call hb5; clear hb5)
              | (go_at_call 170; (with_reducible refine (HS.out _).mono ?_); rintro e w5 ⟨rfl, hb5⟩; have hL := hL.call hb5; clear hb5)
              | (go_at_call 175; (with_reducible refine (HM.out _).mono ?_); rintro e w5 ⟨⟨nd, e1, rfl⟩, hb5⟩; have HE1 := Lib.hid e1; clear e1; have hL := hL.call hb5; clear hb5)
              | (go_at_call 39; (with_reducible refine (HA.out _).mono ?_); rintro e w5 ⟨⟨al, e2, rfl⟩, hb5⟩; have HE2 := Lib.hid e2; clear e2; have hL := hL.call hb5; clear hb5; clear HA)
              | (go_at_call 39; (with_reducible refine (HD.out _).mono ?_); rintro e w5 ⟨⟨de, e3, rfl⟩, hb5⟩; have HE3 := Lib.hid e3; clear e3; have hL := hL.call hb5; clear hb5)
              | ((with_reducible refine qB rfl rfl ?_); (first | (refine lC rfl hL rfl rfl HasV.mem (by rfl) ?_) | (refine lA rfl hL rfl rfl HasV.mem (by rfl) ?_) | (refine lF rfl hL rfl rfl HasV.mem SegC.seg ?_))) | ((with_reducible refine qC rfl rfl ?_); (refine lH rfl hL rfl rfl rfl cy (by rfl) ?_); clear hL; intro wq hL) | ((with_reducible refine qA rfl rfl ?_ ?_); (exact wz rfl rfl rfl (by with_reducible rfl)); (first | (refine lD (wz rfl rfl rfl rfl) hL rfl rfl HasV.mem (by rfl) ?_) | (refine lE (wz rfl rfl rfl rfl) hL rfl rfl HasV.mem SegC.seg ?_))))
            exact bodyPost_ret (res_cell rfl hL _ rfl HasV.mem (by rfl)) rfl ⟨⟨⟨a.id, nd, b.at_, b.parent, b.name, al, de⟩, HR.out _ _ _ _ HT.out HE1.out HE2.out HE3.out, rfl⟩, hL.below⟩
          · have ht : a.top b = a := if_neg (by rw [Lnk.cmps_lt]; simp [h0, h1, h2, h3, h4, slt_irr, Mk.lss_irr])
            have HT := Lib.hid ht.symm
            have HQ0 := Lib.hid (fun wx => ref09_less (a.at_) (b.at_) wx); rw [Mk.lssB_not h0] at HQ0
            have q1 := stampE (a.at_) (b.at_) (decide_eq_true h1)
            have HQ2 := Lib.hid (fun wx => ref09_less (a.parent) (b.parent) wx); rw [Mk.lssB_not h2] at HQ2
            have q3 := stampE (a.parent) (b.parent) (decide_eq_true h3)
            have HS := Lib.hid (fun wx => ref01_less (a.name) (b.name) wx ha hb); rw [show slt (a.name) (b.name) = false from Bool.eq_false_iff.2 h4] at HS
            clear ht h0 h1 h2 h3 h4
            go_enter Tryz.func104, Tryz.ntmps104
            go_wp2_with (first
              | ((with_reducible refine gate (N := 2) rfl ?_); (refine lJ rfl hL rfl rfl cy ?_; clear hL; intro g2 w2 hL)) | ((with_reducible refine gate (N := 3) rfl ?_); (refine lJ rfl hL rfl rfl cy ?_; clear hL; intro g3 w3 hL)) | ((with_reducible refine gate (N := 4) rfl ?_); (refine lI rfl hL rfl cy ?_; clear hL; intro g4 w4 hL)) | ((with_reducible refine gate (N := 5) rfl ?_); (refine lI rfl hL rfl cy ?_; clear hL; intro g5 w5 hL))
              | (go_at_call 103; (with_reducible refine (HQ0.out _).mono ?_); rintro e w5 ⟨rfl, hb5⟩; have hL := hL.call hb5; clear hb5)
              | (go_at_call 103; (with_reducible refine (HQ2.out _).mono ?_); rintro e w5 ⟨rfl, hb5⟩; have hL := hL.call hb5; clear hb5)
              | (go_at_call 170; (with_reducible refine (HS.out _).mono ?_); rintro e w5 ⟨rfl, hb5⟩; have hL := hL.call hb5; clear hb5)
              | (go_at_call 175; (with_reducible refine (HM.out _).mono ?_); rintro e w5 ⟨⟨nd, e1, rfl⟩, hb5⟩; have HE1 := Lib.hid e1; clear e1; have hL := hL.call hb5; clear hb5)
              | (go_at_call 39; (with_reducible refine (HA.out _).mono ?_); rintro e w5 ⟨⟨al, e2, rfl⟩, hb5⟩; have HE2 := Lib.hid e2; clear e2; have hL := hL.call hb5; clear hb5; clear HA)
              | (go_at_call 39; (with_reducible refine (HD.out _).mono ?_); rintro e w5 ⟨⟨de, e3, rfl⟩, hb5⟩; have HE3 := Lib.hid e3; clear e3; have hL := hL.call hb5; clear hb5)
              | ((with_reducible refine qB rfl rfl ?_); (first | (refine lA rfl hL rfl rfl HasV.mem (by rfl) ?_) | (refine lF rfl hL rfl rfl HasV.mem SegC.seg ?_))) | ((with_reducible refine qC rfl rfl ?_); (refine lH rfl hL rfl rfl rfl cy (by rfl) ?_); clear hL; intro wq hL) | ((with_reducible refine qA rfl rfl ?_ ?_); (exact wz rfl rfl rfl (by with_reducible rfl)); (first | (refine lD (wz rfl rfl rfl rfl) hL rfl rfl HasV.mem (by rfl) ?_) | (refine lE (wz rfl rfl rfl rfl) hL rfl rfl HasV.mem SegC.seg ?_))))
            exact bodyPost_ret (res_cell rfl hL _ rfl HasV.mem (by rfl)) rfl ⟨⟨⟨a.id, nd, a.at_, a.parent, a.name, al, de⟩, HR.out _ _ _ _ HT.out HE1.out HE2.out HE3.out, rfl⟩, hL.below⟩
        · have ht : a.top b = a := if_neg (by rw [Lnk.cmps_lt]; simp [h0, h1, h2, h3, slt_irr, Mk.lss_irr])
          have HT := Lib.hid ht.symm
          have HQ0 := Lib.hid (fun wx => ref09_less (a.at_) (b.at_) wx); rw [Mk.lssB_not h0] at HQ0
          have q1 := stampE (a.at_) (b.at_) (decide_eq_true h1)
          have HQ2 := Lib.hid (fun wx => ref09_less (a.parent) (b.parent) wx); rw [Mk.lssB_not h2] at HQ2
          have q3 := stampE (a.parent) (b.parent) (decide_eq_false h3)
          clear ht h0 h1 h2 h3
          go_enter Tryz.func104, Tryz.ntmps104
          go_wp2_with (first
            | ((with_reducible refine gate (N := 2) rfl ?_); (refine lJ rfl hL rfl rfl cy ?_; clear hL; intro g2 w2 hL)) | ((with_reducible refine gate (N := 3) rfl ?_); (refine lJ rfl hL rfl rfl cy ?_; clear hL; intro g3 w3 hL)) | ((with_reducible refine gate (N := 4) rfl ?_); (refine lI rfl hL rfl cy ?_; clear hL; intro g4 w4 hL)) | ((with_reducible refine gate (N := 5) rfl ?_); (refine lI rfl hL rfl cy ?_; clear hL; intro g5 w5 hL))
            | (go_at_call 103; (with_reducible refine (HQ0.out _).mono ?_); rintro e w5 ⟨rfl, hb5⟩; have hL := hL.call hb5; clear hb5)
            | (go_at_call 103; (with_reducible refine (HQ2.out _).mono ?_); rintro e w5 ⟨rfl, hb5⟩; have hL := hL.call hb5; clear hb5)
            | (go_at_call 175; (with_reducible refine (HM.out _).mono ?_); rintro e w5 ⟨⟨nd, e1, rfl⟩, hb5⟩; have HE1 := Lib.hid e1; clear e1; have hL := hL.call hb5; clear hb5)
            | (go_at_call 39; (with_reducible refine (HA.out _).mono ?_); rintro e w5 ⟨⟨al, e2, rfl⟩, hb5⟩; have HE2 := Lib.hid e2; clear e2; have hL := hL.call hb5; clear hb5; clear HA)
            | (go_at_call 39; (with_reducible refine (HD.out _).mono ?_); rintro e w5 ⟨⟨de, e3, rfl⟩, hb5⟩; have HE3 := Lib.hid e3; clear e3; have hL := hL.call hb5; clear hb5)
            | ((with_reducible refine qB rfl rfl ?_); (first | (refine lA rfl hL rfl rfl HasV.mem (by rfl) ?_) | (refine lF rfl hL rfl rfl HasV.mem SegC.seg ?_))) | ((with_reducible refine qC rfl rfl ?_); (refine lH rfl hL rfl rfl rfl cy (by rfl) ?_); clear hL; intro wq hL) | ((with_reducible refine qA rfl rfl ?_ ?_); (exact wz rfl rfl rfl (by with_reducible rfl)); (refine lE (wz rfl rfl rfl rfl) hL rfl rfl HasV.mem SegC.seg ?_)))
          exact bodyPost_ret (res_cell rfl hL _ rfl HasV.mem (by rfl)) rfl ⟨⟨⟨a.id, nd, a.at_, a.parent, a.name, al, de⟩, HR.out _ _ _ _ HT.out HE1.out HE2.out HE3.out, rfl⟩, hL.below⟩
    · have ht : a.top b = a := if_neg (by rw [Lnk.cmps_lt]; simp [h0, h1, slt_irr, Mk.lss_irr])
      have HT := Lib.hid ht.symm
      have HQ0 := Lib.hid (fun wx => ref09_less (a.at_) (b.at_) wx); rw [Mk.lssB_not h0] at HQ0
      have q1 := stampE (a.at_) (b.at_) (decide_eq_false h1)
      clear ht h0 h1
      go_enter Tryz.func104, Tryz.ntmps104
      go_wp2_with (first
        | ((with_reducible refine gate (N := 2) rfl ?_); (refine lJ rfl hL rfl rfl cy ?_; clear hL; intro g2 w2 hL)) | ((with_reducible refine gate (N := 3) rfl ?_); (refine lJ rfl hL rfl rfl cy ?_; clear hL; intro g3 w3 hL)) | ((with_reducible refine gate (N := 4) rfl ?_); (refine lI rfl hL rfl cy ?_; clear hL; intro g4 w4 hL)) | ((with_reducible refine gate (N := 5) rfl ?_); (refine lI rfl hL rfl cy ?_; clear hL; intro g5 w5 hL))
        | (go_at_call 103; (with_reducible refine (HQ0.out _).mono ?_); rintro e w5 ⟨rfl, hb5⟩; have hL := hL.call hb5; clear hb5)
        | (go_at_call 175; (with_reducible refine (HM.out _).mono ?_); rintro e w5 ⟨⟨nd, e1, rfl⟩, hb5⟩; have HE1 := Lib.hid e1; clear e1; have hL := hL.call hb5; clear hb5)
        | (go_at_call 39; (with_reducible refine (HA.out _).mono ?_); rintro e w5 ⟨⟨al, e2, rfl⟩, hb5⟩; have HE2 := Lib.hid e2; clear e2; have hL := hL.call hb5; clear hb5; clear HA)
        | (go_at_call 39; (with_reducible refine (HD.out _).mono ?_); rintro e w5 ⟨⟨de, e3, rfl⟩, hb5⟩; have HE3 := Lib.hid e3; clear e3; have hL := hL.call hb5; clear hb5)
        | ((with_reducible refine qB rfl rfl ?_); (first | (refine lA rfl hL rfl rfl HasV.mem (by rfl) ?_) | (refine lF rfl hL rfl rfl HasV.mem SegC.seg ?_))) | ((with_reducible refine qC rfl rfl ?_); (refine lH rfl hL rfl rfl rfl cy (by rfl) ?_); clear hL; intro wq hL) | ((with_reducible refine qA rfl rfl ?_ ?_); (exact wz rfl rfl rfl (by with_reducible rfl)); (refine lE (wz rfl rfl rfl rfl) hL rfl rfl HasV.mem SegC.seg ?_)))
      exact bodyPost_ret (res_cell rfl hL _ rfl HasV.mem (by rfl)) rfl ⟨⟨⟨a.id, nd, a.at_, a.parent, a.name, al, de⟩, HR.out _ _ _ _ HT.out HE1.out HE2.out HE3.out, rfl⟩, hL.below⟩
end Go.Proofs.YtebpacmhdkgfeaaGreat

namespace Go.Proofs.YtebpacmhdkgfeaaGreat
open Go.RowKit
namespace Stab
variable {α : Type} {lt : α → α → Bool} {g : α → α} {f : α → α → α} {x : α} {ps L R : List α} {dn : Bool} {k : Nat}
theorem ins_start (g : α → α) (f : α → α → α) (x : α) (ps : List α) : rins lt g f x false ps = [] ++ rins lt g f x false (ps.drop 0) := rfl
theorem ins_same (H : R = L ++ rins lt g f x dn (ps.drop k)) (hk : k < ps.length) (h : eqv lt ps[k] x = true) : R = (L ++ [f ps[k] x]) ++ rins lt g f x true (ps.drop (k + 1)) := by
  rw [H, List.drop_eq_getElem_cons hk, rins, if_pos h, List.append_assoc]; rfl
theorem ins_new (H : R = L ++ rins lt g f x false (ps.drop k)) (hk : k < ps.length) (h : eqv lt ps[k] x = false) (h2 : lt x ps[k] = true) : R = (L ++ [g x] ++ [ps[k]]) ++ rins lt g f x true (ps.drop (k + 1)) := by
  rw [H, List.drop_eq_getElem_cons hk, rins, if_neg (by rw [h]; simp), if_pos ⟨rfl, h2⟩]; simp
theorem ins_skip (H : R = L ++ rins lt g f x dn (ps.drop k)) (hk : k < ps.length) (h : eqv lt ps[k] x = false) (h2 : dn = true ∨ lt x ps[k] = false) : R = (L ++ [ps[k]]) ++ rins lt g f x dn (ps.drop (k + 1)) := by
  rw [H, List.drop_eq_getElem_cons hk, rins, if_neg (by rw [h]; simp), if_neg (by
    rintro ⟨h3, h4⟩
    rcases h2 with h2 | h2
    · rw [h2] at h3; cases h3
    · rw [h2] at h4; cases h4), List.append_assoc]; rfl
theorem ins_done (H : R = L ++ rins lt g f x true (ps.drop k)) (hk : ps.length ≤ k) : R = L := by
  rw [H, List.drop_eq_nil_of_le hk, rins]; simp
theorem ins_last (H : R = L ++ rins lt g f x false (ps.drop k)) (hk : ps.length ≤ k) : R = L ++ [g x] := by
  rw [H, List.drop_eq_nil_of_le hk, rins]; simp
theorem ins_newI (H : R = L ++ rins lt _root_.id f x false (ps.drop k)) (hk : k < ps.length) (h : eqv lt ps[k] x = false) (h2 : lt x ps[k] = true) : R = (L ++ [x] ++ [ps[k]]) ++ rins lt _root_.id f x true (ps.drop (k + 1)) := ins_new H hk h h2
theorem ins_lastI (H : R = L ++ rins lt _root_.id f x false (ps.drop k)) (hk : ps.length ≤ k) : R = L ++ [x] := ins_last H hk
end Stab
theorem Pce.eqv_false {x y : Pce} (h : x.idx ≠ y.idx) : Stab.eqv Pce.lt x y = false := Bool.eq_false_iff.2 fun e => h (Pce.eqv_iff.1 e)
theorem Xat.eqv_false {x y : Xat} (h : x.name ≠ y.name) : Stab.eqv Xat.lt x y = false := Bool.eq_false_iff.2 fun e => h (Xat.eqv_iff.1 e)
theorem Lnk.eqv_false {x y : Lnk} (h : x.id ≠ y.id) : Stab.eqv Lnk.lt x y = false := Bool.eq_false_iff.2 fun e => h (Lnk.eqv_iff.1 e)
theorem InoD.eqv_false {x y : InoD} (h : x.hd.id ≠ y.hd.id) : Stab.eqv InoD.lt x y = false := Bool.eq_false_iff.2 fun e => h (InoD.eqv_iff.1 e)
theorem Pce.lt_false {x y : Pce} (h : ¬ x.idx < y.idx) : Pce.lt x y = false := Bool.eq_false_iff.2 fun e => h ((Pce.lt_iff _ _).1 e)
theorem Xat.lt_false {x y : Xat} (h : slt x.name y.name = false) : Xat.lt x y = false := Bool.eq_false_iff.2 fun e => by rw [(Xat.lt_iff _ _).1 e] at h; cases h
theorem Lnk.lt_false {x y : Lnk} (h : ¬ x.id.lss y.id) : Lnk.lt x y = false := Bool.eq_false_iff.2 fun e => h ((Lnk.lt_iff _ _).1 e)
theorem InoD.lt_false {x y : InoD} (h : ¬ x.hd.id.lss y.hd.id) : InoD.lt x y = false := Bool.eq_false_iff.2 fun e => h ((InoD.lt_iff _ _).1 e)
theorem Stab.rins_all {α : Type} {lt : α → α → Bool} {g : α → α} {f : α → α → α} {x : α} {Q : α → Prop} (hg : Q (g x)) : ∀ (dn : Bool) (l : List α), (∀ y ∈ l, Q y) → (∀ y ∈ l, Q (f y x)) → ∀ y ∈ Stab.rins lt g f x dn l, Q y
  | dn, [], _, _, y, hy => by
    rw [Stab.rins] at hy
    split at hy
    · cases hy
    · rw [List.mem_singleton.1 hy]; exact hg
  | dn, n :: l, hl, hf, y, hy => by
    have ih := fun d => Stab.rins_all (lt := lt) hg d l (fun y hy => hl y (.tail _ hy)) (fun y hy => hf y (.tail _ hy))
    rw [Stab.rins] at hy
    split at hy
    · rcases List.mem_cons.1 hy with rfl | hy
      · exact hf n (.head _)
      · exact ih _ y hy
    · split at hy
      · rcases List.mem_cons.1 hy with rfl | hy
        · exact hg
        · rcases List.mem_cons.1 hy with rfl | hy
          · exact hl y (.head _)
          · exact ih _ y hy
      · rcases List.mem_cons.1 hy with rfl | hy
        · exact hl y (.head _)
        · exact ih _ y hy
theorem Stab.rfold_all {α : Type} {lt : α → α → Bool} {g : α → α} {f : α → α → α} {Q : α → Prop} (hg : ∀ x, Q x → Q (g x)) (hf : ∀ y x, Q y → Q x → Q (f y x)) (l : List α) (hl : ∀ x ∈ l, Q x) : ∀ y ∈ Stab.rfold lt g f l, Q y := by
  have key : ∀ n (l : List α), l.length = n → (∀ x ∈ l, Q x) → ∀ y ∈ Stab.rfold lt g f l, Q y := fun n => by
    induction n with
    | zero => intro l hn _ y hy; rw [List.eq_nil_of_length_eq_zero hn] at hy; cases hy
    | succ n ih =>
      intro l hn hl
      obtain ⟨l', x, rfl⟩ : ∃ l' x, l = l' ++ [x] := ⟨l.dropLast, l.getLast (by intro e; rw [e] at hn; cases hn), (List.dropLast_concat_getLast _).symm⟩
      have hn' : l'.length = n := by simpa using hn
      have h1 := ih l' hn' fun x hx => hl x (List.mem_append.2 (.inl hx))
      have h2 := hl x (List.mem_append.2 (.inr (.head _)))
      rw [Stab.rfold_snoc]
      exact Stab.rins_all (hg x h2) false _ h1 fun y hy => hf y x (h1 y hy) h2
  exact key _ l rfl hl
def Pce.Z (p : Pce) : Prop := p.data.size ≤ 9223372036854775807
def Xat.Z (x : Xat) : Prop := x.name.size ≤ 9223372036854775807 ∧ x.val.size ≤ 9223372036854775807
def Lnk.Z (l : Lnk) : Prop := l.name.size ≤ 9223372036854775807
structure InoD.Z (d : InoD) : Prop where
  text : d.hd.text.size ≤ 9223372036854775807
  ps : ∀ p ∈ d.ps, p.Z
  xs : ∀ x ∈ d.xs, x.Z
theorem Pce.Z_top {a b : Pce} (ha : a.Z) (hb : b.Z) : (a.top b).Z := by unfold Pce.top; split <;> assumption
theorem Xat.Z_top {a b : Xat} (ha : a.Z) (hb : b.Z) : (a.top b).Z := by unfold Xat.top; split <;> assumption
theorem Lnk.Z_one {a b : Lnk} (ha : a.Z) (hb : b.Z) : (a.one b).Z := by
  show (a.top b).name.size ≤ _
  unfold Lnk.top; split <;> assumption
theorem listed_Z {l : List Pce} (h : ∀ p ∈ l, p.Z) : ∀ p ∈ listedD l, p.Z := Stab.rfold_all (fun _ h => h) (fun _ _ h k => Pce.Z_top h k) l h
theorem named_Z {l : List Xat} (h : ∀ p ∈ l, p.Z) : ∀ p ∈ namedD l, p.Z := Stab.rfold_all (fun _ h => h) (fun _ _ h k => Xat.Z_top h k) l h
theorem InoD.Z_one {a b : InoD} (ha : a.Z) (hb : b.Z) : (a.one b).Z where
  text := by
    show (smax a.hd.text b.hd.text).size ≤ _
    unfold smax; split
    · exact hb.text
    · exact ha.text
  ps := listed_Z fun p hp => (List.mem_append.1 hp).elim (ha.ps p) (hb.ps p)
  xs := named_Z fun p hp => (List.mem_append.1 hp).elim (ha.xs p) (hb.xs p)
theorem InoD.Z_norm {a : InoD} (ha : a.Z) : a.norm.Z where
  text := ha.text
  ps := listed_Z ha.ps
  xs := named_Z ha.xs
theorem InoD.Z_of_wf {B : Nat} {d : InoD} (h : d.wf B) (hB : B ≤ 9223372036854775807) : d.Z :=
  ⟨Nat.le_trans h.hd.text hB, fun p hp => Nat.le_trans (h.ps p hp).data hB, fun x hx => ⟨Nat.le_trans (h.xs x hx).name hB, Nat.le_trans (h.xs x hx).val hB⟩⟩
theorem InoD.one_len (a b : InoD) : (a.one b).ps.length ≤ a.ps.length + b.ps.length ∧ (a.one b).xs.length ≤ a.xs.length + b.xs.length :=
  ⟨Nat.le_trans (listed_len _) (by simp), Nat.le_trans (named_len _) (by simp)⟩
theorem InoD.norm_len (a : InoD) : a.norm.ps.length ≤ a.ps.length ∧ a.norm.xs.length ≤ a.xs.length := ⟨listed_len _, named_len _⟩
end Go.Proofs.YtebpacmhdkgfeaaGreat

namespace Go.Proofs.YtebpacmhdkgfeaaGreat
open Go.RowKit
set_option maxHeartbeats 8000000
set_option maxRecDepth 20000
theorem strB (a b : ByteArray) {r : Bool} (h : decide (a = b) = r) : (a.toList == b.toList) = r := by
  subst h
  rw [Bool.eq_iff_iff]
  simp only [beq_iff_eq, decide_eq_true_eq]
  constructor
  · intro h
    have h2 : a.data.toList = b.data.toList := by rw [← Lib.toList_data, ← Lib.toList_data]; exact h
    cases a; cases b
    simpa using h2
  · rintro rfl; rfl
theorem dn_false {α : Type} {lt : α → α → Bool} {g : α → α} {f : α → α → α} {x : α} {R L l : List α} {dn : Bool} (e : dn = false) (h : R = L ++ Stab.rins lt g f x dn l) : R = L ++ Stab.rins lt g f x false l := e ▸ h
set_option maxHeartbeats 16000000 in
theorem ref11_put (v : Value) (ps : List Pce) (x : Pce) (w : World) (h : encPc.R w v ps) (hz : ∀ p ∈ ps, p.Z) (hx : x.Z) (hn : ps.length ≤ 1000000000) :
    Calls Tryz.prog 173 #[v, .agg (Pce.cells x).toArray] w fun e w' => ∃ u, e = .returned u ∧ Loc w NoM w' [row encPc w.heap.size 61 u (Stab.rins Pce.lt _root_.id Pce.top x false ps)] := by
  have hL := (Loc.nil w NoM).rowOff encPc w.heap.size 61
  obtain ⟨ao, c0, rfl, hel⟩ := R_elem h
  have HZ := Lib.hid hz
  have HX := Lib.hid hx
  clear h hz hx
  unfold Pce.cells
  go_enter Tryz.func173, Tryz.ntmps173
  go_wp2_with (first | ((with_reducible refine gate (N := 3) rfl ?_); (refine lJ rfl hL rfl rfl cy ?_; clear hL; intro g3 w3 hL)))
  go_loopw [5, 6, 11] (fun s d i wr => ∃ (k : Nat) (vs : Value) (dn : Bool) (L : List Pce), k ≤ ps.length ∧ i = .int .i64 k ∧ d = .bool dn ∧ s = vs ∧ L.length ≤ 2 * k ∧ Hid (Stab.rins Pce.lt _root_.id Pce.top x false ps = L ++ Stab.rins Pce.lt _root_.id Pce.top x dn (ps.drop k)) ∧ Loc w NoM wr [var g3 [.int .i64 x.idx, .int .i64 x.at_.boot, .int .i64 x.at_.n, .string x.data] 61, row encPc w.heap.size 61 vs L]) (fun _ _ i _ => ps.length - (intOf i).toNat)
  case atStart => exact ⟨0, _, false, [], by omega, rfl, rfl, rfl, by simp, Lib.hid (Stab.ins_start _ _ _ _), hL⟩
  case round =>
    clear hL
    obtain ⟨k, vs, dn, L, hk, rfl, rfl, rfl, hlen, HS, hL⟩ := hrel
    by_cases hlt : k < ps.length
    · obtain ⟨g, off, rfl, hr⟩ := hel k hlt
      have hzp := Lib.hid (HZ.out _ (List.getElem_mem hlt))
      have HE1 := Lib.hid (fun h => Stab.ins_same HS.out hlt h)
      have HE2 := Lib.hid (fun h e => Stab.ins_newI (dn_false e HS.out) hlt h)
      have HE3 := Lib.hid (fun h => Stab.ins_skip HS.out hlt h)
      have hrW0 : World.rangeAt _ g (off + k * 4) (Pce.cells ps[k]) := range_below hr hL.below
      clear hr
      generalize ps[k] = p at *
      have hrW : World.rangeAt _ g (off + k * 4) [.int .i64 p.idx, .int .i64 p.at_.boot, .int .i64 p.at_.n, .string p.data] := hrW0
      clear hrW0
      by_cases h1 : p.idx = x.idx
      · have q1 : (p.idx == x.idx) = true := by simpa using h1
        have HP := Lib.hid (fun wx => ref11_piece p x wx hzp.out HX.out)
        have HS2 := HE1.out (Pce.eqv_iff.2 h1)
        have HS3 := Lib.hid HS2
        clear HS HE1 HE2 HE3 HS2 h1
        go_wp2_with (first
          | ((with_reducible refine qF rfl rfl ?_); refine lL rfl rfl rfl rfl hlt ?_) | ((with_reducible refine gate (N := 14) rfl ?_); refine lK rfl rfl rfl hrW (by rfl) ?_) | ((with_reducible refine gate (N := 8) rfl ?_); (refine lI rfl hL rfl cy ?_; clear hL; intro g8 w8 hL))
          | (go_at_call 203; (with_reducible refine (HP.out _).mono ?_); rintro e w5 ⟨⟨c, ec, rfl⟩, hb5⟩; have HC := Lib.hid ec; clear ec; have hL := hL.call hb5; clear hb5)
          | ((with_reducible refine gate (N := 38) rfl ?_); refine lM (cs := [.int .i64 c.idx, .int .i64 c.at_.boot, .int .i64 c.at_.n, .string c.data]) rfl hL rfl rfl rfl (by kernel_rfl) ?_; clear hL; intro gq wq hL)
          | ((with_reducible refine gate (N := 39) rfl ?_); refine ev_app1L (E := encPc) c rfl hL rfl rfl rfl mx (fun _ => sx) rfl rfl rfl (by first | omega | (simp; omega)) hL.size ?_; clear hL; intro ao' c' wq hL)
          | ((with_reducible refine qB rfl rfl ?_); (first | (refine lC rfl hL rfl rfl HasV.mem (by rfl) ?_) | (refine lA rfl hL rfl rfl HasV.mem (by rfl) ?_))) | ((with_reducible refine qC rfl rfl ?_); (refine lH rfl hL rfl rfl rfl cy (by rfl) ?_); clear hL; intro wq hL))
        have HS2 := Lib.hid HS3.out
        rw [← HC.out] at HS2
        go_roundw
        case rel => exact ⟨k + 1, _, true, _, by omega, by go_num, rfl, rfl, by simp; omega, HS2, hL.sub (by repeat (first | exact List.nil_sublist _ | with_reducible apply List.Sublist.cons_cons | with_reducible apply List.Sublist.cons))⟩
        case measure => simp [intOf]; omega
      · have q1 : (p.idx == x.idx) = false := by simpa using h1
        cases dn
        · by_cases h2 : x.idx < p.idx
          · have q2 : decide (p.idx > x.idx) = true := decide_eq_true h2
            have HS2 := Lib.hid (HE2.out (Pce.eqv_false h1) rfl ((Pce.lt_iff _ _).2 h2))
            clear HS HE1 HE2 HE3 h1 h2
            go_wp2_with (first
              | ((with_reducible refine qF rfl rfl ?_); refine lL rfl rfl rfl rfl hlt ?_) | ((with_reducible refine gate (N := 14) rfl ?_); refine lK rfl rfl rfl hrW (by rfl) ?_) | ((with_reducible refine gate (N := 8) rfl ?_); (refine lI rfl hL rfl cy ?_; clear hL; intro g8 w8 hL))
              | ((with_reducible refine gate (N := 34) rfl ?_); refine lM (cs := [.int .i64 x.idx, .int .i64 x.at_.boot, .int .i64 x.at_.n, .string x.data]) rfl hL rfl rfl rfl (by kernel_rfl) ?_; clear hL; intro gq wq hL)
              | ((with_reducible refine gate (N := 35) rfl ?_); refine ev_app1L (E := encPc) x rfl hL rfl rfl rfl mx (fun _ => sx) rfl rfl rfl (by first | omega | (simp; omega)) hL.size ?_; clear hL; intro ao' c' wq hL)
              | ((with_reducible refine gate (N := 38) rfl ?_); refine lM (cs := [.int .i64 p.idx, .int .i64 p.at_.boot, .int .i64 p.at_.n, .string p.data]) rfl hL rfl rfl rfl (by kernel_rfl) ?_; clear hL; intro gq wq hL)
              | ((with_reducible refine gate (N := 39) rfl ?_); refine ev_app1L (E := encPc) p rfl hL rfl rfl rfl mx (fun _ => sx) rfl rfl rfl (by first | omega | (simp; omega)) hL.size ?_; clear hL; intro ao' c' wq hL)
              | ((with_reducible refine qB rfl rfl ?_); (first | (refine lC rfl hL rfl rfl HasV.mem (by rfl) ?_) | (refine lA rfl hL rfl rfl HasV.mem (by rfl) ?_))) | ((with_reducible refine qC rfl rfl ?_); (refine lH rfl hL rfl rfl rfl cy (by rfl) ?_); clear hL; intro wq hL) | ((with_reducible refine qA rfl rfl ?_ ?_); (exact wz rfl rfl rfl (by with_reducible rfl)); (refine lD (wz rfl rfl rfl rfl) hL rfl rfl HasV.mem (by rfl) ?_)))
            simp only [List.length_append, List.length_singleton] at hL
            go_roundw
            case rel => exact ⟨k + 1, _, true, _, by omega, by go_num, rfl, rfl, by simp; omega, HS2, hL.sub (by repeat (first | exact List.nil_sublist _ | with_reducible apply List.Sublist.cons_cons | with_reducible apply List.Sublist.cons))⟩
            case measure => simp [intOf]; omega
          · have q2 : decide (p.idx > x.idx) = false := decide_eq_false h2
            have HS2 := Lib.hid (HE3.out (Pce.eqv_false h1) (.inr (Pce.lt_false h2)))
            clear HS HE1 HE2 HE3 h1 h2
            go_wp2_with (first
              | ((with_reducible refine qF rfl rfl ?_); refine lL rfl rfl rfl rfl hlt ?_) | ((with_reducible refine gate (N := 14) rfl ?_); refine lK rfl rfl rfl hrW (by rfl) ?_) | ((with_reducible refine gate (N := 8) rfl ?_); (refine lI rfl hL rfl cy ?_; clear hL; intro g8 w8 hL))
              | ((with_reducible refine gate (N := 38) rfl ?_); refine lM (cs := [.int .i64 p.idx, .int .i64 p.at_.boot, .int .i64 p.at_.n, .string p.data]) rfl hL rfl rfl rfl (by kernel_rfl) ?_; clear hL; intro gq wq hL)
              | ((with_reducible refine gate (N := 39) rfl ?_); refine ev_app1L (E := encPc) p rfl hL rfl rfl rfl mx (fun _ => sx) rfl rfl rfl (by first | omega | (simp; omega)) hL.size ?_; clear hL; intro ao' c' wq hL)
              | ((with_reducible refine qB rfl rfl ?_); (first | (refine lC rfl hL rfl rfl HasV.mem (by rfl) ?_) | (refine lA rfl hL rfl rfl HasV.mem (by rfl) ?_))) | ((with_reducible refine qC rfl rfl ?_); (refine lH rfl hL rfl rfl rfl cy (by rfl) ?_); clear hL; intro wq hL) | ((with_reducible refine qA rfl rfl ?_ ?_); (exact wz rfl rfl rfl (by with_reducible rfl)); (refine lD (wz rfl rfl rfl rfl) hL rfl rfl HasV.mem (by rfl) ?_)))
            go_roundw
            case rel => exact ⟨k + 1, _, false, _, by omega, by go_num, rfl, rfl, by simp; omega, HS2, hL.sub (by repeat (first | exact List.nil_sublist _ | with_reducible apply List.Sublist.cons_cons | with_reducible apply List.Sublist.cons))⟩
            case measure => simp [intOf]; omega
        · have HS2 := Lib.hid (HE3.out (Pce.eqv_false h1) (.inl rfl))
          clear HS HE1 HE2 HE3 h1
          go_wp2_with (first
            | ((with_reducible refine qF rfl rfl ?_); refine lL rfl rfl rfl rfl hlt ?_) | ((with_reducible refine gate (N := 14) rfl ?_); refine lK rfl rfl rfl hrW (by rfl) ?_) | ((with_reducible refine gate (N := 8) rfl ?_); (refine lI rfl hL rfl cy ?_; clear hL; intro g8 w8 hL))
            | ((with_reducible refine gate (N := 38) rfl ?_); refine lM (cs := [.int .i64 p.idx, .int .i64 p.at_.boot, .int .i64 p.at_.n, .string p.data]) rfl hL rfl rfl rfl (by kernel_rfl) ?_; clear hL; intro gq wq hL)
            | ((with_reducible refine gate (N := 39) rfl ?_); refine ev_app1L (E := encPc) p rfl hL rfl rfl rfl mx (fun _ => sx) rfl rfl rfl (by first | omega | (simp; omega)) hL.size ?_; clear hL; intro ao' c' wq hL)
            | ((with_reducible refine qB rfl rfl ?_); (first | (refine lC rfl hL rfl rfl HasV.mem (by rfl) ?_) | (refine lA rfl hL rfl rfl HasV.mem (by rfl) ?_))) | ((with_reducible refine qC rfl rfl ?_); (refine lH rfl hL rfl rfl rfl cy (by rfl) ?_); clear hL; intro wq hL))
          go_roundw
          case rel => exact ⟨k + 1, _, true, _, by omega, by go_num, rfl, rfl, by simp; omega, HS2, hL.sub (by repeat (first | exact List.nil_sublist _ | with_reducible apply List.Sublist.cons_cons | with_reducible apply List.Sublist.cons))⟩
          case measure => simp [intOf]; omega
    · cases dn
      · have HB := Lib.hid (Stab.ins_lastI HS.out (by omega))
        clear HS
        have hk0 : ¬ k < ps.length := hlt
        go_wp2_with (first
          | ((with_reducible refine qF rfl rfl ?_); refine lL rfl rfl rfl rfl hlt ?_) | ((with_reducible refine gate (N := 14) rfl ?_); refine lK rfl rfl rfl hrW (by rfl) ?_) | ((with_reducible refine gate (N := 8) rfl ?_); (refine lI rfl hL rfl cy ?_; clear hL; intro g8 w8 hL))
          | ((with_reducible refine gate (N := 45) rfl ?_); refine lM (cs := [.int .i64 x.idx, .int .i64 x.at_.boot, .int .i64 x.at_.n, .string x.data]) rfl hL rfl rfl rfl (by kernel_rfl) ?_; clear hL; intro gq wq hL)
          | ((with_reducible refine gate (N := 46) rfl ?_); refine ev_app1L (E := encPc) x rfl hL rfl rfl rfl mx (fun _ => sx) rfl rfl rfl (by first | omega | (simp; omega)) hL.size ?_; clear hL; intro ao' c' wq hL)
          | ((with_reducible refine qB rfl rfl ?_); (refine lA rfl hL rfl rfl HasV.mem (by rfl) ?_)))
        go_ret
        exact ⟨_, rfl, by rw [HB.out]; exact hL.sub (by repeat (first | exact List.nil_sublist _ | apply List.Sublist.cons_cons | apply List.Sublist.cons))⟩
      · have HB := Lib.hid (Stab.ins_done HS.out (by omega))
        clear HS
        have hk0 : ¬ k < ps.length := hlt
        go_wp2_with fail
        go_ret
        exact ⟨_, rfl, by rw [HB.out]; exact hL.sub (by repeat (first | exact List.nil_sublist _ | apply List.Sublist.cons_cons | apply List.Sublist.cons))⟩
set_option maxHeartbeats 16000000 in
theorem ref11_name (v : Value) (ps : List Xat) (x : Xat) (w : World) (h : encXt.R w v ps) (hz : ∀ p ∈ ps, p.Z) (hx : x.Z) (hn : ps.length ≤ 1000000000) :
    Calls Tryz.prog 174 #[v, .agg (Xat.cells x).toArray] w fun e w' => ∃ u, e = .returned u ∧ Loc w NoM w' [row encXt w.heap.size 64 u (Stab.rins Xat.lt _root_.id Xat.top x false ps)] := by
  have hL := (Loc.nil w NoM).rowOff encXt w.heap.size 64
  obtain ⟨ao, c0, rfl, hel⟩ := R_elem h
  have HZ := Lib.hid hz
  have HX := Lib.hid hx
  clear h hz hx
  unfold Xat.cells
  go_enter Tryz.func174, Tryz.ntmps174
  go_wp2_with (first | ((with_reducible refine gate (N := 3) rfl ?_); (refine lJ rfl hL rfl rfl cy ?_; clear hL; intro g3 w3 hL)))
  go_loopw [5, 6, 11] (fun s d i wr => ∃ (k : Nat) (vs : Value) (dn : Bool) (L : List Xat), k ≤ ps.length ∧ i = .int .i64 k ∧ d = .bool dn ∧ s = vs ∧ L.length ≤ 2 * k ∧ Hid (Stab.rins Xat.lt _root_.id Xat.top x false ps = L ++ Stab.rins Xat.lt _root_.id Xat.top x dn (ps.drop k)) ∧ Loc w NoM wr [var g3 [.string x.name, .int .i64 x.at_.boot, .int .i64 x.at_.n, .string x.val, .bool x.gone] 64, row encXt w.heap.size 64 vs L]) (fun _ _ i _ => ps.length - (intOf i).toNat)
  case atStart => exact ⟨0, _, false, [], by omega, rfl, rfl, rfl, by simp, Lib.hid (Stab.ins_start _ _ _ _), hL⟩
  case round =>
    clear hL
    obtain ⟨k, vs, dn, L, hk, rfl, rfl, rfl, hlen, HS, hL⟩ := hrel
    by_cases hlt : k < ps.length
    · obtain ⟨g, off, rfl, hr⟩ := hel k hlt
      have hzp := Lib.hid (HZ.out _ (List.getElem_mem hlt))
      have HE1 := Lib.hid (fun h => Stab.ins_same HS.out hlt h)
      have HE2 := Lib.hid (fun h e => Stab.ins_newI (dn_false e HS.out) hlt h)
      have HE3 := Lib.hid (fun h => Stab.ins_skip HS.out hlt h)
      have hrW0 : World.rangeAt _ g (off + k * 5) (Xat.cells ps[k]) := range_below hr hL.below
      clear hr
      generalize ps[k] = p at *
      have hrW : World.rangeAt _ g (off + k * 5) [.string p.name, .int .i64 p.at_.boot, .int .i64 p.at_.n, .string p.val, .bool p.gone] := hrW0
      clear hrW0
      by_cases h1 : p.name = x.name
      · have q1 := strB p.name x.name (decide_eq_true h1)
        have HP := Lib.hid (fun wx => ref11_xattr p x wx hzp.out.2 HX.out.2)
        have HS2 := HE1.out (Xat.eqv_iff.2 h1)
        have HS3 := Lib.hid HS2
        clear HS HE1 HE2 HE3 HS2 h1
        go_wp2_with (first
          | ((with_reducible refine qF rfl rfl ?_); refine lL rfl rfl rfl rfl hlt ?_) | ((with_reducible refine gate (N := 14) rfl ?_); refine lK rfl rfl rfl hrW (by rfl) ?_) | ((with_reducible refine gate (N := 8) rfl ?_); (refine lI rfl hL rfl cy ?_; clear hL; intro g8 w8 hL))
          | (go_at_call 204; (with_reducible refine (HP.out _).mono ?_); rintro e w5 ⟨⟨c, ec, rfl⟩, hb5⟩; have HC := Lib.hid ec; clear ec; have hL := hL.call hb5; clear hb5)
          | ((with_reducible refine gate (N := 38) rfl ?_); refine lM (cs := [.string c.name, .int .i64 c.at_.boot, .int .i64 c.at_.n, .string c.val, .bool c.gone]) rfl hL rfl rfl rfl (by kernel_rfl) ?_; clear hL; intro gq wq hL)
          | ((with_reducible refine gate (N := 39) rfl ?_); refine ev_app1L (E := encXt) c rfl hL rfl rfl rfl mx (fun _ => sx) rfl rfl rfl (by first | omega | (simp; omega)) hL.size ?_; clear hL; intro ao' c' wq hL)
          | ((with_reducible refine qB rfl rfl ?_); (first | (refine lC rfl hL rfl rfl HasV.mem (by rfl) ?_) | (refine lA rfl hL rfl rfl HasV.mem (by rfl) ?_))) | ((with_reducible refine qC rfl rfl ?_); (refine lH rfl hL rfl rfl rfl cy (by rfl) ?_); clear hL; intro wq hL))
        have HS2 := Lib.hid HS3.out
        rw [← HC.out] at HS2
        go_roundw
        case rel => exact ⟨k + 1, _, true, _, by omega, by go_num, rfl, rfl, by simp; omega, HS2, hL.sub (by repeat (first | exact List.nil_sublist _ | with_reducible apply List.Sublist.cons_cons | with_reducible apply List.Sublist.cons))⟩
        case measure => simp [intOf]; omega
      · have q1 := strB p.name x.name (decide_eq_false h1)
        cases dn
        · by_cases h2 : slt x.name p.name = true
          · have HQ := Lib.hid (fun wx => ref01_less x.name p.name wx HX.out.1 hzp.out.1); rw [h2] at HQ
            have HS2 := Lib.hid (HE2.out (Xat.eqv_false h1) rfl ((Xat.lt_iff _ _).2 h2))
            clear HS HE1 HE2 HE3 h1 h2
            go_wp2_with (first
              | ((with_reducible refine qF rfl rfl ?_); refine lL rfl rfl rfl rfl hlt ?_) | ((with_reducible refine gate (N := 14) rfl ?_); refine lK rfl rfl rfl hrW (by rfl) ?_) | ((with_reducible refine gate (N := 8) rfl ?_); (refine lI rfl hL rfl cy ?_; clear hL; intro g8 w8 hL))
              | (go_at_call 170; (with_reducible refine (HQ.out _).mono ?_); rintro e w5 ⟨rfl, hb5⟩; have hL := hL.call hb5; clear hb5)
              | ((with_reducible refine gate (N := 34) rfl ?_); refine lM (cs := [.string x.name, .int .i64 x.at_.boot, .int .i64 x.at_.n, .string x.val, .bool x.gone]) rfl hL rfl rfl rfl (by kernel_rfl) ?_; clear hL; intro gq wq hL)
              | ((with_reducible refine gate (N := 35) rfl ?_); refine ev_app1L (E := encXt) x rfl hL rfl rfl rfl mx (fun _ => sx) rfl rfl rfl (by first | omega | (simp; omega)) hL.size ?_; clear hL; intro ao' c' wq hL)
              | ((with_reducible refine gate (N := 38) rfl ?_); refine lM (cs := [.string p.name, .int .i64 p.at_.boot, .int .i64 p.at_.n, .string p.val, .bool p.gone]) rfl hL rfl rfl rfl (by kernel_rfl) ?_; clear hL; intro gq wq hL)
              | ((with_reducible refine gate (N := 39) rfl ?_); refine ev_app1L (E := encXt) p rfl hL rfl rfl rfl mx (fun _ => sx) rfl rfl rfl (by first | omega | (simp; omega)) hL.size ?_; clear hL; intro ao' c' wq hL)
              | ((with_reducible refine qB rfl rfl ?_); (first | (refine lC rfl hL rfl rfl HasV.mem (by rfl) ?_) | (refine lA rfl hL rfl rfl HasV.mem (by rfl) ?_))) | ((with_reducible refine qC rfl rfl ?_); (refine lH rfl hL rfl rfl rfl cy (by rfl) ?_); clear hL; intro wq hL) | ((with_reducible refine qA rfl rfl ?_ ?_); (exact wz rfl rfl rfl (by with_reducible rfl)); (refine lD (wz rfl rfl rfl rfl) hL rfl rfl HasV.mem (by rfl) ?_)))
            simp only [List.length_append, List.length_singleton] at hL
            go_roundw
            case rel => exact ⟨k + 1, _, true, _, by omega, by go_num, rfl, rfl, by simp; omega, HS2, hL.sub (by repeat (first | exact List.nil_sublist _ | with_reducible apply List.Sublist.cons_cons | with_reducible apply List.Sublist.cons))⟩
            case measure => simp [intOf]; omega
          · have HQ := Lib.hid (fun wx => ref01_less x.name p.name wx HX.out.1 hzp.out.1); rw [Bool.eq_false_iff.2 h2] at HQ
            have HS2 := Lib.hid (HE3.out (Xat.eqv_false h1) (.inr (Xat.lt_false (Bool.eq_false_iff.2 h2))))
            clear HS HE1 HE2 HE3 h1 h2
            go_wp2_with (first
              | ((with_reducible refine qF rfl rfl ?_); refine lL rfl rfl rfl rfl hlt ?_) | ((with_reducible refine gate (N := 14) rfl ?_); refine lK rfl rfl rfl hrW (by rfl) ?_) | ((with_reducible refine gate (N := 8) rfl ?_); (refine lI rfl hL rfl cy ?_; clear hL; intro g8 w8 hL))
              | (go_at_call 170; (with_reducible refine (HQ.out _).mono ?_); rintro e w5 ⟨rfl, hb5⟩; have hL := hL.call hb5; clear hb5)
              | ((with_reducible refine gate (N := 38) rfl ?_); refine lM (cs := [.string p.name, .int .i64 p.at_.boot, .int .i64 p.at_.n, .string p.val, .bool p.gone]) rfl hL rfl rfl rfl (by kernel_rfl) ?_; clear hL; intro gq wq hL)
              | ((with_reducible refine gate (N := 39) rfl ?_); refine ev_app1L (E := encXt) p rfl hL rfl rfl rfl mx (fun _ => sx) rfl rfl rfl (by first | omega | (simp; omega)) hL.size ?_; clear hL; intro ao' c' wq hL)
              | ((with_reducible refine qB rfl rfl ?_); (first | (refine lC rfl hL rfl rfl HasV.mem (by rfl) ?_) | (refine lA rfl hL rfl rfl HasV.mem (by rfl) ?_))) | ((with_reducible refine qC rfl rfl ?_); (refine lH rfl hL rfl rfl rfl cy (by rfl) ?_); clear hL; intro wq hL) | ((with_reducible refine qA rfl rfl ?_ ?_); (exact wz rfl rfl rfl (by with_reducible rfl)); (refine lD (wz rfl rfl rfl rfl) hL rfl rfl HasV.mem (by rfl) ?_)))
            go_roundw
            case rel => exact ⟨k + 1, _, false, _, by omega, by go_num, rfl, rfl, by simp; omega, HS2, hL.sub (by repeat (first | exact List.nil_sublist _ | with_reducible apply List.Sublist.cons_cons | with_reducible apply List.Sublist.cons))⟩
            case measure => simp [intOf]; omega
        · have HS2 := Lib.hid (HE3.out (Xat.eqv_false h1) (.inl rfl))
          clear HS HE1 HE2 HE3 h1
          go_wp2_with (first
            | ((with_reducible refine qF rfl rfl ?_); refine lL rfl rfl rfl rfl hlt ?_) | ((with_reducible refine gate (N := 14) rfl ?_); refine lK rfl rfl rfl hrW (by rfl) ?_) | ((with_reducible refine gate (N := 8) rfl ?_); (refine lI rfl hL rfl cy ?_; clear hL; intro g8 w8 hL))
            | ((with_reducible refine gate (N := 38) rfl ?_); refine lM (cs := [.string p.name, .int .i64 p.at_.boot, .int .i64 p.at_.n, .string p.val, .bool p.gone]) rfl hL rfl rfl rfl (by kernel_rfl) ?_; clear hL; intro gq wq hL)
            | ((with_reducible refine gate (N := 39) rfl ?_); refine ev_app1L (E := encXt) p rfl hL rfl rfl rfl mx (fun _ => sx) rfl rfl rfl (by first | omega | (simp; omega)) hL.size ?_; clear hL; intro ao' c' wq hL)
            | ((with_reducible refine qB rfl rfl ?_); (first | (refine lC rfl hL rfl rfl HasV.mem (by rfl) ?_) | (refine lA rfl hL rfl rfl HasV.mem (by rfl) ?_))) | ((with_reducible refine qC rfl rfl ?_); (refine lH rfl hL rfl rfl rfl cy (by rfl) ?_); clear hL; intro wq hL))
          go_roundw
          case rel => exact ⟨k + 1, _, true, _, by omega, by go_num, rfl, rfl, by simp; omega, HS2, hL.sub (by repeat (first | exact List.nil_sublist _ | with_reducible apply List.Sublist.cons_cons | with_reducible apply List.Sublist.cons))⟩
          case measure => simp [intOf]; omega
    · cases dn
      · have HB := Lib.hid (Stab.ins_lastI HS.out (by omega))
        clear HS
        have hk0 : ¬ k < ps.length := hlt
        go_wp2_with (first
          | ((with_reducible refine qF rfl rfl ?_); refine lL rfl rfl rfl rfl hlt ?_) | ((with_reducible refine gate (N := 14) rfl ?_); refine lK rfl rfl rfl hrW (by rfl) ?_) | ((with_reducible refine gate (N := 8) rfl ?_); (refine lI rfl hL rfl cy ?_; clear hL; intro g8 w8 hL))
          | ((with_reducible refine gate (N := 45) rfl ?_); refine lM (cs := [.string x.name, .int .i64 x.at_.boot, .int .i64 x.at_.n, .string x.val, .bool x.gone]) rfl hL rfl rfl rfl (by kernel_rfl) ?_; clear hL; intro gq wq hL)
          | ((with_reducible refine gate (N := 46) rfl ?_); refine ev_app1L (E := encXt) x rfl hL rfl rfl rfl mx (fun _ => sx) rfl rfl rfl (by first | omega | (simp; omega)) hL.size ?_; clear hL; intro ao' c' wq hL)
          | ((with_reducible refine qB rfl rfl ?_); (refine lA rfl hL rfl rfl HasV.mem (by rfl) ?_)))
        go_ret
        exact ⟨_, rfl, by rw [HB.out]; exact hL.sub (by repeat (first | exact List.nil_sublist _ | apply List.Sublist.cons_cons | apply List.Sublist.cons))⟩
      · have HB := Lib.hid (Stab.ins_done HS.out (by omega))
        clear HS
        have hk0 : ¬ k < ps.length := hlt
        go_wp2_with fail
        go_ret
        exact ⟨_, rfl, by rw [HB.out]; exact hL.sub (by repeat (first | exact List.nil_sublist _ | apply List.Sublist.cons_cons | apply List.Sublist.cons))⟩
set_option maxHeartbeats 16000000 in
theorem ref11_link (v : Value) (ps : List Lnk) (x : Lnk) (w : World) (h : encK.R w v ps) (hz : ∀ p ∈ ps, p.Z) (hx : x.Z) (hn : ps.length ≤ 1000000000) :
    Calls Tryz.prog 41 #[v, .agg (Lnk.cells x).toArray] w fun e w' => ∃ u, e = .returned u ∧ Loc w NoM w' [row encK w.heap.size 46 u (Stab.rins Lnk.lt _root_.id Lnk.one x false ps)] := by
  have hL := (Loc.nil w NoM).rowOff encK w.heap.size 46
  obtain ⟨ao, c0, rfl, hel⟩ := R_elem h
  have HZ := Lib.hid hz
  have HX := Lib.hid hx
  clear h hz hx
  unfold Lnk.cells
  go_enter Tryz.func41, Tryz.ntmps41
  go_wp2_with (first | ((with_reducible refine gate (N := 3) rfl ?_); (refine lJ rfl hL rfl rfl cy ?_; clear hL; intro g3 w3 hL)))
  go_loopw [5, 6, 11] (fun s d i wr => ∃ (k : Nat) (vs : Value) (dn : Bool) (L : List Lnk), k ≤ ps.length ∧ i = .int .i64 k ∧ d = .bool dn ∧ s = vs ∧ L.length ≤ 2 * k ∧ Hid (Stab.rins Lnk.lt _root_.id Lnk.one x false ps = L ++ Stab.rins Lnk.lt _root_.id Lnk.one x dn (ps.drop k)) ∧ Loc w NoM wr [var g3 [.int .i64 x.id.boot, .int .i64 x.id.n, .int .i64 x.node.boot, .int .i64 x.node.n, .int .i64 x.at_.boot, .int .i64 x.at_.n, .int .i64 x.parent.boot, .int .i64 x.parent.n, .string x.name, .int .i64 x.alive.a0, .int .i64 x.alive.a1, .int .i64 x.alive.a2, .int .i64 x.alive.a3, .int .i64 x.alive.a4, .int .i64 x.alive.a5, .int .i64 x.alive.a6, .int .i64 x.alive.a7, .int .i64 x.dead.a0, .int .i64 x.dead.a1, .int .i64 x.dead.a2, .int .i64 x.dead.a3, .int .i64 x.dead.a4, .int .i64 x.dead.a5, .int .i64 x.dead.a6, .int .i64 x.dead.a7] 46, row encK w.heap.size 46 vs L]) (fun _ _ i _ => ps.length - (intOf i).toNat)
  case atStart => exact ⟨0, _, false, [], by omega, rfl, rfl, rfl, by simp, Lib.hid (Stab.ins_start _ _ _ _), hL⟩
  case round =>
    clear hL
    obtain ⟨k, vs, dn, L, hk, rfl, rfl, rfl, hlen, HS, hL⟩ := hrel
    by_cases hlt : k < ps.length
    · obtain ⟨g, off, rfl, hr⟩ := hel k hlt
      have hzp := Lib.hid (HZ.out _ (List.getElem_mem hlt))
      have HE1 := Lib.hid (fun h => Stab.ins_same HS.out hlt h)
      have HE2 := Lib.hid (fun h e => Stab.ins_newI (dn_false e HS.out) hlt h)
      have HE3 := Lib.hid (fun h => Stab.ins_skip HS.out hlt h)
      have hrW0 : World.rangeAt _ g (off + k * 25) (Lnk.cells ps[k]) := range_below hr hL.below
      clear hr
      generalize ps[k] = p at *
      have hrW : World.rangeAt _ g (off + k * 25) [.int .i64 p.id.boot, .int .i64 p.id.n, .int .i64 p.node.boot, .int .i64 p.node.n, .int .i64 p.at_.boot, .int .i64 p.at_.n, .int .i64 p.parent.boot, .int .i64 p.parent.n, .string p.name, .int .i64 p.alive.a0, .int .i64 p.alive.a1, .int .i64 p.alive.a2, .int .i64 p.alive.a3, .int .i64 p.alive.a4, .int .i64 p.alive.a5, .int .i64 p.alive.a6, .int .i64 p.alive.a7, .int .i64 p.dead.a0, .int .i64 p.dead.a1, .int .i64 p.dead.a2, .int .i64 p.dead.a3, .int .i64 p.dead.a4, .int .i64 p.dead.a5, .int .i64 p.dead.a6, .int .i64 p.dead.a7] := hrW0
      clear hrW0
      by_cases h1 : p.id = x.id
      · have q1 := stampE p.id x.id (decide_eq_true h1)
        have HP := Lib.hid (fun wx => ref11_link1 p x wx hzp.out HX.out)
        have HS2 := HE1.out (Lnk.eqv_iff.2 h1)
        have HS3 := Lib.hid HS2
        clear HS HE1 HE2 HE3 HS2 h1
        go_wp2_with (first
          | ((with_reducible refine qF rfl rfl ?_); refine lL rfl rfl rfl rfl hlt ?_) | ((with_reducible refine gate (N := 14) rfl ?_); refine lK rfl rfl rfl hrW (by rfl) ?_) | ((with_reducible refine gate (N := 8) rfl ?_); (refine lI rfl hL rfl cy ?_; clear hL; intro g8 w8 hL))
          | (go_at_call 104; (with_reducible refine (HP.out _).mono ?_); rintro e w5 ⟨⟨c, ec, rfl⟩, hb5⟩; have HC := Lib.hid ec; clear ec; have hL := hL.call hb5; clear hb5)
          | ((with_reducible refine gate (N := 38) rfl ?_); refine lM (cs := [.int .i64 c.id.boot, .int .i64 c.id.n, .int .i64 c.node.boot, .int .i64 c.node.n, .int .i64 c.at_.boot, .int .i64 c.at_.n, .int .i64 c.parent.boot, .int .i64 c.parent.n, .string c.name, .int .i64 c.alive.a0, .int .i64 c.alive.a1, .int .i64 c.alive.a2, .int .i64 c.alive.a3, .int .i64 c.alive.a4, .int .i64 c.alive.a5, .int .i64 c.alive.a6, .int .i64 c.alive.a7, .int .i64 c.dead.a0, .int .i64 c.dead.a1, .int .i64 c.dead.a2, .int .i64 c.dead.a3, .int .i64 c.dead.a4, .int .i64 c.dead.a5, .int .i64 c.dead.a6, .int .i64 c.dead.a7]) rfl hL rfl rfl rfl (by kernel_rfl) ?_; clear hL; intro gq wq hL)
          | ((with_reducible refine gate (N := 39) rfl ?_); refine ev_app1L (E := encK) c rfl hL rfl rfl rfl mx (fun _ => sx) rfl rfl rfl (by first | omega | (simp; omega)) hL.size ?_; clear hL; intro ao' c' wq hL)
          | ((with_reducible refine qB rfl rfl ?_); (first | (refine lA rfl hL rfl rfl HasV.mem (by rfl) ?_) | (refine lF rfl hL rfl rfl HasV.mem SegC.seg ?_))) | ((with_reducible refine qC rfl rfl ?_); (refine lH rfl hL rfl rfl rfl cy (by rfl) ?_); clear hL; intro wq hL))
        have HS2 := Lib.hid HS3.out
        rw [← HC.out] at HS2
        go_roundw
        case rel => exact ⟨k + 1, _, true, _, by omega, by go_num, rfl, rfl, by simp; omega, HS2, hL.sub (by repeat (first | exact List.nil_sublist _ | with_reducible apply List.Sublist.cons_cons | with_reducible apply List.Sublist.cons))⟩
        case measure => simp [intOf]; omega
      · have q1 := stampE p.id x.id (decide_eq_false h1)
        cases dn
        · by_cases h2 : x.id.lss p.id
          · have HQ := Lib.hid (fun wx => ref09_less x.id p.id wx); rw [Mk.lssB_true h2] at HQ
            have HS2 := Lib.hid (HE2.out (Lnk.eqv_false h1) rfl ((Lnk.lt_iff _ _).2 h2))
            clear HS HE1 HE2 HE3 h1 h2
            go_wp2_with (first
              | ((with_reducible refine qF rfl rfl ?_); refine lL rfl rfl rfl rfl hlt ?_) | ((with_reducible refine gate (N := 14) rfl ?_); refine lK rfl rfl rfl hrW (by rfl) ?_) | ((with_reducible refine gate (N := 8) rfl ?_); (refine lI rfl hL rfl cy ?_; clear hL; intro g8 w8 hL))
              | (go_at_call 103; (with_reducible refine (HQ.out _).mono ?_); rintro e w5 ⟨rfl, hb5⟩; have hL := hL.call hb5; clear hb5)
              | ((with_reducible refine gate (N := 34) rfl ?_); refine lM (cs := [.int .i64 x.id.boot, .int .i64 x.id.n, .int .i64 x.node.boot, .int .i64 x.node.n, .int .i64 x.at_.boot, .int .i64 x.at_.n, .int .i64 x.parent.boot, .int .i64 x.parent.n, .string x.name, .int .i64 x.alive.a0, .int .i64 x.alive.a1, .int .i64 x.alive.a2, .int .i64 x.alive.a3, .int .i64 x.alive.a4, .int .i64 x.alive.a5, .int .i64 x.alive.a6, .int .i64 x.alive.a7, .int .i64 x.dead.a0, .int .i64 x.dead.a1, .int .i64 x.dead.a2, .int .i64 x.dead.a3, .int .i64 x.dead.a4, .int .i64 x.dead.a5, .int .i64 x.dead.a6, .int .i64 x.dead.a7]) rfl hL rfl rfl rfl (by kernel_rfl) ?_; clear hL; intro gq wq hL)
              | ((with_reducible refine gate (N := 35) rfl ?_); refine ev_app1L (E := encK) x rfl hL rfl rfl rfl mx (fun _ => sx) rfl rfl rfl (by first | omega | (simp; omega)) hL.size ?_; clear hL; intro ao' c' wq hL)
              | ((with_reducible refine gate (N := 38) rfl ?_); refine lM (cs := [.int .i64 p.id.boot, .int .i64 p.id.n, .int .i64 p.node.boot, .int .i64 p.node.n, .int .i64 p.at_.boot, .int .i64 p.at_.n, .int .i64 p.parent.boot, .int .i64 p.parent.n, .string p.name, .int .i64 p.alive.a0, .int .i64 p.alive.a1, .int .i64 p.alive.a2, .int .i64 p.alive.a3, .int .i64 p.alive.a4, .int .i64 p.alive.a5, .int .i64 p.alive.a6, .int .i64 p.alive.a7, .int .i64 p.dead.a0, .int .i64 p.dead.a1, .int .i64 p.dead.a2, .int .i64 p.dead.a3, .int .i64 p.dead.a4, .int .i64 p.dead.a5, .int .i64 p.dead.a6, .int .i64 p.dead.a7]) rfl hL rfl rfl rfl (by kernel_rfl) ?_; clear hL; intro gq wq hL)
              | ((with_reducible refine gate (N := 39) rfl ?_); refine ev_app1L (E := encK) p rfl hL rfl rfl rfl mx (fun _ => sx) rfl rfl rfl (by first | omega | (simp; omega)) hL.size ?_; clear hL; intro ao' c' wq hL)
              | ((with_reducible refine qB rfl rfl ?_); (first | (refine lA rfl hL rfl rfl HasV.mem (by rfl) ?_) | (refine lF rfl hL rfl rfl HasV.mem SegC.seg ?_))) | ((with_reducible refine qC rfl rfl ?_); (refine lH rfl hL rfl rfl rfl cy (by rfl) ?_); clear hL; intro wq hL) | ((with_reducible refine qA rfl rfl ?_ ?_); (exact wz rfl rfl rfl (by with_reducible rfl)); (refine lE (wz rfl rfl rfl rfl) hL rfl rfl HasV.mem SegC.seg ?_)))
            simp only [List.length_append, List.length_singleton] at hL
            go_roundw
            case rel => exact ⟨k + 1, _, true, _, by omega, by go_num, rfl, rfl, by simp; omega, HS2, hL.sub (by repeat (first | exact List.nil_sublist _ | with_reducible apply List.Sublist.cons_cons | with_reducible apply List.Sublist.cons))⟩
            case measure => simp [intOf]; omega
          · have HQ := Lib.hid (fun wx => ref09_less x.id p.id wx); rw [Mk.lssB_not h2] at HQ
            have HS2 := Lib.hid (HE3.out (Lnk.eqv_false h1) (.inr (Lnk.lt_false h2)))
            clear HS HE1 HE2 HE3 h1 h2
            go_wp2_with (first
              | ((with_reducible refine qF rfl rfl ?_); refine lL rfl rfl rfl rfl hlt ?_) | ((with_reducible refine gate (N := 14) rfl ?_); refine lK rfl rfl rfl hrW (by rfl) ?_) | ((with_reducible refine gate (N := 8) rfl ?_); (refine lI rfl hL rfl cy ?_; clear hL; intro g8 w8 hL))
              | (go_at_call 103; (with_reducible refine (HQ.out _).mono ?_); rintro e w5 ⟨rfl, hb5⟩; have hL := hL.call hb5; clear hb5)
              | ((with_reducible refine gate (N := 38) rfl ?_); refine lM (cs := [.int .i64 p.id.boot, .int .i64 p.id.n, .int .i64 p.node.boot, .int .i64 p.node.n, .int .i64 p.at_.boot, .int .i64 p.at_.n, .int .i64 p.parent.boot, .int .i64 p.parent.n, .string p.name, .int .i64 p.alive.a0, .int .i64 p.alive.a1, .int .i64 p.alive.a2, .int .i64 p.alive.a3, .int .i64 p.alive.a4, .int .i64 p.alive.a5, .int .i64 p.alive.a6, .int .i64 p.alive.a7, .int .i64 p.dead.a0, .int .i64 p.dead.a1, .int .i64 p.dead.a2, .int .i64 p.dead.a3, .int .i64 p.dead.a4, .int .i64 p.dead.a5, .int .i64 p.dead.a6, .int .i64 p.dead.a7]) rfl hL rfl rfl rfl (by kernel_rfl) ?_; clear hL; intro gq wq hL)
              | ((with_reducible refine gate (N := 39) rfl ?_); refine ev_app1L (E := encK) p rfl hL rfl rfl rfl mx (fun _ => sx) rfl rfl rfl (by first | omega | (simp; omega)) hL.size ?_; clear hL; intro ao' c' wq hL)
              | ((with_reducible refine qB rfl rfl ?_); (first | (refine lA rfl hL rfl rfl HasV.mem (by rfl) ?_) | (refine lF rfl hL rfl rfl HasV.mem SegC.seg ?_))) | ((with_reducible refine qC rfl rfl ?_); (refine lH rfl hL rfl rfl rfl cy (by rfl) ?_); clear hL; intro wq hL) | ((with_reducible refine qA rfl rfl ?_ ?_); (exact wz rfl rfl rfl (by with_reducible rfl)); (refine lE (wz rfl rfl rfl rfl) hL rfl rfl HasV.mem SegC.seg ?_)))
            go_roundw
            case rel => exact ⟨k + 1, _, false, _, by omega, by go_num, rfl, rfl, by simp; omega, HS2, hL.sub (by repeat (first | exact List.nil_sublist _ | with_reducible apply List.Sublist.cons_cons | with_reducible apply List.Sublist.cons))⟩
            case measure => simp [intOf]; omega
        · have HS2 := Lib.hid (HE3.out (Lnk.eqv_false h1) (.inl rfl))
          clear HS HE1 HE2 HE3 h1
          go_wp2_with (first
            | ((with_reducible refine qF rfl rfl ?_); refine lL rfl rfl rfl rfl hlt ?_) | ((with_reducible refine gate (N := 14) rfl ?_); refine lK rfl rfl rfl hrW (by rfl) ?_) | ((with_reducible refine gate (N := 8) rfl ?_); (refine lI rfl hL rfl cy ?_; clear hL; intro g8 w8 hL))
            | ((with_reducible refine gate (N := 38) rfl ?_); refine lM (cs := [.int .i64 p.id.boot, .int .i64 p.id.n, .int .i64 p.node.boot, .int .i64 p.node.n, .int .i64 p.at_.boot, .int .i64 p.at_.n, .int .i64 p.parent.boot, .int .i64 p.parent.n, .string p.name, .int .i64 p.alive.a0, .int .i64 p.alive.a1, .int .i64 p.alive.a2, .int .i64 p.alive.a3, .int .i64 p.alive.a4, .int .i64 p.alive.a5, .int .i64 p.alive.a6, .int .i64 p.alive.a7, .int .i64 p.dead.a0, .int .i64 p.dead.a1, .int .i64 p.dead.a2, .int .i64 p.dead.a3, .int .i64 p.dead.a4, .int .i64 p.dead.a5, .int .i64 p.dead.a6, .int .i64 p.dead.a7]) rfl hL rfl rfl rfl (by kernel_rfl) ?_; clear hL; intro gq wq hL)
            | ((with_reducible refine gate (N := 39) rfl ?_); refine ev_app1L (E := encK) p rfl hL rfl rfl rfl mx (fun _ => sx) rfl rfl rfl (by first | omega | (simp; omega)) hL.size ?_; clear hL; intro ao' c' wq hL)
            | ((with_reducible refine qB rfl rfl ?_); (first | (refine lA rfl hL rfl rfl HasV.mem (by rfl) ?_) | (refine lF rfl hL rfl rfl HasV.mem SegC.seg ?_))) | ((with_reducible refine qC rfl rfl ?_); (refine lH rfl hL rfl rfl rfl cy (by rfl) ?_); clear hL; intro wq hL))
          go_roundw
          case rel => exact ⟨k + 1, _, true, _, by omega, by go_num, rfl, rfl, by simp; omega, HS2, hL.sub (by repeat (first | exact List.nil_sublist _ | with_reducible apply List.Sublist.cons_cons | with_reducible apply List.Sublist.cons))⟩
          case measure => simp [intOf]; omega
    · cases dn
      · have HB := Lib.hid (Stab.ins_lastI HS.out (by omega))
        clear HS
        have hk0 : ¬ k < ps.length := hlt
        go_wp2_with (first
          | ((with_reducible refine qF rfl rfl ?_); refine lL rfl rfl rfl rfl hlt ?_) | ((with_reducible refine gate (N := 14) rfl ?_); refine lK rfl rfl rfl hrW (by rfl) ?_) | ((with_reducible refine gate (N := 8) rfl ?_); (refine lI rfl hL rfl cy ?_; clear hL; intro g8 w8 hL))
          | ((with_reducible refine gate (N := 45) rfl ?_); refine lM (cs := [.int .i64 x.id.boot, .int .i64 x.id.n, .int .i64 x.node.boot, .int .i64 x.node.n, .int .i64 x.at_.boot, .int .i64 x.at_.n, .int .i64 x.parent.boot, .int .i64 x.parent.n, .string x.name, .int .i64 x.alive.a0, .int .i64 x.alive.a1, .int .i64 x.alive.a2, .int .i64 x.alive.a3, .int .i64 x.alive.a4, .int .i64 x.alive.a5, .int .i64 x.alive.a6, .int .i64 x.alive.a7, .int .i64 x.dead.a0, .int .i64 x.dead.a1, .int .i64 x.dead.a2, .int .i64 x.dead.a3, .int .i64 x.dead.a4, .int .i64 x.dead.a5, .int .i64 x.dead.a6, .int .i64 x.dead.a7]) rfl hL rfl rfl rfl (by kernel_rfl) ?_; clear hL; intro gq wq hL)
          | ((with_reducible refine gate (N := 46) rfl ?_); refine ev_app1L (E := encK) x rfl hL rfl rfl rfl mx (fun _ => sx) rfl rfl rfl (by first | omega | (simp; omega)) hL.size ?_; clear hL; intro ao' c' wq hL)
          | ((with_reducible refine qB rfl rfl ?_); (refine lA rfl hL rfl rfl HasV.mem (by rfl) ?_)))
        go_ret
        exact ⟨_, rfl, by rw [HB.out]; exact hL.sub (by repeat (first | exact List.nil_sublist _ | apply List.Sublist.cons_cons | apply List.Sublist.cons))⟩
      · have HB := Lib.hid (Stab.ins_done HS.out (by omega))
        clear HS
        have hk0 : ¬ k < ps.length := hlt
        go_wp2_with fail
        go_ret
        exact ⟨_, rfl, by rw [HB.out]; exact hL.sub (by repeat (first | exact List.nil_sublist _ | apply List.Sublist.cons_cons | apply List.Sublist.cons))⟩
end Go.Proofs.YtebpacmhdkgfeaaGreat

namespace Go.Proofs.YtebpacmhdkgfeaaGreat
open Go.RowKit
set_option maxHeartbeats 16000000
set_option maxRecDepth 20000
section
variable {P : Program} {ops : Array Oper} {rest : List Oper} {o : Oper} {a : Act} {Q : Exit → Act → World → Prop} {W : World}
theorem ev_maxI {x y : Operand} {ats : Array TypeId} {m n : Int} (hg : o.guard = none) (ho : o.op = .call { callee := .builtin .max, args := #[x, y], argTypes := ats }) (hx : a.eval x = .int .i64 m) (hy : a.eval y = .int .i64 n) (h : wpList Tryz.prog ops Q rest (a.put o.dst (.int .i64 (imax m n))) W) : wpList Tryz.prog ops Q (o :: rest) a W :=
  event hg (v := .int .i64 (imax m n)) (w1 := W) (by simp [execOp, ho, resolve, invoke, builtin, hx, hy, run_maxI]) h
end
theorem listed_step (P l : List Pce) (k : Nat) (hk : k < l.length) : listedD (P ++ l.take (k + 1)) = Stab.rins Pce.lt _root_.id Pce.top l[k] false (listedD (P ++ l.take k)) := by
  rw [← List.take_append_getElem hk, ← List.append_assoc]
  exact Stab.rfold_snoc _ _ _ _
theorem named_step (P l : List Xat) (k : Nat) (hk : k < l.length) : namedD (P ++ l.take (k + 1)) = Stab.rins Xat.lt _root_.id Xat.top l[k] false (namedD (P ++ l.take k)) := by
  rw [← List.take_append_getElem hk, ← List.append_assoc]
  exact Stab.rfold_snoc _ _ _ _
theorem listed_part {P l : List Pce} {k N : Nat} (h : P.length + l.length ≤ N) : (listedD (P ++ l.take k)).length ≤ N := by
  have := listed_len (P ++ l.take k)
  rw [List.length_append, List.length_take] at this
  omega
theorem named_part {P l : List Xat} {k N : Nat} (h : P.length + l.length ≤ N) : (namedD (P ++ l.take k)).length ≤ N := by
  have := named_len (P ++ l.take k)
  rw [List.length_append, List.length_take] at this
  omega
theorem listed_partZ {P l : List Pce} {k : Nat} (h : ∀ p ∈ P, p.Z) (h' : ∀ p ∈ l, p.Z) : ∀ p ∈ listedD (P ++ l.take k), p.Z := listed_Z fun p hp => (List.mem_append.1 hp).elim (h p) fun hp => h' p (List.mem_of_mem_take hp)
theorem named_partZ {P l : List Xat} {k : Nat} (h : ∀ p ∈ P, p.Z) (h' : ∀ p ∈ l, p.Z) : ∀ p ∈ namedD (P ++ l.take k), p.Z := named_Z fun p hp => (List.mem_append.1 hp).elim (h p) fun hp => h' p (List.mem_of_mem_take hp)
theorem ref11_node2 (a b : Ino) (da db : InoD) (w : World) (hoa : a.Ok w da) (hob : b.Ok w db) (hp : da.ps.length + db.ps.length ≤ 100000000) (hx : da.xs.length + db.xs.length ≤ 100000000) (hza : da.Z) (hzb : db.Z) :
    Calls Tryz.prog 102 #[.agg (Ino.cells a).toArray, .agg (Ino.cells b).toArray] w fun e w' => ∃ c : Ino, e = .returned (.agg (Ino.cells c).toArray) ∧ c.hd = (da.one db).hd ∧
      Loc w NoM w' [row encPc w.heap.size 61 c.p.val (da.one db).ps, row encXt w.heap.size 64 c.x.val (da.one db).xs] := by
  have hL := Loc.nil w NoM
  obtain ⟨ha, ⟨a1, n1, c1⟩, ⟨a2, n2, c2⟩⟩ := a
  obtain ⟨hb, ⟨b1, m1, e1⟩, ⟨b2, m2, e2⟩⟩ := b
  obtain ⟨ha', pa, xa⟩ := da
  obtain ⟨hb', pb, xb⟩ := db
  obtain ⟨h1, HPA, HXA⟩ := hoa
  obtain ⟨h2, HPB, HXB⟩ := hob
  obtain ⟨zt1, zp1, zx1⟩ := hza
  obtain ⟨zt2, zp2, zx2⟩ := hzb
  simp only at h1 h2 HPA HXA HPB HXB hp hx zt1 zp1 zx1 zt2 zp2 zx2
  subst h1 h2
  have ZP1 := Lib.hid zp1; have ZP2 := Lib.hid zp2; have ZX1 := Lib.hid zx1; have ZX2 := Lib.hid zx2
  have HN1 := Lib.hid hp; have HN2 := Lib.hid hx
  obtain ⟨qa1, ca1, ea1, hpa⟩ := R_elem HPA
  obtain ⟨qa2, ca2, ea2, hxa⟩ := R_elem HXA
  obtain ⟨qb1, cb1, eb1, hpb⟩ := R_elem HPB
  obtain ⟨qb2, cb2, eb2, hxb⟩ := R_elem HXB
  unfold Sl.val at ea1 ea2 eb1 eb2
  injection ea1 with i1 i2 i3
  injection ea2 with j1 j2 j3
  injection eb1 with k1 k2 k3
  injection eb2 with l1 l2 l3
  subst i1 i2 i3 j1 j2 j3 k1 k2 k3 l1 l2 l3
  clear HPA HXA HPB HXB zp1 zp2 zx1 zx2 hp hx
  have hga := Lib.hid (fun wx => ref11_attr ha.attr hb.attr wx)
  have hgs := Lib.hid (fun wx => ref11_size ha.size hb.size wx)
  have hls := Lib.hid (fun wx => ref01_less ha.text hb.text wx zt1 zt2)
  have HO : Hid (∀ (k : Int) (t : ByteArray) (at_ : Atr) (sz : Siz), k = imax ha.kind hb.kind → t = smax ha.text hb.text → at_ = ha.attr.top hb.attr → sz = ha.size.top hb.size → (⟨ha.id, k, t, at_, sz⟩ : IHd) = (InoD.one ⟨ha, pa, xa⟩ ⟨hb, pb, xb⟩).hd) := Lib.hid (by rintro k t at_ sz rfl rfl rfl rfl; rfl)
  have HPP : Hid ((InoD.one ⟨ha, pa, xa⟩ ⟨hb, pb, xb⟩).ps = listedD (pa ++ pb)) := Lib.hid rfl
  have HXX : Hid ((InoD.one ⟨ha, pa, xa⟩ ⟨hb, pb, xb⟩).xs = namedD (xa ++ xb)) := Lib.hid rfl
  generalize InoD.one ⟨ha, pa, xa⟩ ⟨hb, pb, xb⟩ = d at *
  clear zt1 zt2
  unfold Ino.cells
  simp only
  replace hpa : ∀ (i : Nat) (hi : i < pa.length), ∃ g off, a1 = some ⟨g, off, none⟩ ∧ w.rangeAt g (off + i * 4) (Pce.cells pa[i]) := hpa
  replace hxa : ∀ (i : Nat) (hi : i < xa.length), ∃ g off, a2 = some ⟨g, off, none⟩ ∧ w.rangeAt g (off + i * 5) (Xat.cells xa[i]) := hxa
  replace hpb : ∀ (i : Nat) (hi : i < pb.length), ∃ g off, b1 = some ⟨g, off, none⟩ ∧ w.rangeAt g (off + i * 4) (Pce.cells pb[i]) := hpb
  replace hxb : ∀ (i : Nat) (hi : i < xb.length), ∃ g off, b2 = some ⟨g, off, none⟩ ∧ w.rangeAt g (off + i * 5) (Xat.cells xb[i]) := hxb
  obtain ⟨r, hr⟩ : ∃ r, slt ha.text hb.text = r := ⟨_, rfl⟩
  rw [hr] at hls
  cases r
  · have HTT : Hid (ha.text = smax ha.text hb.text) := Lib.hid (by unfold smax; rw [hr]; rfl)
    clear hr
    go_enter Tryz.func102, Tryz.ntmps102
    go_wp2_with (first
      | ((with_reducible refine gate (N := 2) rfl ?_); (refine lJ rfl hL rfl rfl cy ?_; clear hL; intro g2 w2 hL)) | ((with_reducible refine gate (N := 3) rfl ?_); (refine lJ rfl hL rfl rfl cy ?_; clear hL; intro g3 w3 hL)) | ((with_reducible refine gate (N := 4) rfl ?_); (refine lI rfl hL rfl cy ?_; clear hL; intro g4 w4 hL)) | ((with_reducible refine gate (N := 5) rfl ?_); (refine lI rfl hL rfl cy ?_; clear hL; intro g5 w5 hL))
      | ((with_reducible refine gate (N := 20) rfl ?_); refine ev_maxI rfl rfl rfl rfl ?_)
      | (go_at_call 170; (with_reducible refine (hls.out _).mono ?_); rintro e w13 ⟨rfl, hb13⟩; have hL := hL.call hb13; clear hb13)
      | (go_at_call 171; (with_reducible refine (hga.out _).mono ?_); rintro e w14 ⟨⟨ca, eca, rfl⟩, hb14⟩; have HCA := Lib.hid eca; clear eca; have hL := hL.call hb14; clear hb14)
      | (go_at_call 172; (with_reducible refine (hgs.out _).mono ?_); rintro e w15 ⟨⟨cs, ecs, rfl⟩, hb15⟩; have HCS := Lib.hid ecs; clear ecs; have hL := hL.call hb15; clear hb15)
      | ((with_reducible refine qB rfl rfl ?_); (first | (refine lC rfl hL rfl rfl HasV.mem (by rfl) ?_) | (refine lF rfl hL rfl rfl HasV.mem SegC.seg ?_))) | ((with_reducible refine qC rfl rfl ?_); (refine lH rfl hL rfl rfl rfl cy (by rfl) ?_); clear hL; intro wq hL))
    go_loopw [47] (fun i wr => ∃ (k : Nat) (s : Sl) (T : ByteArray), k ≤ pa.length ∧ i = .int .i64 k ∧ Hid (T = smax ha.text hb.text) ∧ Loc w NoM wr [row encPc w.heap.size 61 s.val (listedD (([] : List Pce) ++ pa.take k)), row encXt w.heap.size 64 (.slice none 0 0) [], var g5 [.int .i64 ha.id.boot, .int .i64 ha.id.n, .int .i64 (imax ha.kind hb.kind), .string T, .int .i64 ca.at_.boot, .int .i64 ca.at_.n, .int .i64 ca.mode, .int .u64 ca.time, .int .i64 cs.at_.boot, .int .i64 cs.at_.n, .int .i64 cs.n, .slice s.a s.n s.c, .slice none 0 0] 58, var g4 [.int .i64 0, .int .i64 0, .int .i64 0, .string ByteArray.empty, .int .i64 0, .int .i64 0, .int .i64 0, .int .u64 0, .int .i64 0, .int .i64 0, .int .i64 0, .slice none 0 0, .slice none 0 0] 58, var g3 [.int .i64 hb.id.boot, .int .i64 hb.id.n, .int .i64 hb.kind, .string hb.text, .int .i64 hb.attr.at_.boot, .int .i64 hb.attr.at_.n, .int .i64 hb.attr.mode, .int .u64 hb.attr.time, .int .i64 hb.size.at_.boot, .int .i64 hb.size.at_.n, .int .i64 hb.size.n, .slice b1 pb.length e1, .slice b2 xb.length e2] 58, var g2 [.int .i64 ha.id.boot, .int .i64 ha.id.n, .int .i64 ha.kind, .string ha.text, .int .i64 ha.attr.at_.boot, .int .i64 ha.attr.at_.n, .int .i64 ha.attr.mode, .int .u64 ha.attr.time, .int .i64 ha.size.at_.boot, .int .i64 ha.size.at_.n, .int .i64 ha.size.n, .slice a1 pa.length c1, .slice a2 xa.length c2] 58]) (fun i _ => pa.length - (intOf i).toNat)
    case atStart => exact ⟨0, ⟨none, 0, 0⟩, _, by omega, rfl, HTT, (hL.rowOff encXt w.heap.size 64).rowOff encPc w.heap.size 61⟩
    case round =>
      clear hL
      obtain ⟨k, s, T, hk, rfl, HT, hL⟩ := hrel
      by_cases hlt : k < pa.length
      · obtain ⟨g, off, rfl, hr⟩ := hpa k hlt
        have hzp := Lib.hid (ZP1.out _ (List.getElem_mem hlt))
        have HS := Lib.hid (listed_step ([] : List Pce) pa k hlt)
        have hbn : pa.length ≤ 100000000 := by have := HN1.out; omega
        have hln : (listedD (([] : List Pce) ++ pa.take k)).length ≤ 100000000 := listed_part (by have := HN1.out; (try simp only [List.length_nil]); omega)
        have hlz := Lib.hid (listed_partZ (P := ([] : List Pce)) (l := pa) (k := k) (by simp) ZP1.out)
        have hrW0 : World.rangeAt _ g (off + k * 4) (Pce.cells pa[k]) := range_below hr hL.below
        clear hr
        generalize pa[k] = p at *
        generalize listedD (([] : List Pce) ++ pa.take k) = L at *
        have hrW : World.rangeAt _ g (off + k * 4) [.int .i64 p.idx, .int .i64 p.at_.boot, .int .i64 p.at_.n, .string p.data] := hrW0
        clear hrW0
        go_wp2_with (first
          | ((with_reducible refine qF rfl rfl ?_); refine lL rfl rfl rfl rfl hlt ?_) | ((with_reducible refine gate (N := 50) rfl ?_); refine lK rfl rfl rfl hrW (by rfl) ?_) | ((with_reducible refine gate (N := 7) rfl ?_); (refine lI rfl hL rfl cy ?_; clear hL; intro g7 w7 hL))
          | (go_at_call 173; have hq := ref11_put (.slice s.a s.n s.c) L p _ (hL.own (E := encPc) (base := w.heap.size) (e := 61) (v := s.val) (xs := L) mx).read hlz.out hzp.out (Nat.le_trans hln (by decide)); (refine hq.mono ?_); rintro e w5 ⟨u, rfl, hL5⟩; clear hq; obtain ⟨ua, uc, rfl, -⟩ := R_elem (hL5.own (.head _)).read; replace hL := hL.takeRow hL5; clear hL5)
          | ((with_reducible refine qB rfl rfl ?_); (first | (refine lC rfl hL rfl rfl HasV.mem (by rfl) ?_) | (refine lA rfl hL rfl rfl HasV.mem (by rfl) ?_))) | ((with_reducible refine qC rfl rfl ?_); (refine lH rfl hL rfl rfl rfl cy (by rfl) ?_); clear hL; intro wq hL))
        go_roundw
        case rel => exact ⟨k + 1, ⟨ua, _, uc⟩, T, by omega, by go_num, HT, by rw [HS.out]; exact hL.sub (by repeat (first | exact List.nil_sublist _ | apply List.Sublist.cons_cons | apply List.Sublist.cons))⟩
        case measure => simp [intOf]; omega
      · obtain rfl : k = pa.length := by omega
        rw [List.take_length, List.nil_append] at hL
        obtain ⟨sp, hsp⟩ : ∃ q, q = s := ⟨_, rfl⟩
        subst hsp
        clear hlt hk
        go_wp2_with (first | ((with_reducible refine qB rfl rfl ?_); (refine lC rfl hL rfl rfl HasV.mem (by rfl) ?_)))
        go_loopw [60] (fun i wr => ∃ (k : Nat) (s : Sl), k ≤ pb.length ∧ i = .int .i64 k ∧ Loc w NoM wr [row encPc w.heap.size 61 s.val (listedD (pa ++ pb.take k)), row encXt w.heap.size 64 (.slice none 0 0) [], var g5 [.int .i64 ha.id.boot, .int .i64 ha.id.n, .int .i64 (imax ha.kind hb.kind), .string T, .int .i64 ca.at_.boot, .int .i64 ca.at_.n, .int .i64 ca.mode, .int .u64 ca.time, .int .i64 cs.at_.boot, .int .i64 cs.at_.n, .int .i64 cs.n, .slice s.a s.n s.c, .slice none 0 0] 58, var g4 [.int .i64 0, .int .i64 0, .int .i64 0, .string ByteArray.empty, .int .i64 0, .int .i64 0, .int .i64 0, .int .u64 0, .int .i64 0, .int .i64 0, .int .i64 0, .slice none 0 0, .slice none 0 0] 58, var g3 [.int .i64 hb.id.boot, .int .i64 hb.id.n, .int .i64 hb.kind, .string hb.text, .int .i64 hb.attr.at_.boot, .int .i64 hb.attr.at_.n, .int .i64 hb.attr.mode, .int .u64 hb.attr.time, .int .i64 hb.size.at_.boot, .int .i64 hb.size.at_.n, .int .i64 hb.size.n, .slice b1 pb.length e1, .slice b2 xb.length e2] 58, var g2 [.int .i64 ha.id.boot, .int .i64 ha.id.n, .int .i64 ha.kind, .string ha.text, .int .i64 ha.attr.at_.boot, .int .i64 ha.attr.at_.n, .int .i64 ha.attr.mode, .int .u64 ha.attr.time, .int .i64 ha.size.at_.boot, .int .i64 ha.size.at_.n, .int .i64 ha.size.n, .slice a1 pa.length c1, .slice a2 xa.length c2] 58]) (fun i _ => pb.length - (intOf i).toNat)
        case atStart => exact ⟨0, sp, by omega, rfl, by rw [List.take_zero, List.append_nil]; exact hL⟩
        case round =>
          clear hL
          obtain ⟨k, s, hk, rfl, hL⟩ := hrel
          by_cases hlt : k < pb.length
          · obtain ⟨g, off, rfl, hr⟩ := hpb k hlt
            have hzp := Lib.hid (ZP2.out _ (List.getElem_mem hlt))
            have HS := Lib.hid (listed_step pa pb k hlt)
            have hbn : pb.length ≤ 100000000 := by have := HN1.out; omega
            have hln : (listedD (pa ++ pb.take k)).length ≤ 100000000 := listed_part (by have := HN1.out; (try simp only [List.length_nil]); omega)
            have hlz := Lib.hid (listed_partZ (P := pa) (l := pb) (k := k) ZP1.out ZP2.out)
            have hrW0 : World.rangeAt _ g (off + k * 4) (Pce.cells pb[k]) := range_below hr hL.below
            clear hr
            generalize pb[k] = p at *
            generalize listedD (pa ++ pb.take k) = L at *
            have hrW : World.rangeAt _ g (off + k * 4) [.int .i64 p.idx, .int .i64 p.at_.boot, .int .i64 p.at_.n, .string p.data] := hrW0
            clear hrW0
            go_wp2_with (first
              | ((with_reducible refine qF rfl rfl ?_); refine lL rfl rfl rfl rfl hlt ?_) | ((with_reducible refine gate (N := 63) rfl ?_); refine lK rfl rfl rfl hrW (by rfl) ?_) | ((with_reducible refine gate (N := 9) rfl ?_); (refine lI rfl hL rfl cy ?_; clear hL; intro g9 w9 hL))
              | (go_at_call 173; have hq := ref11_put (.slice s.a s.n s.c) L p _ (hL.own (E := encPc) (base := w.heap.size) (e := 61) (v := s.val) (xs := L) mx).read hlz.out hzp.out (Nat.le_trans hln (by decide)); (refine hq.mono ?_); rintro e w5 ⟨u, rfl, hL5⟩; clear hq; obtain ⟨ua, uc, rfl, -⟩ := R_elem (hL5.own (.head _)).read; replace hL := hL.takeRow hL5; clear hL5)
              | ((with_reducible refine qB rfl rfl ?_); (first | (refine lC rfl hL rfl rfl HasV.mem (by rfl) ?_) | (refine lA rfl hL rfl rfl HasV.mem (by rfl) ?_))) | ((with_reducible refine qC rfl rfl ?_); (refine lH rfl hL rfl rfl rfl cy (by rfl) ?_); clear hL; intro wq hL))
            go_roundw
            case rel => exact ⟨k + 1, ⟨ua, _, uc⟩, by omega, by go_num, by rw [HS.out]; exact hL.sub (by repeat (first | exact List.nil_sublist _ | apply List.Sublist.cons_cons | apply List.Sublist.cons))⟩
            case measure => simp [intOf]; omega
          · obtain rfl : k = pb.length := by omega
            rw [List.take_length] at hL
            obtain ⟨sp, hsp⟩ : ∃ q, q = s := ⟨_, rfl⟩
            subst hsp
            clear hlt hk
            go_wp2_with (first | ((with_reducible refine qB rfl rfl ?_); (refine lC rfl hL rfl rfl HasV.mem (by rfl) ?_)))
            go_loopw [73] (fun i wr => ∃ (k : Nat) (s : Sl), k ≤ xa.length ∧ i = .int .i64 k ∧ Loc w NoM wr [row encXt w.heap.size 64 s.val (namedD (([] : List Xat) ++ xa.take k)), row encPc w.heap.size 61 sp.val (listedD (pa ++ pb)), var g5 [.int .i64 ha.id.boot, .int .i64 ha.id.n, .int .i64 (imax ha.kind hb.kind), .string T, .int .i64 ca.at_.boot, .int .i64 ca.at_.n, .int .i64 ca.mode, .int .u64 ca.time, .int .i64 cs.at_.boot, .int .i64 cs.at_.n, .int .i64 cs.n, .slice sp.a sp.n sp.c, .slice s.a s.n s.c] 58, var g4 [.int .i64 0, .int .i64 0, .int .i64 0, .string ByteArray.empty, .int .i64 0, .int .i64 0, .int .i64 0, .int .u64 0, .int .i64 0, .int .i64 0, .int .i64 0, .slice none 0 0, .slice none 0 0] 58, var g3 [.int .i64 hb.id.boot, .int .i64 hb.id.n, .int .i64 hb.kind, .string hb.text, .int .i64 hb.attr.at_.boot, .int .i64 hb.attr.at_.n, .int .i64 hb.attr.mode, .int .u64 hb.attr.time, .int .i64 hb.size.at_.boot, .int .i64 hb.size.at_.n, .int .i64 hb.size.n, .slice b1 pb.length e1, .slice b2 xb.length e2] 58, var g2 [.int .i64 ha.id.boot, .int .i64 ha.id.n, .int .i64 ha.kind, .string ha.text, .int .i64 ha.attr.at_.boot, .int .i64 ha.attr.at_.n, .int .i64 ha.attr.mode, .int .u64 ha.attr.time, .int .i64 ha.size.at_.boot, .int .i64 ha.size.at_.n, .int .i64 ha.size.n, .slice a1 pa.length c1, .slice a2 xa.length c2] 58]) (fun i _ => xa.length - (intOf i).toNat)
            case atStart => exact ⟨0, ⟨none, 0, 0⟩, by omega, rfl, hL.comm⟩
            case round =>
              clear hL
              obtain ⟨k, s, hk, rfl, hL⟩ := hrel
              by_cases hlt : k < xa.length
              · obtain ⟨g, off, rfl, hr⟩ := hxa k hlt
                have hzp := Lib.hid (ZX1.out _ (List.getElem_mem hlt))
                have HS := Lib.hid (named_step ([] : List Xat) xa k hlt)
                have hbn : xa.length ≤ 100000000 := by have := HN2.out; omega
                have hln : (namedD (([] : List Xat) ++ xa.take k)).length ≤ 100000000 := named_part (by have := HN2.out; (try simp only [List.length_nil]); omega)
                have hlz := Lib.hid (named_partZ (P := ([] : List Xat)) (l := xa) (k := k) (by simp) ZX1.out)
                have hrW0 : World.rangeAt _ g (off + k * 5) (Xat.cells xa[k]) := range_below hr hL.below
                clear hr
                generalize xa[k] = p at *
                generalize namedD (([] : List Xat) ++ xa.take k) = L at *
                have hrW : World.rangeAt _ g (off + k * 5) [.string p.name, .int .i64 p.at_.boot, .int .i64 p.at_.n, .string p.val, .bool p.gone] := hrW0
                clear hrW0
                go_wp2_with (first
                  | ((with_reducible refine qF rfl rfl ?_); refine lL rfl rfl rfl rfl hlt ?_) | ((with_reducible refine gate (N := 76) rfl ?_); refine lK rfl rfl rfl hrW (by rfl) ?_) | ((with_reducible refine gate (N := 11) rfl ?_); (refine lI rfl hL rfl cy ?_; clear hL; intro g11 w11 hL))
                  | (go_at_call 174; have hq := ref11_name (.slice s.a s.n s.c) L p _ (hL.own (E := encXt) (base := w.heap.size) (e := 64) (v := s.val) (xs := L) mx).read hlz.out hzp.out (Nat.le_trans hln (by decide)); (refine hq.mono ?_); rintro e w5 ⟨u, rfl, hL5⟩; clear hq; obtain ⟨ua, uc, rfl, -⟩ := R_elem (hL5.own (.head _)).read; replace hL := hL.takeRow hL5; clear hL5)
                  | ((with_reducible refine qB rfl rfl ?_); (first | (refine lC rfl hL rfl rfl HasV.mem (by rfl) ?_) | (refine lA rfl hL rfl rfl HasV.mem (by rfl) ?_))) | ((with_reducible refine qC rfl rfl ?_); (refine lH rfl hL rfl rfl rfl cy (by rfl) ?_); clear hL; intro wq hL))
                go_roundw
                case rel => exact ⟨k + 1, ⟨ua, _, uc⟩, by omega, by go_num, by rw [HS.out]; exact hL.sub (by repeat (first | exact List.nil_sublist _ | apply List.Sublist.cons_cons | apply List.Sublist.cons))⟩
                case measure => simp [intOf]; omega
              · obtain rfl : k = xa.length := by omega
                rw [List.take_length, List.nil_append] at hL
                obtain ⟨sx, hsx⟩ : ∃ q, q = s := ⟨_, rfl⟩
                subst hsx
                clear hlt hk
                go_wp2_with (first | ((with_reducible refine qB rfl rfl ?_); (refine lC rfl hL rfl rfl HasV.mem (by rfl) ?_)))
                go_loopw [86] (fun i wr => ∃ (k : Nat) (s : Sl), k ≤ xb.length ∧ i = .int .i64 k ∧ Loc w NoM wr [row encXt w.heap.size 64 s.val (namedD (xa ++ xb.take k)), row encPc w.heap.size 61 sp.val (listedD (pa ++ pb)), var g5 [.int .i64 ha.id.boot, .int .i64 ha.id.n, .int .i64 (imax ha.kind hb.kind), .string T, .int .i64 ca.at_.boot, .int .i64 ca.at_.n, .int .i64 ca.mode, .int .u64 ca.time, .int .i64 cs.at_.boot, .int .i64 cs.at_.n, .int .i64 cs.n, .slice sp.a sp.n sp.c, .slice s.a s.n s.c] 58, var g4 [.int .i64 0, .int .i64 0, .int .i64 0, .string ByteArray.empty, .int .i64 0, .int .i64 0, .int .i64 0, .int .u64 0, .int .i64 0, .int .i64 0, .int .i64 0, .slice none 0 0, .slice none 0 0] 58, var g3 [.int .i64 hb.id.boot, .int .i64 hb.id.n, .int .i64 hb.kind, .string hb.text, .int .i64 hb.attr.at_.boot, .int .i64 hb.attr.at_.n, .int .i64 hb.attr.mode, .int .u64 hb.attr.time, .int .i64 hb.size.at_.boot, .int .i64 hb.size.at_.n, .int .i64 hb.size.n, .slice b1 pb.length e1, .slice b2 xb.length e2] 58, var g2 [.int .i64 ha.id.boot, .int .i64 ha.id.n, .int .i64 ha.kind, .string ha.text, .int .i64 ha.attr.at_.boot, .int .i64 ha.attr.at_.n, .int .i64 ha.attr.mode, .int .u64 ha.attr.time, .int .i64 ha.size.at_.boot, .int .i64 ha.size.at_.n, .int .i64 ha.size.n, .slice a1 pa.length c1, .slice a2 xa.length c2] 58]) (fun i _ => xb.length - (intOf i).toNat)
                case atStart => exact ⟨0, sx, by omega, rfl, by rw [List.take_zero, List.append_nil]; exact hL⟩
                case round =>
                  clear hL
                  obtain ⟨k, s, hk, rfl, hL⟩ := hrel
                  by_cases hlt : k < xb.length
                  · obtain ⟨g, off, rfl, hr⟩ := hxb k hlt
                    have hzp := Lib.hid (ZX2.out _ (List.getElem_mem hlt))
                    have HS := Lib.hid (named_step xa xb k hlt)
                    have hbn : xb.length ≤ 100000000 := by have := HN2.out; omega
                    have hln : (namedD (xa ++ xb.take k)).length ≤ 100000000 := named_part (by have := HN2.out; (try simp only [List.length_nil]); omega)
                    have hlz := Lib.hid (named_partZ (P := xa) (l := xb) (k := k) ZX1.out ZX2.out)
                    have hrW0 : World.rangeAt _ g (off + k * 5) (Xat.cells xb[k]) := range_below hr hL.below
                    clear hr
                    generalize xb[k] = p at *
                    generalize namedD (xa ++ xb.take k) = L at *
                    have hrW : World.rangeAt _ g (off + k * 5) [.string p.name, .int .i64 p.at_.boot, .int .i64 p.at_.n, .string p.val, .bool p.gone] := hrW0
                    clear hrW0
                    go_wp2_with (first
                      | ((with_reducible refine qF rfl rfl ?_); refine lL rfl rfl rfl rfl hlt ?_) | ((with_reducible refine gate (N := 89) rfl ?_); refine lK rfl rfl rfl hrW (by rfl) ?_) | ((with_reducible refine gate (N := 13) rfl ?_); (refine lI rfl hL rfl cy ?_; clear hL; intro g13 w13 hL))
                      | (go_at_call 174; have hq := ref11_name (.slice s.a s.n s.c) L p _ (hL.own (E := encXt) (base := w.heap.size) (e := 64) (v := s.val) (xs := L) mx).read hlz.out hzp.out (Nat.le_trans hln (by decide)); (refine hq.mono ?_); rintro e w5 ⟨u, rfl, hL5⟩; clear hq; obtain ⟨ua, uc, rfl, -⟩ := R_elem (hL5.own (.head _)).read; replace hL := hL.takeRow hL5; clear hL5)
                      | ((with_reducible refine qB rfl rfl ?_); (first | (refine lC rfl hL rfl rfl HasV.mem (by rfl) ?_) | (refine lA rfl hL rfl rfl HasV.mem (by rfl) ?_))) | ((with_reducible refine qC rfl rfl ?_); (refine lH rfl hL rfl rfl rfl cy (by rfl) ?_); clear hL; intro wq hL))
                    go_roundw
                    case rel => exact ⟨k + 1, ⟨ua, _, uc⟩, by omega, by go_num, by rw [HS.out]; exact hL.sub (by repeat (first | exact List.nil_sublist _ | apply List.Sublist.cons_cons | apply List.Sublist.cons))⟩
                    case measure => simp [intOf]; omega
                  · obtain rfl : k = xb.length := by omega
                    rw [List.take_length] at hL
                    obtain ⟨sx, hsx⟩ : ∃ q, q = s := ⟨_, rfl⟩
                    subst hsx
                    clear hlt hk
                    go_wp2_with (first | ((with_reducible refine qB rfl rfl ?_); (refine lA rfl hL rfl rfl HasV.mem (by rfl) ?_)) | ((with_reducible refine qC rfl rfl ?_); (refine lH rfl hL rfl rfl rfl cy (by rfl) ?_); clear hL; intro wq hL))
                    refine bodyPost_ret (res_cell rfl hL _ rfl HasV.mem (by rfl)) rfl ⟨⟨⟨ha.id, imax ha.kind hb.kind, T, ca, cs⟩, sp, sx⟩, rfl, HO.out _ T ca cs rfl HT.out HCA.out HCS.out, ?_⟩
                    rw [HPP.out, HXX.out]
                    have hF : Loc w NoM _ [row encXt w.heap.size 64 sx.val (namedD (xa ++ xb)), row encPc w.heap.size 61 sp.val (listedD (pa ++ pb))] := hL.sub (by repeat (first | exact List.nil_sublist _ | apply List.Sublist.cons_cons | apply List.Sublist.cons))
                    exact hF.comm
  · have HTT : Hid (hb.text = smax ha.text hb.text) := Lib.hid (by unfold smax; rw [hr]; rfl)
    clear hr
    go_enter Tryz.func102, Tryz.ntmps102
    go_wp2_with (first
      | ((with_reducible refine gate (N := 2) rfl ?_); (refine lJ rfl hL rfl rfl cy ?_; clear hL; intro g2 w2 hL)) | ((with_reducible refine gate (N := 3) rfl ?_); (refine lJ rfl hL rfl rfl cy ?_; clear hL; intro g3 w3 hL)) | ((with_reducible refine gate (N := 4) rfl ?_); (refine lI rfl hL rfl cy ?_; clear hL; intro g4 w4 hL)) | ((with_reducible refine gate (N := 5) rfl ?_); (refine lI rfl hL rfl cy ?_; clear hL; intro g5 w5 hL))
      | ((with_reducible refine gate (N := 20) rfl ?_); refine ev_maxI rfl rfl rfl rfl ?_)
      | (go_at_call 170; (with_reducible refine (hls.out _).mono ?_); rintro e w13 ⟨rfl, hb13⟩; have hL := hL.call hb13; clear hb13)
      | (go_at_call 171; (with_reducible refine (hga.out _).mono ?_); rintro e w14 ⟨⟨ca, eca, rfl⟩, hb14⟩; have HCA := Lib.hid eca; clear eca; have hL := hL.call hb14; clear hb14)
      | (go_at_call 172; (with_reducible refine (hgs.out _).mono ?_); rintro e w15 ⟨⟨cs, ecs, rfl⟩, hb15⟩; have HCS := Lib.hid ecs; clear ecs; have hL := hL.call hb15; clear hb15)
      | ((with_reducible refine qB rfl rfl ?_); (first | (refine lC rfl hL rfl rfl HasV.mem (by rfl) ?_) | (refine lF rfl hL rfl rfl HasV.mem SegC.seg ?_))) | ((with_reducible refine qC rfl rfl ?_); (refine lH rfl hL rfl rfl rfl cy (by rfl) ?_); clear hL; intro wq hL))
    go_loopw [47] (fun i wr => ∃ (k : Nat) (s : Sl) (T : ByteArray), k ≤ pa.length ∧ i = .int .i64 k ∧ Hid (T = smax ha.text hb.text) ∧ Loc w NoM wr [row encPc w.heap.size 61 s.val (listedD (([] : List Pce) ++ pa.take k)), row encXt w.heap.size 64 (.slice none 0 0) [], var g5 [.int .i64 ha.id.boot, .int .i64 ha.id.n, .int .i64 (imax ha.kind hb.kind), .string T, .int .i64 ca.at_.boot, .int .i64 ca.at_.n, .int .i64 ca.mode, .int .u64 ca.time, .int .i64 cs.at_.boot, .int .i64 cs.at_.n, .int .i64 cs.n, .slice s.a s.n s.c, .slice none 0 0] 58, var g4 [.int .i64 0, .int .i64 0, .int .i64 0, .string ByteArray.empty, .int .i64 0, .int .i64 0, .int .i64 0, .int .u64 0, .int .i64 0, .int .i64 0, .int .i64 0, .slice none 0 0, .slice none 0 0] 58, var g3 [.int .i64 hb.id.boot, .int .i64 hb.id.n, .int .i64 hb.kind, .string hb.text, .int .i64 hb.attr.at_.boot, .int .i64 hb.attr.at_.n, .int .i64 hb.attr.mode, .int .u64 hb.attr.time, .int .i64 hb.size.at_.boot, .int .i64 hb.size.at_.n, .int .i64 hb.size.n, .slice b1 pb.length e1, .slice b2 xb.length e2] 58, var g2 [.int .i64 ha.id.boot, .int .i64 ha.id.n, .int .i64 ha.kind, .string ha.text, .int .i64 ha.attr.at_.boot, .int .i64 ha.attr.at_.n, .int .i64 ha.attr.mode, .int .u64 ha.attr.time, .int .i64 ha.size.at_.boot, .int .i64 ha.size.at_.n, .int .i64 ha.size.n, .slice a1 pa.length c1, .slice a2 xa.length c2] 58]) (fun i _ => pa.length - (intOf i).toNat)
    case atStart => exact ⟨0, ⟨none, 0, 0⟩, _, by omega, rfl, HTT, (hL.rowOff encXt w.heap.size 64).rowOff encPc w.heap.size 61⟩
    case round =>
      clear hL
      obtain ⟨k, s, T, hk, rfl, HT, hL⟩ := hrel
      by_cases hlt : k < pa.length
      · obtain ⟨g, off, rfl, hr⟩ := hpa k hlt
        have hzp := Lib.hid (ZP1.out _ (List.getElem_mem hlt))
        have HS := Lib.hid (listed_step ([] : List Pce) pa k hlt)
        have hbn : pa.length ≤ 100000000 := by have := HN1.out; omega
        have hln : (listedD (([] : List Pce) ++ pa.take k)).length ≤ 100000000 := listed_part (by have := HN1.out; (try simp only [List.length_nil]); omega)
        have hlz := Lib.hid (listed_partZ (P := ([] : List Pce)) (l := pa) (k := k) (by simp) ZP1.out)
        have hrW0 : World.rangeAt _ g (off + k * 4) (Pce.cells pa[k]) := range_below hr hL.below
        clear hr
        generalize pa[k] = p at *
        generalize listedD (([] : List Pce) ++ pa.take k) = L at *
        have hrW : World.rangeAt _ g (off + k * 4) [.int .i64 p.idx, .int .i64 p.at_.boot, .int .i64 p.at_.n, .string p.data] := hrW0
        clear hrW0
        go_wp2_with (first
          | ((with_reducible refine qF rfl rfl ?_); refine lL rfl rfl rfl rfl hlt ?_) | ((with_reducible refine gate (N := 50) rfl ?_); refine lK rfl rfl rfl hrW (by rfl) ?_) | ((with_reducible refine gate (N := 7) rfl ?_); (refine lI rfl hL rfl cy ?_; clear hL; intro g7 w7 hL))
          | (go_at_call 173; have hq := ref11_put (.slice s.a s.n s.c) L p _ (hL.own (E := encPc) (base := w.heap.size) (e := 61) (v := s.val) (xs := L) mx).read hlz.out hzp.out (Nat.le_trans hln (by decide)); (refine hq.mono ?_); rintro e w5 ⟨u, rfl, hL5⟩; clear hq; obtain ⟨ua, uc, rfl, -⟩ := R_elem (hL5.own (.head _)).read; replace hL := hL.takeRow hL5; clear hL5)
          | ((with_reducible refine qB rfl rfl ?_); (first | (refine lC rfl hL rfl rfl HasV.mem (by rfl) ?_) | (refine lA rfl hL rfl rfl HasV.mem (by rfl) ?_))) | ((with_reducible refine qC rfl rfl ?_); (refine lH rfl hL rfl rfl rfl cy (by rfl) ?_); clear hL; intro wq hL))
        go_roundw
        case rel => exact ⟨k + 1, ⟨ua, _, uc⟩, T, by omega, by go_num, HT, by rw [HS.out]; exact hL.sub (by repeat (first | exact List.nil_sublist _ | apply List.Sublist.cons_cons | apply List.Sublist.cons))⟩
        case measure => simp [intOf]; omega
      · obtain rfl : k = pa.length := by omega
        rw [List.take_length, List.nil_append] at hL
        obtain ⟨sp, hsp⟩ : ∃ q, q = s := ⟨_, rfl⟩
        subst hsp
        clear hlt hk
        go_wp2_with (first | ((with_reducible refine qB rfl rfl ?_); (refine lC rfl hL rfl rfl HasV.mem (by rfl) ?_)))
        go_loopw [60] (fun i wr => ∃ (k : Nat) (s : Sl), k ≤ pb.length ∧ i = .int .i64 k ∧ Loc w NoM wr [row encPc w.heap.size 61 s.val (listedD (pa ++ pb.take k)), row encXt w.heap.size 64 (.slice none 0 0) [], var g5 [.int .i64 ha.id.boot, .int .i64 ha.id.n, .int .i64 (imax ha.kind hb.kind), .string T, .int .i64 ca.at_.boot, .int .i64 ca.at_.n, .int .i64 ca.mode, .int .u64 ca.time, .int .i64 cs.at_.boot, .int .i64 cs.at_.n, .int .i64 cs.n, .slice s.a s.n s.c, .slice none 0 0] 58, var g4 [.int .i64 0, .int .i64 0, .int .i64 0, .string ByteArray.empty, .int .i64 0, .int .i64 0, .int .i64 0, .int .u64 0, .int .i64 0, .int .i64 0, .int .i64 0, .slice none 0 0, .slice none 0 0] 58, var g3 [.int .i64 hb.id.boot, .int .i64 hb.id.n, .int .i64 hb.kind, .string hb.text, .int .i64 hb.attr.at_.boot, .int .i64 hb.attr.at_.n, .int .i64 hb.attr.mode, .int .u64 hb.attr.time, .int .i64 hb.size.at_.boot, .int .i64 hb.size.at_.n, .int .i64 hb.size.n, .slice b1 pb.length e1, .slice b2 xb.length e2] 58, var g2 [.int .i64 ha.id.boot, .int .i64 ha.id.n, .int .i64 ha.kind, .string ha.text, .int .i64 ha.attr.at_.boot, .int .i64 ha.attr.at_.n, .int .i64 ha.attr.mode, .int .u64 ha.attr.time, .int .i64 ha.size.at_.boot, .int .i64 ha.size.at_.n, .int .i64 ha.size.n, .slice a1 pa.length c1, .slice a2 xa.length c2] 58]) (fun i _ => pb.length - (intOf i).toNat)
        case atStart => exact ⟨0, sp, by omega, rfl, by rw [List.take_zero, List.append_nil]; exact hL⟩
        case round =>
          clear hL
          obtain ⟨k, s, hk, rfl, hL⟩ := hrel
          by_cases hlt : k < pb.length
          · obtain ⟨g, off, rfl, hr⟩ := hpb k hlt
            have hzp := Lib.hid (ZP2.out _ (List.getElem_mem hlt))
            have HS := Lib.hid (listed_step pa pb k hlt)
            have hbn : pb.length ≤ 100000000 := by have := HN1.out; omega
            have hln : (listedD (pa ++ pb.take k)).length ≤ 100000000 := listed_part (by have := HN1.out; (try simp only [List.length_nil]); omega)
            have hlz := Lib.hid (listed_partZ (P := pa) (l := pb) (k := k) ZP1.out ZP2.out)
            have hrW0 : World.rangeAt _ g (off + k * 4) (Pce.cells pb[k]) := range_below hr hL.below
            clear hr
            generalize pb[k] = p at *
            generalize listedD (pa ++ pb.take k) = L at *
            have hrW : World.rangeAt _ g (off + k * 4) [.int .i64 p.idx, .int .i64 p.at_.boot, .int .i64 p.at_.n, .string p.data] := hrW0
            clear hrW0
            go_wp2_with (first
              | ((with_reducible refine qF rfl rfl ?_); refine lL rfl rfl rfl rfl hlt ?_) | ((with_reducible refine gate (N := 63) rfl ?_); refine lK rfl rfl rfl hrW (by rfl) ?_) | ((with_reducible refine gate (N := 9) rfl ?_); (refine lI rfl hL rfl cy ?_; clear hL; intro g9 w9 hL))
              | (go_at_call 173; have hq := ref11_put (.slice s.a s.n s.c) L p _ (hL.own (E := encPc) (base := w.heap.size) (e := 61) (v := s.val) (xs := L) mx).read hlz.out hzp.out (Nat.le_trans hln (by decide)); (refine hq.mono ?_); rintro e w5 ⟨u, rfl, hL5⟩; clear hq; obtain ⟨ua, uc, rfl, -⟩ := R_elem (hL5.own (.head _)).read; replace hL := hL.takeRow hL5; clear hL5)
              | ((with_reducible refine qB rfl rfl ?_); (first | (refine lC rfl hL rfl rfl HasV.mem (by rfl) ?_) | (refine lA rfl hL rfl rfl HasV.mem (by rfl) ?_))) | ((with_reducible refine qC rfl rfl ?_); (refine lH rfl hL rfl rfl rfl cy (by rfl) ?_); clear hL; intro wq hL))
            go_roundw
            case rel => exact ⟨k + 1, ⟨ua, _, uc⟩, by omega, by go_num, by rw [HS.out]; exact hL.sub (by repeat (first | exact List.nil_sublist _ | apply List.Sublist.cons_cons | apply List.Sublist.cons))⟩
            case measure => simp [intOf]; omega
          · obtain rfl : k = pb.length := by omega
            rw [List.take_length] at hL
            obtain ⟨sp, hsp⟩ : ∃ q, q = s := ⟨_, rfl⟩
            subst hsp
            clear hlt hk
            go_wp2_with (first | ((with_reducible refine qB rfl rfl ?_); (refine lC rfl hL rfl rfl HasV.mem (by rfl) ?_)))
            go_loopw [73] (fun i wr => ∃ (k : Nat) (s : Sl), k ≤ xa.length ∧ i = .int .i64 k ∧ Loc w NoM wr [row encXt w.heap.size 64 s.val (namedD (([] : List Xat) ++ xa.take k)), row encPc w.heap.size 61 sp.val (listedD (pa ++ pb)), var g5 [.int .i64 ha.id.boot, .int .i64 ha.id.n, .int .i64 (imax ha.kind hb.kind), .string T, .int .i64 ca.at_.boot, .int .i64 ca.at_.n, .int .i64 ca.mode, .int .u64 ca.time, .int .i64 cs.at_.boot, .int .i64 cs.at_.n, .int .i64 cs.n, .slice sp.a sp.n sp.c, .slice s.a s.n s.c] 58, var g4 [.int .i64 0, .int .i64 0, .int .i64 0, .string ByteArray.empty, .int .i64 0, .int .i64 0, .int .i64 0, .int .u64 0, .int .i64 0, .int .i64 0, .int .i64 0, .slice none 0 0, .slice none 0 0] 58, var g3 [.int .i64 hb.id.boot, .int .i64 hb.id.n, .int .i64 hb.kind, .string hb.text, .int .i64 hb.attr.at_.boot, .int .i64 hb.attr.at_.n, .int .i64 hb.attr.mode, .int .u64 hb.attr.time, .int .i64 hb.size.at_.boot, .int .i64 hb.size.at_.n, .int .i64 hb.size.n, .slice b1 pb.length e1, .slice b2 xb.length e2] 58, var g2 [.int .i64 ha.id.boot, .int .i64 ha.id.n, .int .i64 ha.kind, .string ha.text, .int .i64 ha.attr.at_.boot, .int .i64 ha.attr.at_.n, .int .i64 ha.attr.mode, .int .u64 ha.attr.time, .int .i64 ha.size.at_.boot, .int .i64 ha.size.at_.n, .int .i64 ha.size.n, .slice a1 pa.length c1, .slice a2 xa.length c2] 58]) (fun i _ => xa.length - (intOf i).toNat)
            case atStart => exact ⟨0, ⟨none, 0, 0⟩, by omega, rfl, hL.comm⟩
            case round =>
              clear hL
              obtain ⟨k, s, hk, rfl, hL⟩ := hrel
              by_cases hlt : k < xa.length
              · obtain ⟨g, off, rfl, hr⟩ := hxa k hlt
                have hzp := Lib.hid (ZX1.out _ (List.getElem_mem hlt))
                have HS := Lib.hid (named_step ([] : List Xat) xa k hlt)
                have hbn : xa.length ≤ 100000000 := by have := HN2.out; omega
                have hln : (namedD (([] : List Xat) ++ xa.take k)).length ≤ 100000000 := named_part (by have := HN2.out; (try simp only [List.length_nil]); omega)
                have hlz := Lib.hid (named_partZ (P := ([] : List Xat)) (l := xa) (k := k) (by simp) ZX1.out)
                have hrW0 : World.rangeAt _ g (off + k * 5) (Xat.cells xa[k]) := range_below hr hL.below
                clear hr
                generalize xa[k] = p at *
                generalize namedD (([] : List Xat) ++ xa.take k) = L at *
                have hrW : World.rangeAt _ g (off + k * 5) [.string p.name, .int .i64 p.at_.boot, .int .i64 p.at_.n, .string p.val, .bool p.gone] := hrW0
                clear hrW0
                go_wp2_with (first
                  | ((with_reducible refine qF rfl rfl ?_); refine lL rfl rfl rfl rfl hlt ?_) | ((with_reducible refine gate (N := 76) rfl ?_); refine lK rfl rfl rfl hrW (by rfl) ?_) | ((with_reducible refine gate (N := 11) rfl ?_); (refine lI rfl hL rfl cy ?_; clear hL; intro g11 w11 hL))
                  | (go_at_call 174; have hq := ref11_name (.slice s.a s.n s.c) L p _ (hL.own (E := encXt) (base := w.heap.size) (e := 64) (v := s.val) (xs := L) mx).read hlz.out hzp.out (Nat.le_trans hln (by decide)); (refine hq.mono ?_); rintro e w5 ⟨u, rfl, hL5⟩; clear hq; obtain ⟨ua, uc, rfl, -⟩ := R_elem (hL5.own (.head _)).read; replace hL := hL.takeRow hL5; clear hL5)
                  | ((with_reducible refine qB rfl rfl ?_); (first | (refine lC rfl hL rfl rfl HasV.mem (by rfl) ?_) | (refine lA rfl hL rfl rfl HasV.mem (by rfl) ?_))) | ((with_reducible refine qC rfl rfl ?_); (refine lH rfl hL rfl rfl rfl cy (by rfl) ?_); clear hL; intro wq hL))
                go_roundw
                case rel => exact ⟨k + 1, ⟨ua, _, uc⟩, by omega, by go_num, by rw [HS.out]; exact hL.sub (by repeat (first | exact List.nil_sublist _ | apply List.Sublist.cons_cons | apply List.Sublist.cons))⟩
                case measure => simp [intOf]; omega
              · obtain rfl : k = xa.length := by omega
                rw [List.take_length, List.nil_append] at hL
                obtain ⟨sx, hsx⟩ : ∃ q, q = s := ⟨_, rfl⟩
                subst hsx
                clear hlt hk
                go_wp2_with (first | ((with_reducible refine qB rfl rfl ?_); (refine lC rfl hL rfl rfl HasV.mem (by rfl) ?_)))
                go_loopw [86] (fun i wr => ∃ (k : Nat) (s : Sl), k ≤ xb.length ∧ i = .int .i64 k ∧ Loc w NoM wr [row encXt w.heap.size 64 s.val (namedD (xa ++ xb.take k)), row encPc w.heap.size 61 sp.val (listedD (pa ++ pb)), var g5 [.int .i64 ha.id.boot, .int .i64 ha.id.n, .int .i64 (imax ha.kind hb.kind), .string T, .int .i64 ca.at_.boot, .int .i64 ca.at_.n, .int .i64 ca.mode, .int .u64 ca.time, .int .i64 cs.at_.boot, .int .i64 cs.at_.n, .int .i64 cs.n, .slice sp.a sp.n sp.c, .slice s.a s.n s.c] 58, var g4 [.int .i64 0, .int .i64 0, .int .i64 0, .string ByteArray.empty, .int .i64 0, .int .i64 0, .int .i64 0, .int .u64 0, .int .i64 0, .int .i64 0, .int .i64 0, .slice none 0 0, .slice none 0 0] 58, var g3 [.int .i64 hb.id.boot, .int .i64 hb.id.n, .int .i64 hb.kind, .string hb.text, .int .i64 hb.attr.at_.boot, .int .i64 hb.attr.at_.n, .int .i64 hb.attr.mode, .int .u64 hb.attr.time, .int .i64 hb.size.at_.boot, .int .i64 hb.size.at_.n, .int .i64 hb.size.n, .slice b1 pb.length e1, .slice b2 xb.length e2] 58, var g2 [.int .i64 ha.id.boot, .int .i64 ha.id.n, .int .i64 ha.kind, .string ha.text, .int .i64 ha.attr.at_.boot, .int .i64 ha.attr.at_.n, .int .i64 ha.attr.mode, .int .u64 ha.attr.time, .int .i64 ha.size.at_.boot, .int .i64 ha.size.at_.n, .int .i64 ha.size.n, .slice a1 pa.length c1, .slice a2 xa.length c2] 58]) (fun i _ => xb.length - (intOf i).toNat)
                case atStart => exact ⟨0, sx, by omega, rfl, by rw [List.take_zero, List.append_nil]; exact hL⟩
                case round =>
                  clear hL
                  obtain ⟨k, s, hk, rfl, hL⟩ := hrel
                  by_cases hlt : k < xb.length
                  · obtain ⟨g, off, rfl, hr⟩ := hxb k hlt
                    have hzp := Lib.hid (ZX2.out _ (List.getElem_mem hlt))
                    have HS := Lib.hid (named_step xa xb k hlt)
                    have hbn : xb.length ≤ 100000000 := by have := HN2.out; omega
                    have hln : (namedD (xa ++ xb.take k)).length ≤ 100000000 := named_part (by have := HN2.out; (try simp only [List.length_nil]); omega)
                    have hlz := Lib.hid (named_partZ (P := xa) (l := xb) (k := k) ZX1.out ZX2.out)
                    have hrW0 : World.rangeAt _ g (off + k * 5) (Xat.cells xb[k]) := range_below hr hL.below
                    clear hr
                    generalize xb[k] = p at *
                    generalize namedD (xa ++ xb.take k) = L at *
                    have hrW : World.rangeAt _ g (off + k * 5) [.string p.name, .int .i64 p.at_.boot, .int .i64 p.at_.n, .string p.val, .bool p.gone] := hrW0
                    clear hrW0
                    go_wp2_with (first
                      | ((with_reducible refine qF rfl rfl ?_); refine lL rfl rfl rfl rfl hlt ?_) | ((with_reducible refine gate (N := 89) rfl ?_); refine lK rfl rfl rfl hrW (by rfl) ?_) | ((with_reducible refine gate (N := 13) rfl ?_); (refine lI rfl hL rfl cy ?_; clear hL; intro g13 w13 hL))
                      | (go_at_call 174; have hq := ref11_name (.slice s.a s.n s.c) L p _ (hL.own (E := encXt) (base := w.heap.size) (e := 64) (v := s.val) (xs := L) mx).read hlz.out hzp.out (Nat.le_trans hln (by decide)); (refine hq.mono ?_); rintro e w5 ⟨u, rfl, hL5⟩; clear hq; obtain ⟨ua, uc, rfl, -⟩ := R_elem (hL5.own (.head _)).read; replace hL := hL.takeRow hL5; clear hL5)
                      | ((with_reducible refine qB rfl rfl ?_); (first | (refine lC rfl hL rfl rfl HasV.mem (by rfl) ?_) | (refine lA rfl hL rfl rfl HasV.mem (by rfl) ?_))) | ((with_reducible refine qC rfl rfl ?_); (refine lH rfl hL rfl rfl rfl cy (by rfl) ?_); clear hL; intro wq hL))
                    go_roundw
                    case rel => exact ⟨k + 1, ⟨ua, _, uc⟩, by omega, by go_num, by rw [HS.out]; exact hL.sub (by repeat (first | exact List.nil_sublist _ | apply List.Sublist.cons_cons | apply List.Sublist.cons))⟩
                    case measure => simp [intOf]; omega
                  · obtain rfl : k = xb.length := by omega
                    rw [List.take_length] at hL
                    obtain ⟨sx, hsx⟩ : ∃ q, q = s := ⟨_, rfl⟩
                    subst hsx
                    clear hlt hk
                    go_wp2_with (first | ((with_reducible refine qB rfl rfl ?_); (refine lA rfl hL rfl rfl HasV.mem (by rfl) ?_)) | ((with_reducible refine qC rfl rfl ?_); (refine lH rfl hL rfl rfl rfl cy (by rfl) ?_); clear hL; intro wq hL))
                    refine bodyPost_ret (res_cell rfl hL _ rfl HasV.mem (by rfl)) rfl ⟨⟨⟨ha.id, imax ha.kind hb.kind, T, ca, cs⟩, sp, sx⟩, rfl, HO.out _ T ca cs rfl HT.out HCA.out HCS.out, ?_⟩
                    rw [HPP.out, HXX.out]
                    have hF : Loc w NoM _ [row encXt w.heap.size 64 sx.val (namedD (xa ++ xb)), row encPc w.heap.size 61 sp.val (listedD (pa ++ pb))] := hL.sub (by repeat (first | exact List.nil_sublist _ | apply List.Sublist.cons_cons | apply List.Sublist.cons))
                    exact hF.comm
end Go.Proofs.YtebpacmhdkgfeaaGreat
