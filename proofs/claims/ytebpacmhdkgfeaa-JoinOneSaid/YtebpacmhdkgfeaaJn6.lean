/- Texts laid together: EqJ, Fsm, Sma, JoQ, JoR. -/
import Derived.Test.YtebpacmhdkgfeaaJn5
/- Package facts: Same of states that say the same. -/
namespace Go.Proofs.Ytebpacmhdkgfeaa
open Go.RowKit
set_option maxHeartbeats 4000000
set_option maxRecDepth 20000
theorem pcs_eq (v u : Value) (l : List Pce) (w : World) (hx : encPc.R w v l) (hy : encPc.R w u l) :
    Calls Try.prog 49 #[v, u] w fun e w' => e = .returned (.bool true) ∧ Below w.heap.size w w' := by
  have hL := Loc.nil w NoM
  have hm := R_max hx
  obtain ⟨a1, c1, rfl, h1⟩ := R_elem hx
  obtain ⟨a2, c2, rfl, h2⟩ := R_elem hy
  clear hx hy
  go_enter Try.func49, Try.ntmps49
  go_wp2_with (first | ((with_reducible refine qD rfl rfl ?_); (refine lI rfl hL rfl cy ?_; clear hL; intro gq wq hL)) | ((with_reducible refine qE rfl rfl ?_); (refine lJ rfl hL rfl rfl cy ?_; clear hL; intro gq wq hL)) | ((with_reducible refine qB rfl rfl ?_); (first | (refine lC rfl hL rfl rfl HasV.mem (by rfl) ?_) | (refine lA rfl hL rfl rfl HasV.mem (by rfl) ?_) | (refine lF rfl hL rfl rfl HasV.mem SegC.seg ?_))) | ((with_reducible refine qC rfl rfl ?_); (first | (refine lH rfl hL rfl rfl rfl cy (by rfl) ?_) | (refine lG rfl hL rfl rfl rfl cy (by rfl) (by rfl) ?_)); clear hL; intro wq hL) | ((with_reducible refine qA rfl rfl ?_ ?_); (exact wz rfl rfl rfl (by with_reducible rfl)); (first | (refine lD (wz rfl rfl rfl rfl) hL rfl rfl HasV.mem (by rfl) ?_) | (refine lB (wz rfl rfl rfl rfl) hL rfl rfl HasV.mem (by rfl) ?_) | (refine lE (wz rfl rfl rfl rfl) hL rfl rfl HasV.mem SegC.seg ?_))))
  go_loopw [13] (fun i wr => ∃ k : Nat, k ≤ l.length ∧ i = .int .i64 k ∧ Loc w NoM wr []) (fun i _ => l.length - (intOf i).toNat)
  case atStart => exact ⟨0, by omega, rfl, hL⟩
  case round =>
    clear hL
    obtain ⟨k, hk, rfl, hL⟩ := hrel
    by_cases hlt : k < l.length
    · obtain ⟨q1, o1, rfl, r1⟩ := h1 k hlt
      obtain ⟨q2, o2, rfl, r2⟩ := h2 k hlt
      have hz1 : World.rangeAt _ q1 (o1 + k * encPc.sz) (Pce.cells l[k]) := range_below r1 hL.below
      have hz2 : World.rangeAt _ q2 (o2 + k * encPc.sz) (Pce.cells l[k]) := range_below r2 hL.below
      clear r1 r2
      have hne := piece_ns l[k]
      generalize l[k] = x at *
      go_wp2_with (first | ((with_reducible refine qD rfl rfl ?_); (refine lI rfl hL rfl cy ?_; clear hL; intro gq wq hL)) | ((with_reducible refine qE rfl rfl ?_); (refine lJ rfl hL rfl rfl cy ?_; clear hL; intro gq wq hL)) | ((with_reducible refine qB rfl rfl ?_); (first | (refine lC rfl hL rfl rfl HasV.mem (by rfl) ?_) | (refine lA rfl hL rfl rfl HasV.mem (by rfl) ?_) | (refine lF rfl hL rfl rfl HasV.mem SegC.seg ?_))) | ((with_reducible refine qC rfl rfl ?_); (first | (refine lH rfl hL rfl rfl rfl cy (by rfl) ?_) | (refine lG rfl hL rfl rfl rfl cy (by rfl) (by rfl) ?_)); clear hL; intro wq hL) | ((with_reducible refine qA rfl rfl ?_ ?_); (exact wz rfl rfl rfl (by with_reducible rfl)); (first | (refine lD (wz rfl rfl rfl rfl) hL rfl rfl HasV.mem (by rfl) ?_) | (refine lB (wz rfl rfl rfl rfl) hL rfl rfl HasV.mem (by rfl) ?_) | (refine lE (wz rfl rfl rfl rfl) hL rfl rfl HasV.mem SegC.seg ?_))))
      refine wp_region_ext (by kernel_rfl) (by kernel_rfl) ?_
      repeat (first
        | (go_big_quiet_want; (first | refine quiet_index rfl rfl rfl hlt ?_ | refine quiet_loadR rfl rfl hz1 (by rfl) ?_ | refine quiet_loadR rfl rfl hz2 (by rfl) ?_); go_big_quiet_on; simp only [Act.put, zs, zt, zu])
        | go_big_quiet_step (fail))
      refine wpQuiet_nil ?_
      rintro _ ⟨⟨w2, hb2⟩, rfl⟩
      replace hL := hL.call hb2
      clear hb2
      go_wp2_with (first | ((with_reducible refine qD rfl rfl ?_); (refine lI rfl hL rfl cy ?_; clear hL; intro gq wq hL)) | ((with_reducible refine qE rfl rfl ?_); (refine lJ rfl hL rfl rfl cy ?_; clear hL; intro gq wq hL)) | ((with_reducible refine qB rfl rfl ?_); (first | (refine lC rfl hL rfl rfl HasV.mem (by rfl) ?_) | (refine lA rfl hL rfl rfl HasV.mem (by rfl) ?_) | (refine lF rfl hL rfl rfl HasV.mem SegC.seg ?_))) | ((with_reducible refine qC rfl rfl ?_); (first | (refine lH rfl hL rfl rfl rfl cy (by rfl) ?_) | (refine lG rfl hL rfl rfl rfl cy (by rfl) (by rfl) ?_)); clear hL; intro wq hL) | ((with_reducible refine qA rfl rfl ?_ ?_); (exact wz rfl rfl rfl (by with_reducible rfl)); (first | (refine lD (wz rfl rfl rfl rfl) hL rfl rfl HasV.mem (by rfl) ?_) | (refine lB (wz rfl rfl rfl rfl) hL rfl rfl HasV.mem (by rfl) ?_) | (refine lE (wz rfl rfl rfl rfl) hL rfl rfl HasV.mem SegC.seg ?_))))
      go_roundw
      case rel => exact ⟨k + 1, by omega, by go_num, hL⟩
      case measure => simp [intOf]; omega
    · obtain rfl : k = l.length := by omega
      go_wp2_with (first | ((with_reducible refine qD rfl rfl ?_); (refine lI rfl hL rfl cy ?_; clear hL; intro gq wq hL)) | ((with_reducible refine qE rfl rfl ?_); (refine lJ rfl hL rfl rfl cy ?_; clear hL; intro gq wq hL)) | ((with_reducible refine qB rfl rfl ?_); (first | (refine lC rfl hL rfl rfl HasV.mem (by rfl) ?_) | (refine lA rfl hL rfl rfl HasV.mem (by rfl) ?_) | (refine lF rfl hL rfl rfl HasV.mem SegC.seg ?_))) | ((with_reducible refine qC rfl rfl ?_); (first | (refine lH rfl hL rfl rfl rfl cy (by rfl) ?_) | (refine lG rfl hL rfl rfl rfl cy (by rfl) (by rfl) ?_)); clear hL; intro wq hL) | ((with_reducible refine qA rfl rfl ?_ ?_); (exact wz rfl rfl rfl (by with_reducible rfl)); (first | (refine lD (wz rfl rfl rfl rfl) hL rfl rfl HasV.mem (by rfl) ?_) | (refine lB (wz rfl rfl rfl rfl) hL rfl rfl HasV.mem (by rfl) ?_) | (refine lE (wz rfl rfl rfl rfl) hL rfl rfl HasV.mem SegC.seg ?_))))
      go_ret
      exact ⟨rfl, hL.below⟩
theorem xts_eq (v u : Value) (l : List Xat) (w : World) (hx : encXt.R w v l) (hy : encXt.R w u l) :
    Calls Try.prog 50 #[v, u] w fun e w' => e = .returned (.bool true) ∧ Below w.heap.size w w' := by
  have hL := Loc.nil w NoM
  have hm := R_max hx
  obtain ⟨a1, c1, rfl, h1⟩ := R_elem hx
  obtain ⟨a2, c2, rfl, h2⟩ := R_elem hy
  clear hx hy
  go_enter Try.func50, Try.ntmps50
  go_wp2_with (first | ((with_reducible refine qD rfl rfl ?_); (refine lI rfl hL rfl cy ?_; clear hL; intro gq wq hL)) | ((with_reducible refine qE rfl rfl ?_); (refine lJ rfl hL rfl rfl cy ?_; clear hL; intro gq wq hL)) | ((with_reducible refine qB rfl rfl ?_); (first | (refine lC rfl hL rfl rfl HasV.mem (by rfl) ?_) | (refine lA rfl hL rfl rfl HasV.mem (by rfl) ?_) | (refine lF rfl hL rfl rfl HasV.mem SegC.seg ?_))) | ((with_reducible refine qC rfl rfl ?_); (first | (refine lH rfl hL rfl rfl rfl cy (by rfl) ?_) | (refine lG rfl hL rfl rfl rfl cy (by rfl) (by rfl) ?_)); clear hL; intro wq hL) | ((with_reducible refine qA rfl rfl ?_ ?_); (exact wz rfl rfl rfl (by with_reducible rfl)); (first | (refine lD (wz rfl rfl rfl rfl) hL rfl rfl HasV.mem (by rfl) ?_) | (refine lB (wz rfl rfl rfl rfl) hL rfl rfl HasV.mem (by rfl) ?_) | (refine lE (wz rfl rfl rfl rfl) hL rfl rfl HasV.mem SegC.seg ?_))))
  go_loopw [13] (fun i wr => ∃ k : Nat, k ≤ l.length ∧ i = .int .i64 k ∧ Loc w NoM wr []) (fun i _ => l.length - (intOf i).toNat)
  case atStart => exact ⟨0, by omega, rfl, hL⟩
  case round =>
    clear hL
    obtain ⟨k, hk, rfl, hL⟩ := hrel
    by_cases hlt : k < l.length
    · obtain ⟨q1, o1, rfl, r1⟩ := h1 k hlt
      obtain ⟨q2, o2, rfl, r2⟩ := h2 k hlt
      have hz1 : World.rangeAt _ q1 (o1 + k * encXt.sz) (Xat.cells l[k]) := range_below r1 hL.below
      have hz2 : World.rangeAt _ q2 (o2 + k * encXt.sz) (Xat.cells l[k]) := range_below r2 hL.below
      clear r1 r2
      have hne := xattr_ns l[k]
      generalize l[k] = x at *
      go_wp2_with (first | ((with_reducible refine qD rfl rfl ?_); (refine lI rfl hL rfl cy ?_; clear hL; intro gq wq hL)) | ((with_reducible refine qE rfl rfl ?_); (refine lJ rfl hL rfl rfl cy ?_; clear hL; intro gq wq hL)) | ((with_reducible refine qB rfl rfl ?_); (first | (refine lC rfl hL rfl rfl HasV.mem (by rfl) ?_) | (refine lA rfl hL rfl rfl HasV.mem (by rfl) ?_) | (refine lF rfl hL rfl rfl HasV.mem SegC.seg ?_))) | ((with_reducible refine qC rfl rfl ?_); (first | (refine lH rfl hL rfl rfl rfl cy (by rfl) ?_) | (refine lG rfl hL rfl rfl rfl cy (by rfl) (by rfl) ?_)); clear hL; intro wq hL) | ((with_reducible refine qA rfl rfl ?_ ?_); (exact wz rfl rfl rfl (by with_reducible rfl)); (first | (refine lD (wz rfl rfl rfl rfl) hL rfl rfl HasV.mem (by rfl) ?_) | (refine lB (wz rfl rfl rfl rfl) hL rfl rfl HasV.mem (by rfl) ?_) | (refine lE (wz rfl rfl rfl rfl) hL rfl rfl HasV.mem SegC.seg ?_))))
      refine wp_region_ext (by kernel_rfl) (by kernel_rfl) ?_
      repeat (first
        | (go_big_quiet_want; (first | refine quiet_index rfl rfl rfl hlt ?_ | refine quiet_loadR rfl rfl hz1 (by rfl) ?_ | refine quiet_loadR rfl rfl hz2 (by rfl) ?_); go_big_quiet_on; simp only [Act.put, zs, zt, zu])
        | go_big_quiet_step (fail))
      refine wpQuiet_nil ?_
      rintro _ ⟨⟨w2, hb2⟩, rfl⟩
      replace hL := hL.call hb2
      clear hb2
      go_wp2_with (first | ((with_reducible refine qD rfl rfl ?_); (refine lI rfl hL rfl cy ?_; clear hL; intro gq wq hL)) | ((with_reducible refine qE rfl rfl ?_); (refine lJ rfl hL rfl rfl cy ?_; clear hL; intro gq wq hL)) | ((with_reducible refine qB rfl rfl ?_); (first | (refine lC rfl hL rfl rfl HasV.mem (by rfl) ?_) | (refine lA rfl hL rfl rfl HasV.mem (by rfl) ?_) | (refine lF rfl hL rfl rfl HasV.mem SegC.seg ?_))) | ((with_reducible refine qC rfl rfl ?_); (first | (refine lH rfl hL rfl rfl rfl cy (by rfl) ?_) | (refine lG rfl hL rfl rfl rfl cy (by rfl) (by rfl) ?_)); clear hL; intro wq hL) | ((with_reducible refine qA rfl rfl ?_ ?_); (exact wz rfl rfl rfl (by with_reducible rfl)); (first | (refine lD (wz rfl rfl rfl rfl) hL rfl rfl HasV.mem (by rfl) ?_) | (refine lB (wz rfl rfl rfl rfl) hL rfl rfl HasV.mem (by rfl) ?_) | (refine lE (wz rfl rfl rfl rfl) hL rfl rfl HasV.mem SegC.seg ?_))))
      go_roundw
      case rel => exact ⟨k + 1, by omega, by go_num, hL⟩
      case measure => simp [intOf]; omega
    · obtain rfl : k = l.length := by omega
      go_wp2_with (first | ((with_reducible refine qD rfl rfl ?_); (refine lI rfl hL rfl cy ?_; clear hL; intro gq wq hL)) | ((with_reducible refine qE rfl rfl ?_); (refine lJ rfl hL rfl rfl cy ?_; clear hL; intro gq wq hL)) | ((with_reducible refine qB rfl rfl ?_); (first | (refine lC rfl hL rfl rfl HasV.mem (by rfl) ?_) | (refine lA rfl hL rfl rfl HasV.mem (by rfl) ?_) | (refine lF rfl hL rfl rfl HasV.mem SegC.seg ?_))) | ((with_reducible refine qC rfl rfl ?_); (first | (refine lH rfl hL rfl rfl rfl cy (by rfl) ?_) | (refine lG rfl hL rfl rfl rfl cy (by rfl) (by rfl) ?_)); clear hL; intro wq hL) | ((with_reducible refine qA rfl rfl ?_ ?_); (exact wz rfl rfl rfl (by with_reducible rfl)); (first | (refine lD (wz rfl rfl rfl rfl) hL rfl rfl HasV.mem (by rfl) ?_) | (refine lB (wz rfl rfl rfl rfl) hL rfl rfl HasV.mem (by rfl) ?_) | (refine lE (wz rfl rfl rfl rfl) hL rfl rfl HasV.mem SegC.seg ?_))))
      go_ret
      exact ⟨rfl, hL.below⟩
theorem lks_eq (v u : Value) (l : List Lnk) (w : World) (hx : encK.R w v l) (hy : encK.R w u l) :
    Calls Try.prog 46 #[v, u] w fun e w' => e = .returned (.bool true) ∧ Below w.heap.size w w' := by
  have hL := Loc.nil w NoM
  have hm := R_max hx
  obtain ⟨a1, c1, rfl, h1⟩ := R_elem hx
  obtain ⟨a2, c2, rfl, h2⟩ := R_elem hy
  clear hx hy
  go_enter Try.func46, Try.ntmps46
  go_wp2_with (first | ((with_reducible refine qD rfl rfl ?_); (refine lI rfl hL rfl cy ?_; clear hL; intro gq wq hL)) | ((with_reducible refine qE rfl rfl ?_); (refine lJ rfl hL rfl rfl cy ?_; clear hL; intro gq wq hL)) | ((with_reducible refine qB rfl rfl ?_); (first | (refine lC rfl hL rfl rfl HasV.mem (by rfl) ?_) | (refine lA rfl hL rfl rfl HasV.mem (by rfl) ?_) | (refine lF rfl hL rfl rfl HasV.mem SegC.seg ?_))) | ((with_reducible refine qC rfl rfl ?_); (first | (refine lH rfl hL rfl rfl rfl cy (by rfl) ?_) | (refine lG rfl hL rfl rfl rfl cy (by rfl) (by rfl) ?_)); clear hL; intro wq hL) | ((with_reducible refine qA rfl rfl ?_ ?_); (exact wz rfl rfl rfl (by with_reducible rfl)); (first | (refine lD (wz rfl rfl rfl rfl) hL rfl rfl HasV.mem (by rfl) ?_) | (refine lB (wz rfl rfl rfl rfl) hL rfl rfl HasV.mem (by rfl) ?_) | (refine lE (wz rfl rfl rfl rfl) hL rfl rfl HasV.mem SegC.seg ?_))))
  go_loopw [13] (fun i wr => ∃ k : Nat, k ≤ l.length ∧ i = .int .i64 k ∧ Loc w NoM wr []) (fun i _ => l.length - (intOf i).toNat)
  case atStart => exact ⟨0, by omega, rfl, hL⟩
  case round =>
    clear hL
    obtain ⟨k, hk, rfl, hL⟩ := hrel
    by_cases hlt : k < l.length
    · obtain ⟨q1, o1, rfl, r1⟩ := h1 k hlt
      obtain ⟨q2, o2, rfl, r2⟩ := h2 k hlt
      have hz1 : World.rangeAt _ q1 (o1 + k * encK.sz) (Lnk.cells l[k]) := range_below r1 hL.below
      have hz2 : World.rangeAt _ q2 (o2 + k * encK.sz) (Lnk.cells l[k]) := range_below r2 hL.below
      clear r1 r2
      have hne := link_ns l[k]
      generalize l[k] = x at *
      go_wp2_with (first | ((with_reducible refine qD rfl rfl ?_); (refine lI rfl hL rfl cy ?_; clear hL; intro gq wq hL)) | ((with_reducible refine qE rfl rfl ?_); (refine lJ rfl hL rfl rfl cy ?_; clear hL; intro gq wq hL)) | ((with_reducible refine qB rfl rfl ?_); (first | (refine lC rfl hL rfl rfl HasV.mem (by rfl) ?_) | (refine lA rfl hL rfl rfl HasV.mem (by rfl) ?_) | (refine lF rfl hL rfl rfl HasV.mem SegC.seg ?_))) | ((with_reducible refine qC rfl rfl ?_); (first | (refine lH rfl hL rfl rfl rfl cy (by rfl) ?_) | (refine lG rfl hL rfl rfl rfl cy (by rfl) (by rfl) ?_)); clear hL; intro wq hL) | ((with_reducible refine qA rfl rfl ?_ ?_); (exact wz rfl rfl rfl (by with_reducible rfl)); (first | (refine lD (wz rfl rfl rfl rfl) hL rfl rfl HasV.mem (by rfl) ?_) | (refine lB (wz rfl rfl rfl rfl) hL rfl rfl HasV.mem (by rfl) ?_) | (refine lE (wz rfl rfl rfl rfl) hL rfl rfl HasV.mem SegC.seg ?_))))
      refine wp_region_ext (by kernel_rfl) (by kernel_rfl) ?_
      repeat (first
        | (go_big_quiet_want; (first | refine quiet_index rfl rfl rfl hlt ?_ | refine quiet_loadR rfl rfl hz1 (by rfl) ?_ | refine quiet_loadR rfl rfl hz2 (by rfl) ?_); go_big_quiet_on; simp only [Act.put, zs, zt, zu])
        | go_big_quiet_step (fail))
      refine wpQuiet_nil ?_
      rintro _ ⟨⟨w2, hb2⟩, rfl⟩
      replace hL := hL.call hb2
      clear hb2
      go_wp2_with (first | ((with_reducible refine qD rfl rfl ?_); (refine lI rfl hL rfl cy ?_; clear hL; intro gq wq hL)) | ((with_reducible refine qE rfl rfl ?_); (refine lJ rfl hL rfl rfl cy ?_; clear hL; intro gq wq hL)) | ((with_reducible refine qB rfl rfl ?_); (first | (refine lC rfl hL rfl rfl HasV.mem (by rfl) ?_) | (refine lA rfl hL rfl rfl HasV.mem (by rfl) ?_) | (refine lF rfl hL rfl rfl HasV.mem SegC.seg ?_))) | ((with_reducible refine qC rfl rfl ?_); (first | (refine lH rfl hL rfl rfl rfl cy (by rfl) ?_) | (refine lG rfl hL rfl rfl rfl cy (by rfl) (by rfl) ?_)); clear hL; intro wq hL) | ((with_reducible refine qA rfl rfl ?_ ?_); (exact wz rfl rfl rfl (by with_reducible rfl)); (first | (refine lD (wz rfl rfl rfl rfl) hL rfl rfl HasV.mem (by rfl) ?_) | (refine lB (wz rfl rfl rfl rfl) hL rfl rfl HasV.mem (by rfl) ?_) | (refine lE (wz rfl rfl rfl rfl) hL rfl rfl HasV.mem SegC.seg ?_))))
      go_roundw
      case rel => exact ⟨k + 1, by omega, by go_num, hL⟩
      case measure => simp [intOf]; omega
    · obtain rfl : k = l.length := by omega
      go_wp2_with (first | ((with_reducible refine qD rfl rfl ?_); (refine lI rfl hL rfl cy ?_; clear hL; intro gq wq hL)) | ((with_reducible refine qE rfl rfl ?_); (refine lJ rfl hL rfl rfl cy ?_; clear hL; intro gq wq hL)) | ((with_reducible refine qB rfl rfl ?_); (first | (refine lC rfl hL rfl rfl HasV.mem (by rfl) ?_) | (refine lA rfl hL rfl rfl HasV.mem (by rfl) ?_) | (refine lF rfl hL rfl rfl HasV.mem SegC.seg ?_))) | ((with_reducible refine qC rfl rfl ?_); (first | (refine lH rfl hL rfl rfl rfl cy (by rfl) ?_) | (refine lG rfl hL rfl rfl rfl cy (by rfl) (by rfl) ?_)); clear hL; intro wq hL) | ((with_reducible refine qA rfl rfl ?_ ?_); (exact wz rfl rfl rfl (by with_reducible rfl)); (first | (refine lD (wz rfl rfl rfl rfl) hL rfl rfl HasV.mem (by rfl) ?_) | (refine lB (wz rfl rfl rfl rfl) hL rfl rfl HasV.mem (by rfl) ?_) | (refine lE (wz rfl rfl rfl rfl) hL rfl rfl HasV.mem SegC.seg ?_))))
      go_ret
      exact ⟨rfl, hL.below⟩
theorem eql_of_neq {P : Program} {t : TypeId} {x y : Value} {w : World} (h : (binOp .neq t x y).run P w = .ok (.bool false) w) (hx : ∃ xs, x = .agg xs) (hy : ∃ ys, y = .agg ys) : (binOp .eql t x y).run P w = .ok (.bool true) w := by
  obtain ⟨xs, rfl⟩ := hx
  obtain ⟨ys, rfl⟩ := hy
  simp only [binOp, Sem.run_bind] at h ⊢
  cases he : (Op.equal t (.agg xs) (.agg ys)).run P w with
  | halt x w2 => rw [he] at h; cases h
  | ok b w2 =>
    rw [he] at h
    cases b <;> simp_all [Result.andThen]
theorem stamp_es (m : Mk) : ∀ w, (binOp .eql 34 (.agg #[.int .i64 m.boot, .int .i64 m.n]) (.agg #[.int .i64 m.boot, .int .i64 m.n])).run Try.prog w = .ok (.bool true) w := fun w => eql_of_neq (stamp_ns m w) ⟨_, rfl⟩ ⟨_, rfl⟩
theorem attr_es (a : Atr) : ∀ w, (binOp .eql 37 (.agg #[.int .i64 a.at_.boot, .int .i64 a.at_.n, .int .i64 a.mode, .int .u64 a.time]) (.agg #[.int .i64 a.at_.boot, .int .i64 a.at_.n, .int .i64 a.mode, .int .u64 a.time])).run Try.prog w = .ok (.bool true) w := fun w => eql_of_neq (attr_ns a w) ⟨_, rfl⟩ ⟨_, rfl⟩
theorem size_es (a : Siz) : ∀ w, (binOp .eql 39 (.agg #[.int .i64 a.at_.boot, .int .i64 a.at_.n, .int .i64 a.n]) (.agg #[.int .i64 a.at_.boot, .int .i64 a.at_.n, .int .i64 a.n])).run Try.prog w = .ok (.bool true) w := fun w => eql_of_neq (size_ns a w) ⟨_, rfl⟩ ⟨_, rfl⟩
theorem int_es (t : TypeId) (n : Int) : ∀ w, (binOp .eql t (.int .i64 n) (.int .i64 n)).run Try.prog w = .ok (.bool true) w := fun w => by simp [go_sem]
theorem str_es (t : TypeId) (s : ByteArray) : ∀ w, (binOp .eql t (.string s) (.string s)).run Try.prog w = .ok (.bool true) w := fun w => by simp [binOp, Op.stringOp]
theorem facts_same_1 (i j : Ino) (d : InoD) (w : World) (hi : i.Ok w d) (hj : j.Ok w d) : Calls Try.prog 48 #[.agg (encN.cells ⟨i, d⟩).toArray, .agg (encN.cells ⟨j, d⟩).toArray] w fun e w' => e = .returned (.bool true) ∧ Below w.heap.size w w' := by
  have hL := Loc.nil w NoM
  obtain ⟨hd, ⟨a1, n1, c1⟩, ⟨a2, n2, c2⟩⟩ := i
  obtain ⟨hd', ⟨b1, m1, e1⟩, ⟨b2, m2, e2⟩⟩ := j
  obtain ⟨h1, hp1, hx1⟩ := hi
  obtain ⟨h2, hp2, hx2⟩ := hj
  simp only at h1 h2
  subst h1
  subst h2
  have HP1 := Lib.hid hp1; have HP2 := Lib.hid hp2; have HX1 := Lib.hid hx1; have HX2 := Lib.hid hx2
  have f1 := stamp_es d.hd.id
  have f2 := attr_es d.hd.attr
  have f3 := size_es d.hd.size
  have f4 := fun t => int_es t d.hd.kind
  have f5 := fun t => str_es t d.hd.text
  clear hp1 hp2 hx1 hx2
  unfold encN Ino.cells
  simp only
  go_enter Try.func48, Try.ntmps48
  go_wp2_with (first
    | ((with_reducible refine gate (N := 2) rfl ?_); (refine lJ rfl hL rfl rfl cy ?_; clear hL; intro g2 w2 hL)) | ((with_reducible refine gate (N := 3) rfl ?_); (refine lJ rfl hL rfl rfl cy ?_; clear hL; intro g3 w3 hL))
    | (go_at_call 49; have hq := pcs_eq (.slice a1 n1 c1) (.slice b1 m1 e1) d.ps _ (HP1.out.below hL.below) (HP2.out.below hL.below); (with_reducible refine hq.mono ?_); rintro e w9 ⟨rfl, hb9⟩; clear hq; have hL := hL.call hb9; clear hb9)
    | (go_at_call 50; have hq := xts_eq (.slice a2 n2 c2) (.slice b2 m2 e2) d.xs _ (HX1.out.below hL.below) (HX2.out.below hL.below); (with_reducible refine hq.mono ?_); rintro e w9 ⟨rfl, hb9⟩; clear hq; have hL := hL.call hb9; clear hb9)
    | ((with_reducible refine qD rfl rfl ?_); (refine lI rfl hL rfl cy ?_; clear hL; intro gq wq hL)) | ((with_reducible refine qE rfl rfl ?_); (refine lJ rfl hL rfl rfl cy ?_; clear hL; intro gq wq hL)) | ((with_reducible refine qB rfl rfl ?_); (first | (refine lC rfl hL rfl rfl HasV.mem (by rfl) ?_) | (refine lA rfl hL rfl rfl HasV.mem (by rfl) ?_) | (refine lF rfl hL rfl rfl HasV.mem SegC.seg ?_))) | ((with_reducible refine qC rfl rfl ?_); (first | (refine lH rfl hL rfl rfl rfl cy (by rfl) ?_) | (refine lG rfl hL rfl rfl rfl cy (by rfl) (by rfl) ?_)); clear hL; intro wq hL) | ((with_reducible refine qA rfl rfl ?_ ?_); (exact wz rfl rfl rfl (by with_reducible rfl)); (first | (refine lD (wz rfl rfl rfl rfl) hL rfl rfl HasV.mem (by rfl) ?_) | (refine lB (wz rfl rfl rfl rfl) hL rfl rfl HasV.mem (by rfl) ?_) | (refine lE (wz rfl rfl rfl rfl) hL rfl rfl HasV.mem SegC.seg ?_))))
  go_ret
  exact ⟨rfl, hL.below⟩
end Go.Proofs.Ytebpacmhdkgfeaa

/- Package facts: Same of states that say the same. -/
namespace Go.Proofs.Ytebpacmhdkgfeaa
open Go.RowKit
set_option maxHeartbeats 4000000
set_option maxRecDepth 20000
theorem nodes_eq (v u : Value) (ns ms : List Nd) (w : World) (hx : encN.R w v ns) (hy : encN.R w u ms) (hd : ns.map (·.d) = ms.map (·.d)) (o1 : ∀ n ∈ ns, n.s.Ok w n.d) (o2 : ∀ n ∈ ms, n.s.Ok w n.d) :
    Calls Try.prog 47 #[v, u, .func (.func 48) #[] #[]] w fun e w' => e = .returned (.bool true) ∧ Below w.heap.size w w' := by
  have hL := Loc.nil w NoM
  have hm := R_max hx
  have hll : ns.length = ms.length := by have := congrArg List.length hd; simpa using this
  obtain ⟨a1, c1, rfl, h1⟩ := R_elem hx
  obtain ⟨a2, c2, rfl, h2⟩ := R_elem hy
  have HD := Lib.hid hd
  have HLL := Lib.hid hll
  have O1 := Lib.hid o1
  have O2 := Lib.hid o2
  rw [← hll]
  clear hx hy hd o1 o2 hll
  go_enter Try.func47, Try.ntmps47
  go_wp2_with (first | ((with_reducible refine qD rfl rfl ?_); (refine lI rfl hL rfl cy ?_; clear hL; intro gq wq hL)) | ((with_reducible refine qE rfl rfl ?_); (refine lJ rfl hL rfl rfl cy ?_; clear hL; intro gq wq hL)) | ((with_reducible refine qB rfl rfl ?_); (first | (refine lC rfl hL rfl rfl HasV.mem (by rfl) ?_) | (refine lA rfl hL rfl rfl HasV.mem (by rfl) ?_) | (refine lF rfl hL rfl rfl HasV.mem SegC.seg ?_))) | ((with_reducible refine qC rfl rfl ?_); (first | (refine lH rfl hL rfl rfl rfl cy (by rfl) ?_) | (refine lG rfl hL rfl rfl rfl cy (by rfl) (by rfl) ?_)); clear hL; intro wq hL) | ((with_reducible refine qA rfl rfl ?_ ?_); (exact wz rfl rfl rfl (by with_reducible rfl)); (first | (refine lD (wz rfl rfl rfl rfl) hL rfl rfl HasV.mem (by rfl) ?_) | (refine lB (wz rfl rfl rfl rfl) hL rfl rfl HasV.mem (by rfl) ?_) | (refine lE (wz rfl rfl rfl rfl) hL rfl rfl HasV.mem SegC.seg ?_))))
  go_loopw [17] (fun i wr => ∃ k : Nat, k ≤ ns.length ∧ i = .int .i64 k ∧ Loc w NoM wr []) (fun i _ => ns.length - (intOf i).toNat)
  case atStart => exact ⟨0, by omega, rfl, hL⟩
  case round =>
    clear hL
    obtain ⟨k, hk, rfl, hL⟩ := hrel
    by_cases hlt : k < ns.length
    · have hlt2 : k < ms.length := by have := HLL.out; omega
      obtain ⟨q1, o1, rfl, r1⟩ := h1 k hlt
      obtain ⟨q2, o2, rfl, r2⟩ := h2 k hlt2
      have hz1 : World.rangeAt _ q1 (o1 + k * 13) (Ino.cells ns[k].s) := range_below r1 hL.below
      have hz2 : w.rangeAt q2 (o2 + k * 13) (Ino.cells ms[k].s) := r2
      have hdd : ns[k].d = ms[k].d := by
        have h9 := congrArg (fun l : List InoD => l[k]?) HD.out
        simpa [hlt, hlt2] using h9
      have hq := Lib.hid (fun (wx : World) (hb : Below w.heap.size w wx) => facts_same_1 ns[k].s ms[k].s ns[k].d wx ((O1.out _ (List.getElem_mem hlt)).below hb) (hdd ▸ (O2.out _ (List.getElem_mem hlt2)).below hb))
      clear r1 r2 hdd
      generalize ns[k].s = x at *
      generalize ms[k].s = y at *
      generalize ns[k].d = dd at *
      unfold Ino.cells at hz1 hz2
      go_wp2_with (first
        | ((with_reducible refine qF rfl rfl ?_); refine lL rfl rfl rfl rfl hlt ?_)
        | ((with_reducible refine gate (N := 21) rfl ?_); refine lK rfl rfl rfl hz1 (by rfl) ?_)
        | ((with_reducible refine gate (N := 25) rfl ?_); refine lK rfl rfl rfl (range_below hz2 hL.below) (by rfl) ?_)
        | (go_at_call 48; (refine (hq.out _ hL.below).mono ?_); rintro e w9 ⟨rfl, hb9⟩; have hL := hL.call hb9; clear hb9)
        | ((with_reducible refine gate (N := 8) rfl ?_); (refine lI rfl hL rfl cy ?_; clear hL; intro g8 w8 hL)) | ((with_reducible refine gate (N := 9) rfl ?_); (refine lI rfl hL rfl cy ?_; clear hL; intro g9 w9 hL))
        | ((with_reducible refine qD rfl rfl ?_); (refine lI rfl hL rfl cy ?_; clear hL; intro gq wq hL)) | ((with_reducible refine qE rfl rfl ?_); (refine lJ rfl hL rfl rfl cy ?_; clear hL; intro gq wq hL)) | ((with_reducible refine qB rfl rfl ?_); (first | (refine lC rfl hL rfl rfl HasV.mem (by rfl) ?_) | (refine lA rfl hL rfl rfl HasV.mem (by rfl) ?_) | (refine lF rfl hL rfl rfl HasV.mem SegC.seg ?_))) | ((with_reducible refine qC rfl rfl ?_); (first | (refine lH rfl hL rfl rfl rfl cy (by rfl) ?_) | (refine lG rfl hL rfl rfl rfl cy (by rfl) (by rfl) ?_)); clear hL; intro wq hL) | ((with_reducible refine qA rfl rfl ?_ ?_); (exact wz rfl rfl rfl (by with_reducible rfl)); (first | (refine lD (wz rfl rfl rfl rfl) hL rfl rfl HasV.mem (by rfl) ?_) | (refine lB (wz rfl rfl rfl rfl) hL rfl rfl HasV.mem (by rfl) ?_) | (refine lE (wz rfl rfl rfl rfl) hL rfl rfl HasV.mem SegC.seg ?_))))
      go_roundw
      case rel => exact ⟨k + 1, by omega, by go_num, hL.sub (List.nil_sublist _)⟩
      case measure => simp [intOf]; omega
    · obtain rfl : k = ns.length := by omega
      go_wp2_with (first | ((with_reducible refine qD rfl rfl ?_); (refine lI rfl hL rfl cy ?_; clear hL; intro gq wq hL)) | ((with_reducible refine qE rfl rfl ?_); (refine lJ rfl hL rfl rfl cy ?_; clear hL; intro gq wq hL)) | ((with_reducible refine qB rfl rfl ?_); (first | (refine lC rfl hL rfl rfl HasV.mem (by rfl) ?_) | (refine lA rfl hL rfl rfl HasV.mem (by rfl) ?_) | (refine lF rfl hL rfl rfl HasV.mem SegC.seg ?_))) | ((with_reducible refine qC rfl rfl ?_); (first | (refine lH rfl hL rfl rfl rfl cy (by rfl) ?_) | (refine lG rfl hL rfl rfl rfl cy (by rfl) (by rfl) ?_)); clear hL; intro wq hL) | ((with_reducible refine qA rfl rfl ?_ ?_); (exact wz rfl rfl rfl (by with_reducible rfl)); (first | (refine lD (wz rfl rfl rfl rfl) hL rfl rfl HasV.mem (by rfl) ?_) | (refine lB (wz rfl rfl rfl rfl) hL rfl rfl HasV.mem (by rfl) ?_) | (refine lE (wz rfl rfl rfl rfl) hL rfl rfl HasV.mem SegC.seg ?_))))
      go_ret
      exact ⟨rfl, hL.below⟩
theorem facts_same (s t : Sta) (d : StaD) (w : World) (hs : s.Ok w d) (ht : t.Ok w d) : Calls Try.prog 17 #[.agg (Sta.cells s).toArray, .agg (Sta.cells t).toArray] w fun e w' => e = .returned (.bool true) ∧ Below w.heap.size w w' := by
  have hL := Loc.nil w NoM
  obtain ⟨sv, ⟨a1, n1, c1⟩, ⟨a2, n2, c2⟩⟩ := s
  obtain ⟨tv, ⟨b1, m1, e1⟩, ⟨b2, m2, e2⟩⟩ := t
  obtain ⟨h1, ⟨ns, hns, hno, hnd⟩, hlk⟩ := hs
  obtain ⟨h2, ⟨ms, hms, hmo, hmd⟩, hmk⟩ := ht
  simp only at h1 h2
  subst h1
  subst h2
  have hve := vec_eq d.seen d.seen (r := true) (by simp)
  have H1 := Lib.hid hns; have H2 := Lib.hid hms; have H3 := Lib.hid hlk; have H4 := Lib.hid hmk
  have HD : Hid (ns.map (·.d) = ms.map (·.d)) := Lib.hid (hnd.trans hmd.symm)
  have HA := Lib.hid hno; have HB := Lib.hid hmo
  clear hns hms hno hmo hlk hmk hnd hmd
  unfold Sta.cells
  simp only
  go_enter Try.func17, Try.ntmps17
  go_wp2_with (first
    | ((with_reducible refine gate (N := 2) rfl ?_); (refine lJ rfl hL rfl rfl cy ?_; clear hL; intro g2 w2 hL)) | ((with_reducible refine gate (N := 3) rfl ?_); (refine lJ rfl hL rfl rfl cy ?_; clear hL; intro g3 w3 hL))
    | (go_at_call 46; have hq := lks_eq (.slice a2 n2 c2) (.slice b2 m2 e2) d.links _ (H3.out.below hL.below) (H4.out.below hL.below); (with_reducible refine hq.mono ?_); rintro e w9 ⟨rfl, hb9⟩; clear hq; have hL := hL.call hb9; clear hb9)
    | (go_at_call 47; have hq := nodes_eq (.slice a1 n1 c1) (.slice b1 m1 e1) ns ms _ (H1.out.below hL.below) (H2.out.below hL.below) HD.out (fun n hn => (HA.out n hn).below hL.below) (fun n hn => (HB.out n hn).below hL.below); (with_reducible refine hq.mono ?_); rintro e w9 ⟨rfl, hb9⟩; clear hq; have hL := hL.call hb9; clear hb9)
    | ((with_reducible refine qD rfl rfl ?_); (refine lI rfl hL rfl cy ?_; clear hL; intro gq wq hL)) | ((with_reducible refine qE rfl rfl ?_); (refine lJ rfl hL rfl rfl cy ?_; clear hL; intro gq wq hL)) | ((with_reducible refine qB rfl rfl ?_); (first | (refine lC rfl hL rfl rfl HasV.mem (by rfl) ?_) | (refine lA rfl hL rfl rfl HasV.mem (by rfl) ?_) | (refine lF rfl hL rfl rfl HasV.mem SegC.seg ?_))) | ((with_reducible refine qC rfl rfl ?_); (first | (refine lH rfl hL rfl rfl rfl cy (by rfl) ?_) | (refine lG rfl hL rfl rfl rfl cy (by rfl) (by rfl) ?_)); clear hL; intro wq hL) | ((with_reducible refine qA rfl rfl ?_ ?_); (exact wz rfl rfl rfl (by with_reducible rfl)); (first | (refine lD (wz rfl rfl rfl rfl) hL rfl rfl HasV.mem (by rfl) ?_) | (refine lB (wz rfl rfl rfl rfl) hL rfl rfl HasV.mem (by rfl) ?_) | (refine lE (wz rfl rfl rfl rfl) hL rfl rfl HasV.mem SegC.seg ?_))))
  go_ret
  exact ⟨rfl, hL.below⟩
end Go.Proofs.Ytebpacmhdkgfeaa

/- crannogplain.Small: what it lets in. -/
namespace Go.Proofs.Ytebpacmhdkgfeaa
open Go.RowKit

/-- What crannogplain.Small lets in, as far as it is wanted. -/
structure StaD.plain (d : StaD) : Prop where
  nodes : d.nodes.length ≤ 120
  links : d.links.length ≤ 120
  ps : ∀ n ∈ d.nodes, n.ps.length ≤ 120
  xs : ∀ n ∈ d.nodes, n.xs.length ≤ 120
set_option maxHeartbeats 4000000 in
theorem small_big (s : Sta) (d : StaD) (w : World) (hO : s.Ok w d) (h : 120 < d.nodes.length ∨ 120 < d.links.length) :
    Calls Try.prog 20 #[.agg s.cells.toArray] w fun e w' => e = .returned (.bool false) ∧ Below w.heap.size w w' := by
  have hL := Loc.nil w NoM
  obtain ⟨ns, hns, -, hds⟩ := hO.nodes
  obtain ⟨aon, cn, en, -⟩ := R_elem hns
  obtain ⟨aol, cl, el, -⟩ := R_elem hO.links
  have hnl : ns.length = d.nodes.length := by rw [← hds, List.length_map]
  rw [hnl] at en
  have en1 : s.nodes.a = aon ∧ s.nodes.n = d.nodes.length ∧ s.nodes.c = cn := by unfold Sl.val at en; injection en with a b c; exact ⟨a, b, c⟩
  have el1 : s.links.a = aol ∧ s.links.n = d.links.length ∧ s.links.c = cl := by unfold Sl.val at el; injection el with a b c; exact ⟨a, b, c⟩
  obtain ⟨r1, r2, r3⟩ := en1
  obtain ⟨r4, r5, r6⟩ := el1
  unfold Sta.cells
  rw [r1, r2, r3, r4, r5, r6]
  generalize d.nodes.length = n at *
  generalize d.links.length = m at *
  clear hO hns hds en el hnl r1 r2 r3 r4 r5 r6
  by_cases h1 : 120 < n
  · have t1 : decide ((120 : Int) < (n : Int)) = true := (by first | (simp; done) | (simp; omega))
    go_enter Try.func20, Try.ntmps20
    go_wp2_with (first | ((with_reducible refine qD rfl rfl ?_); (refine lI rfl hL rfl cy ?_; clear hL; intro gq wq hL)) | ((with_reducible refine qE rfl rfl ?_); (refine lJ rfl hL rfl rfl cy ?_; clear hL; intro gq wq hL)) | ((with_reducible refine qB rfl rfl ?_); (first | (refine lC rfl hL rfl rfl HasV.mem (by rfl) ?_) | (refine lA rfl hL rfl rfl HasV.mem (by rfl) ?_) | (refine lF rfl hL rfl rfl HasV.mem SegC.seg ?_))) | ((with_reducible refine qC rfl rfl ?_); (first | (refine lH rfl hL rfl rfl rfl cy (by rfl) ?_) | (refine lG rfl hL rfl rfl rfl cy (by rfl) (by rfl) ?_)); clear hL; intro wq hL) | ((with_reducible refine qA rfl rfl ?_ ?_); (exact wz rfl rfl rfl (by with_reducible rfl)); (first | (refine lD (wz rfl rfl rfl rfl) hL rfl rfl HasV.mem (by rfl) ?_) | (refine lB (wz rfl rfl rfl rfl) hL rfl rfl HasV.mem (by rfl) ?_) | (refine lE (wz rfl rfl rfl rfl) hL rfl rfl HasV.mem SegC.seg ?_))))
    go_ret
    exact ⟨rfl, hL.below⟩
  · have h2 : 120 < m := by omega
    have t1 : decide ((120 : Int) < (n : Int)) = false := (by first | (simp; done) | (simp; omega))
    have t2 : decide ((120 : Int) < (m : Int)) = true := (by first | (simp; done) | (simp; omega))
    clear h
    go_enter Try.func20, Try.ntmps20
    go_wp2_with (first | ((with_reducible refine qD rfl rfl ?_); (refine lI rfl hL rfl cy ?_; clear hL; intro gq wq hL)) | ((with_reducible refine qE rfl rfl ?_); (refine lJ rfl hL rfl rfl cy ?_; clear hL; intro gq wq hL)) | ((with_reducible refine qB rfl rfl ?_); (first | (refine lC rfl hL rfl rfl HasV.mem (by rfl) ?_) | (refine lA rfl hL rfl rfl HasV.mem (by rfl) ?_) | (refine lF rfl hL rfl rfl HasV.mem SegC.seg ?_))) | ((with_reducible refine qC rfl rfl ?_); (first | (refine lH rfl hL rfl rfl rfl cy (by rfl) ?_) | (refine lG rfl hL rfl rfl rfl cy (by rfl) (by rfl) ?_)); clear hL; intro wq hL) | ((with_reducible refine qA rfl rfl ?_ ?_); (exact wz rfl rfl rfl (by with_reducible rfl)); (first | (refine lD (wz rfl rfl rfl rfl) hL rfl rfl HasV.mem (by rfl) ?_) | (refine lB (wz rfl rfl rfl rfl) hL rfl rfl HasV.mem (by rfl) ?_) | (refine lE (wz rfl rfl rfl rfl) hL rfl rfl HasV.mem SegC.seg ?_))))
    go_ret
    exact ⟨rfl, hL.below⟩
set_option maxHeartbeats 8000000 in
theorem small_in (s : Sta) (d : StaD) (w : World) (hO : s.Ok w d) (hn0 : d.nodes.length ≤ 120) (hl0 : d.links.length ≤ 120) :
    Calls Try.prog 20 #[.agg s.cells.toArray] w fun e w' => (∃ b, e = .returned (.bool b) ∧ (b = true → d.plain)) ∧ Below w.heap.size w w' := by
  have hL := Loc.nil w NoM
  obtain ⟨ns, hns, hok, hds⟩ := hO.nodes
  obtain ⟨aon, cn, en, heln⟩ := R_elem hns
  obtain ⟨aol, cl, el, hell⟩ := R_elem hO.links
  have en1 : s.nodes.a = aon ∧ s.nodes.n = ns.length ∧ s.nodes.c = cn := by unfold Sl.val at en; injection en with a b c; exact ⟨a, b, c⟩
  have el1 : s.links.a = aol ∧ s.links.n = d.links.length ∧ s.links.c = cl := by unfold Sl.val at el; injection el with a b c; exact ⟨a, b, c⟩
  have HK := Lib.hid hok
  have HD : Hid ((∀ n ∈ ns, n.d.ps.length ≤ 120 ∧ n.d.xs.length ≤ 120) → d.plain) := Lib.hid (fun h => ⟨hn0, hl0, fun n hn => by
    rw [← hds] at hn; obtain ⟨q, hq, rfl⟩ := List.mem_map.1 hn; exact (h q hq).1, fun n hn => by
    rw [← hds] at hn; obtain ⟨q, hq, rfl⟩ := List.mem_map.1 hn; exact (h q hq).2⟩)
  have hn1 : ns.length ≤ 120 := by rw [← hds, List.length_map] at hn0; exact hn0
  obtain ⟨r1, r2, r3⟩ := en1
  obtain ⟨r4, r5, r6⟩ := el1
  unfold Sta.cells
  rw [r1, r2, r3, r4, r5, r6]
  clear hO hns en el r1 r2 r3 r4 r5 r6 hok hds hn0
  have t1 : decide ((120 : Int) < (ns.length : Int)) = false := (by first | (simp; done) | (simp; omega))
  have t2 : decide ((120 : Int) < (d.links.length : Int)) = false := (by first | (simp; done) | (simp; omega))
  generalize d.links = ls at *
  go_enter Try.func20, Try.ntmps20
  go_wp2_with (first | ((with_reducible refine gate (N := 1) rfl ?_); (refine lJ rfl hL rfl rfl cy ?_; clear hL; intro g1 w1 hL)) | ((with_reducible refine qD rfl rfl ?_); (refine lI rfl hL rfl cy ?_; clear hL; intro gq wq hL)) | ((with_reducible refine qE rfl rfl ?_); (refine lJ rfl hL rfl rfl cy ?_; clear hL; intro gq wq hL)) | ((with_reducible refine qB rfl rfl ?_); (first | (refine lC rfl hL rfl rfl HasV.mem (by rfl) ?_) | (refine lA rfl hL rfl rfl HasV.mem (by rfl) ?_) | (refine lF rfl hL rfl rfl HasV.mem SegC.seg ?_))) | ((with_reducible refine qC rfl rfl ?_); (first | (refine lH rfl hL rfl rfl rfl cy (by rfl) ?_) | (refine lG rfl hL rfl rfl rfl cy (by rfl) (by rfl) ?_)); clear hL; intro wq hL) | ((with_reducible refine qA rfl rfl ?_ ?_); (exact wz rfl rfl rfl (by with_reducible rfl)); (first | (refine lD (wz rfl rfl rfl rfl) hL rfl rfl HasV.mem (by rfl) ?_) | (refine lB (wz rfl rfl rfl rfl) hL rfl rfl HasV.mem (by rfl) ?_) | (refine lE (wz rfl rfl rfl rfl) hL rfl rfl HasV.mem SegC.seg ?_))))
  clear t1 t2
  have HP : Hid (∀ n ∈ ns.take 0, n.d.ps.length ≤ 120 ∧ n.d.xs.length ≤ 120) := Lib.hid (by simp)
  go_loopw [3, 25] (fun sv i wr => ∃ (k : Nat) (m : Int), k ≤ ns.length ∧ i = .int .i64 k ∧ sv = .int .i64 m ∧ 0 ≤ m ∧ m ≤ 16384 ∧ Hid (∀ n ∈ ns.take k, n.d.ps.length ≤ 120 ∧ n.d.xs.length ≤ 120) ∧ Loc w NoM wr [var g1 [.int .i64 s.seen.a0, .int .i64 s.seen.a1, .int .i64 s.seen.a2, .int .i64 s.seen.a3, .int .i64 s.seen.a4, .int .i64 s.seen.a5, .int .i64 s.seen.a6, .int .i64 s.seen.a7, .slice aon ns.length cn, .slice aol ls.length cl] 27]) (fun _ i _ => ns.length - (intOf i).toNat)
  case atStart => exact ⟨0, 0, by omega, rfl, rfl, by omega, by omega, HP, hL⟩
  case round =>
    clear hL HP
    obtain ⟨k, m, hk, rfl, rfl, hm0, hm1, HP, hL⟩ := hrel
    by_cases hlt : k < ns.length
    · obtain ⟨g, off, rfl, hr⟩ := heln k hlt
      have hrW : wr.rangeAt g (off + k * 13) (Ino.cells ns[k].s) := range_below hr hL.below
      clear hr
      have hoq : ns[k].s.Ok w ns[k].d := HK.out _ (List.getElem_mem hlt)
      have HP2 : Hid (ns[k].d.ps.length ≤ 120 → ns[k].d.xs.length ≤ 120 → ∀ n ∈ ns.take (k + 1), n.d.ps.length ≤ 120 ∧ n.d.xs.length ≤ 120) := Lib.hid (fun a b n hn => by
        rw [(List.take_append_getElem hlt).symm, List.mem_append, List.mem_singleton] at hn
        rcases hn with hn | rfl
        · exact HP.out n hn
        · exact ⟨a, b⟩)
      clear HP
      generalize ns[k] = q at *
      obtain ⟨aop, cp, ep, help⟩ := R_elem hoq.ps
      obtain ⟨aox, cx, ex, helx⟩ := R_elem hoq.xs
      obtain ⟨⟨hd, p, x⟩, ⟨hd2, ps, xs⟩⟩ := q
      simp only [Sl.val] at ep ex
      have ep1 : p.a = aop ∧ p.n = ps.length ∧ p.c = cp := by injection ep with a b c; exact ⟨a, b, c⟩
      have ex1 : x.a = aox ∧ x.n = xs.length ∧ x.c = cx := by injection ex with a b c; exact ⟨a, b, c⟩
      clear ep ex hoq
      simp only [Ino.cells] at hrW
      rw [ep1.1, ep1.2.1, ep1.2.2, ex1.1, ex1.2.1, ex1.2.2] at hrW
      clear ep1 ex1
      replace HP2 : Hid (ps.length ≤ 120 → xs.length ≤ 120 → ∀ n ∈ ns.take (k + 1), n.d.ps.length ≤ 120 ∧ n.d.xs.length ≤ 120) := HP2
      replace help : ∀ (i : Nat) (hi : i < ps.length), ∃ g off, aop = some ⟨g, off, none⟩ ∧ w.rangeAt g (off + i * 4) (Pce.cells ps[i]) := help
      replace helx : ∀ (i : Nat) (hi : i < xs.length), ∃ g off, aox = some ⟨g, off, none⟩ ∧ w.rangeAt g (off + i * 5) (Xat.cells xs[i]) := helx
      go_upto_region 7 with (first | ((with_reducible refine gate (N := 5) rfl ?_); (refine lI rfl hL rfl cy ?_; clear hL; intro g5 w5 hL)) | ((with_reducible refine qF rfl rfl ?_); refine lL rfl rfl rfl rfl hlt ?_) | ((with_reducible refine gate (N := 28) rfl ?_); refine lK rfl rfl rfl hrW (by rfl) ?_) | ((with_reducible refine qD rfl rfl ?_); (refine lI rfl hL rfl cy ?_; clear hL; intro gq wq hL)) | ((with_reducible refine qE rfl rfl ?_); (refine lJ rfl hL rfl rfl cy ?_; clear hL; intro gq wq hL)) | ((with_reducible refine qB rfl rfl ?_); (first | (refine lC rfl hL rfl rfl HasV.mem (by rfl) ?_) | (refine lA rfl hL rfl rfl HasV.mem (by rfl) ?_) | (refine lF rfl hL rfl rfl HasV.mem SegC.seg ?_))) | ((with_reducible refine qC rfl rfl ?_); (first | (refine lH rfl hL rfl rfl rfl cy (by rfl) ?_) | (refine lG rfl hL rfl rfl rfl cy (by rfl) (by rfl) ?_)); clear hL; intro wq hL) | ((with_reducible refine qA rfl rfl ?_ ?_); (exact wz rfl rfl rfl (by with_reducible rfl)); (first | (refine lD (wz rfl rfl rfl rfl) hL rfl rfl HasV.mem (by rfl) ?_) | (refine lB (wz rfl rfl rfl rfl) hL rfl rfl HasV.mem (by rfl) ?_) | (refine lE (wz rfl rfl rfl rfl) hL rfl rfl HasV.mem SegC.seg ?_))))
      simp only [Act.put, zs, zt, zu]
      go_cut [3] (fun sv wx => ∃ m2 : Int, sv = .int .i64 m2 ∧ 0 ≤ m2 ∧ m2 ≤ 32768 ∧ wx = wq)
      case first =>
        go_wp2_with (first | ((with_reducible refine qD rfl rfl ?_); (refine lI rfl hL rfl cy ?_; clear hL; intro gq wq hL)) | ((with_reducible refine qE rfl rfl ?_); (refine lJ rfl hL rfl rfl cy ?_; clear hL; intro gq wq hL)) | ((with_reducible refine qB rfl rfl ?_); (first | (refine lC rfl hL rfl rfl HasV.mem (by rfl) ?_) | (refine lA rfl hL rfl rfl HasV.mem (by rfl) ?_) | (refine lF rfl hL rfl rfl HasV.mem SegC.seg ?_))) | ((with_reducible refine qC rfl rfl ?_); (first | (refine lH rfl hL rfl rfl rfl cy (by rfl) ?_) | (refine lG rfl hL rfl rfl rfl cy (by rfl) (by rfl) ?_)); clear hL; intro wq hL) | ((with_reducible refine qA rfl rfl ?_ ?_); (exact wz rfl rfl rfl (by with_reducible rfl)); (first | (refine lD (wz rfl rfl rfl rfl) hL rfl rfl HasV.mem (by rfl) ?_) | (refine lB (wz rfl rfl rfl rfl) hL rfl rfl HasV.mem (by rfl) ?_) | (refine lE (wz rfl rfl rfl rfl) hL rfl rfl HasV.mem SegC.seg ?_))))
        all_goals go_meet
        all_goals exact ⟨_, rfl, by omega, by omega, rfl⟩
      case rest =>
      obtain ⟨m2, rfl, hm20, hm21, rfl⟩ := hcut
      by_cases c1 : 120 < ps.length
      · have t1 : decide ((120 : Int) < (ps.length : Int)) = true := (by first | (simp; done) | (simp; omega))
        go_wp2_with (first | ((with_reducible refine qD rfl rfl ?_); (refine lI rfl hL rfl cy ?_; clear hL; intro gq wq hL)) | ((with_reducible refine qE rfl rfl ?_); (refine lJ rfl hL rfl rfl cy ?_; clear hL; intro gq wq hL)) | ((with_reducible refine qB rfl rfl ?_); (first | (refine lC rfl hL rfl rfl HasV.mem (by rfl) ?_) | (refine lA rfl hL rfl rfl HasV.mem (by rfl) ?_) | (refine lF rfl hL rfl rfl HasV.mem SegC.seg ?_))) | ((with_reducible refine qC rfl rfl ?_); (first | (refine lH rfl hL rfl rfl rfl cy (by rfl) ?_) | (refine lG rfl hL rfl rfl rfl cy (by rfl) (by rfl) ?_)); clear hL; intro wq hL) | ((with_reducible refine qA rfl rfl ?_ ?_); (exact wz rfl rfl rfl (by with_reducible rfl)); (first | (refine lD (wz rfl rfl rfl rfl) hL rfl rfl HasV.mem (by rfl) ?_) | (refine lB (wz rfl rfl rfl rfl) hL rfl rfl HasV.mem (by rfl) ?_) | (refine lE (wz rfl rfl rfl rfl) hL rfl rfl HasV.mem SegC.seg ?_))))
        go_ret
        exact ⟨⟨false, rfl, by simp⟩, hL.below⟩
      by_cases c2 : 120 < xs.length
      · have t1 : decide ((120 : Int) < (ps.length : Int)) = false := (by first | (simp; done) | (simp; omega))
        have t2 : decide ((120 : Int) < (xs.length : Int)) = true := (by first | (simp; done) | (simp; omega))
        go_wp2_with (first | ((with_reducible refine qD rfl rfl ?_); (refine lI rfl hL rfl cy ?_; clear hL; intro gq wq hL)) | ((with_reducible refine qE rfl rfl ?_); (refine lJ rfl hL rfl rfl cy ?_; clear hL; intro gq wq hL)) | ((with_reducible refine qB rfl rfl ?_); (first | (refine lC rfl hL rfl rfl HasV.mem (by rfl) ?_) | (refine lA rfl hL rfl rfl HasV.mem (by rfl) ?_) | (refine lF rfl hL rfl rfl HasV.mem SegC.seg ?_))) | ((with_reducible refine qC rfl rfl ?_); (first | (refine lH rfl hL rfl rfl rfl cy (by rfl) ?_) | (refine lG rfl hL rfl rfl rfl cy (by rfl) (by rfl) ?_)); clear hL; intro wq hL) | ((with_reducible refine qA rfl rfl ?_ ?_); (exact wz rfl rfl rfl (by with_reducible rfl)); (first | (refine lD (wz rfl rfl rfl rfl) hL rfl rfl HasV.mem (by rfl) ?_) | (refine lB (wz rfl rfl rfl rfl) hL rfl rfl HasV.mem (by rfl) ?_) | (refine lE (wz rfl rfl rfl rfl) hL rfl rfl HasV.mem SegC.seg ?_))))
        go_ret
        exact ⟨⟨false, rfl, by simp⟩, hL.below⟩
      have HQ := Lib.hid (HP2.out (by omega) (by omega))
      have t1 : decide ((120 : Int) < (ps.length : Int)) = false := (by first | (simp; done) | (simp; omega))
      have t2 : decide ((120 : Int) < (xs.length : Int)) = false := (by first | (simp; done) | (simp; omega))
      clear HP2
      go_wp2_with (first | ((with_reducible refine qD rfl rfl ?_); (refine lI rfl hL rfl cy ?_; clear hL; intro gq wq hL)) | ((with_reducible refine qE rfl rfl ?_); (refine lJ rfl hL rfl rfl cy ?_; clear hL; intro gq wq hL)) | ((with_reducible refine qB rfl rfl ?_); (first | (refine lC rfl hL rfl rfl HasV.mem (by rfl) ?_) | (refine lA rfl hL rfl rfl HasV.mem (by rfl) ?_) | (refine lF rfl hL rfl rfl HasV.mem SegC.seg ?_))) | ((with_reducible refine qC rfl rfl ?_); (first | (refine lH rfl hL rfl rfl rfl cy (by rfl) ?_) | (refine lG rfl hL rfl rfl rfl cy (by rfl) (by rfl) ?_)); clear hL; intro wq hL) | ((with_reducible refine qA rfl rfl ?_ ?_); (exact wz rfl rfl rfl (by with_reducible rfl)); (first | (refine lD (wz rfl rfl rfl rfl) hL rfl rfl HasV.mem (by rfl) ?_) | (refine lB (wz rfl rfl rfl rfl) hL rfl rfl HasV.mem (by rfl) ?_) | (refine lE (wz rfl rfl rfl rfl) hL rfl rfl HasV.mem SegC.seg ?_))))
      clear t1 t2 hrW
      go_loopw [3, 48] (fun sv i wr => ∃ (j : Nat) (m : Int), j ≤ ps.length ∧ i = .int .i64 j ∧ sv = .int .i64 m ∧ 0 ≤ m ∧ m ≤ 32768 + j * 16385 ∧ Loc w NoM wr [var g5 [.int .i64 hd.id.boot, .int .i64 hd.id.n, .int .i64 hd.kind, .string hd.text, .int .i64 hd.attr.at_.boot, .int .i64 hd.attr.at_.n, .int .i64 hd.attr.mode, .int .u64 hd.attr.time, .int .i64 hd.size.at_.boot, .int .i64 hd.size.at_.n, .int .i64 hd.size.n, .slice aop ps.length cp, .slice aox xs.length cx] 43, var g1 [.int .i64 s.seen.a0, .int .i64 s.seen.a1, .int .i64 s.seen.a2, .int .i64 s.seen.a3, .int .i64 s.seen.a4, .int .i64 s.seen.a5, .int .i64 s.seen.a6, .int .i64 s.seen.a7, .slice (some ⟨g, off, none⟩) ns.length cn, .slice aol ls.length cl] 27]) (fun _ i _ => ps.length - (intOf i).toNat)
      case atStart => exact ⟨0, m2, by omega, rfl, rfl, by omega, by omega, hL⟩
      case round =>
        clear hL
        obtain ⟨j, m, hj, rfl, rfl, hm0, hm1, hL⟩ := hrel
        by_cases hlj : j < ps.length
        · obtain ⟨g2, off2, rfl, hr⟩ := help j hlj
          have hrW : World.rangeAt _ g2 (off2 + j * 4) (Pce.cells ps[j]) := range_below hr hL.below
          clear hr
          generalize ps[j] = q at *
          have hqs : 0 ≤ (q.data.size : Int) := by omega
          go_wp2_with (first
            | ((with_reducible refine qF rfl rfl ?_); refine lL rfl rfl rfl rfl hlj ?_) | ((with_reducible refine gate (N := 51) rfl ?_); refine lK rfl rfl rfl hrW (by rfl) ?_) | ((with_reducible refine qD rfl rfl ?_); (refine lI rfl hL rfl cy ?_; clear hL; intro gq wq hL)) | ((with_reducible refine qE rfl rfl ?_); (refine lJ rfl hL rfl rfl cy ?_; clear hL; intro gq wq hL)) | ((with_reducible refine qB rfl rfl ?_); (first | (refine lC rfl hL rfl rfl HasV.mem (by rfl) ?_) | (refine lA rfl hL rfl rfl HasV.mem (by rfl) ?_) | (refine lF rfl hL rfl rfl HasV.mem SegC.seg ?_))) | ((with_reducible refine qC rfl rfl ?_); (first | (refine lH rfl hL rfl rfl rfl cy (by rfl) ?_) | (refine lG rfl hL rfl rfl rfl cy (by rfl) (by rfl) ?_)); clear hL; intro wq hL) | ((with_reducible refine qA rfl rfl ?_ ?_); (exact wz rfl rfl rfl (by with_reducible rfl)); (first | (refine lD (wz rfl rfl rfl rfl) hL rfl rfl HasV.mem (by rfl) ?_) | (refine lB (wz rfl rfl rfl rfl) hL rfl rfl HasV.mem (by rfl) ?_) | (refine lE (wz rfl rfl rfl rfl) hL rfl rfl HasV.mem SegC.seg ?_))))
          all_goals (go_roundw; (case rel => exact ⟨j + 1, _, by omega, by go_num, rfl, by omega, by omega, hL.sub (by repeat (first | exact List.nil_sublist _ | with_reducible apply List.Sublist.cons_cons | with_reducible apply List.Sublist.cons))⟩); (case measure => simp [intOf]; omega))
        · obtain rfl : j = ps.length := by omega
          go_wp2_with (first | ((with_reducible refine qD rfl rfl ?_); (refine lI rfl hL rfl cy ?_; clear hL; intro gq wq hL)) | ((with_reducible refine qE rfl rfl ?_); (refine lJ rfl hL rfl rfl cy ?_; clear hL; intro gq wq hL)) | ((with_reducible refine qB rfl rfl ?_); (first | (refine lC rfl hL rfl rfl HasV.mem (by rfl) ?_) | (refine lA rfl hL rfl rfl HasV.mem (by rfl) ?_) | (refine lF rfl hL rfl rfl HasV.mem SegC.seg ?_))) | ((with_reducible refine qC rfl rfl ?_); (first | (refine lH rfl hL rfl rfl rfl cy (by rfl) ?_) | (refine lG rfl hL rfl rfl rfl cy (by rfl) (by rfl) ?_)); clear hL; intro wq hL) | ((with_reducible refine qA rfl rfl ?_ ?_); (exact wz rfl rfl rfl (by with_reducible rfl)); (first | (refine lD (wz rfl rfl rfl rfl) hL rfl rfl HasV.mem (by rfl) ?_) | (refine lB (wz rfl rfl rfl rfl) hL rfl rfl HasV.mem (by rfl) ?_) | (refine lE (wz rfl rfl rfl rfl) hL rfl rfl HasV.mem SegC.seg ?_))))
          go_loopw [3, 63] (fun sv i wr => ∃ (j : Nat) (m : Int), j ≤ xs.length ∧ i = .int .i64 j ∧ sv = .int .i64 m ∧ 0 ≤ m ∧ m ≤ 3000000 + j * 32769 ∧ Loc w NoM wr [var g1 [.int .i64 s.seen.a0, .int .i64 s.seen.a1, .int .i64 s.seen.a2, .int .i64 s.seen.a3, .int .i64 s.seen.a4, .int .i64 s.seen.a5, .int .i64 s.seen.a6, .int .i64 s.seen.a7, .slice (some ⟨g, off, none⟩) ns.length cn, .slice aol ls.length cl] 27]) (fun _ i _ => xs.length - (intOf i).toNat)
          case atStart => exact ⟨0, m, by omega, rfl, rfl, by omega, by omega, hL.sub (by repeat (first | exact List.nil_sublist _ | with_reducible apply List.Sublist.cons_cons | with_reducible apply List.Sublist.cons))⟩
          case round =>
            clear hL
            obtain ⟨j, m, hj, rfl, rfl, hm0, hm1, hL⟩ := hrel
            by_cases hlj : j < xs.length
            · obtain ⟨g3, off3, rfl, hr⟩ := helx j hlj
              have hrW : World.rangeAt _ g3 (off3 + j * 5) (Xat.cells xs[j]) := range_below hr hL.below
              clear hr
              generalize xs[j] = q at *
              have hqs : 0 ≤ (q.name.size : Int) := by omega
              have hqs2 : 0 ≤ (q.val.size : Int) := by omega
              go_wp2_with (first
                | ((with_reducible refine qF rfl rfl ?_); refine lL rfl rfl rfl rfl hlj ?_) | ((with_reducible refine gate (N := 66) rfl ?_); refine lK rfl rfl rfl hrW (by rfl) ?_) | ((with_reducible refine qD rfl rfl ?_); (refine lI rfl hL rfl cy ?_; clear hL; intro gq wq hL)) | ((with_reducible refine qE rfl rfl ?_); (refine lJ rfl hL rfl rfl cy ?_; clear hL; intro gq wq hL)) | ((with_reducible refine qB rfl rfl ?_); (first | (refine lC rfl hL rfl rfl HasV.mem (by rfl) ?_) | (refine lA rfl hL rfl rfl HasV.mem (by rfl) ?_) | (refine lF rfl hL rfl rfl HasV.mem SegC.seg ?_))) | ((with_reducible refine qC rfl rfl ?_); (first | (refine lH rfl hL rfl rfl rfl cy (by rfl) ?_) | (refine lG rfl hL rfl rfl rfl cy (by rfl) (by rfl) ?_)); clear hL; intro wq hL) | ((with_reducible refine qA rfl rfl ?_ ?_); (exact wz rfl rfl rfl (by with_reducible rfl)); (first | (refine lD (wz rfl rfl rfl rfl) hL rfl rfl HasV.mem (by rfl) ?_) | (refine lB (wz rfl rfl rfl rfl) hL rfl rfl HasV.mem (by rfl) ?_) | (refine lE (wz rfl rfl rfl rfl) hL rfl rfl HasV.mem SegC.seg ?_))))
              all_goals (go_roundw; (case rel => exact ⟨j + 1, _, by omega, by go_num, rfl, by omega, by omega, hL.sub (by repeat (first | exact List.nil_sublist _ | with_reducible apply List.Sublist.cons_cons | with_reducible apply List.Sublist.cons))⟩); (case measure => simp [intOf]; omega))
            · obtain rfl : j = xs.length := by omega
              by_cases c3 : 16384 < m
              · have t3 : decide ((16384 : Int) < m) = true := (by first | (simp; done) | (simp; omega))
                go_wp2_with (first | ((with_reducible refine qD rfl rfl ?_); (refine lI rfl hL rfl cy ?_; clear hL; intro gq wq hL)) | ((with_reducible refine qE rfl rfl ?_); (refine lJ rfl hL rfl rfl cy ?_; clear hL; intro gq wq hL)) | ((with_reducible refine qB rfl rfl ?_); (first | (refine lC rfl hL rfl rfl HasV.mem (by rfl) ?_) | (refine lA rfl hL rfl rfl HasV.mem (by rfl) ?_) | (refine lF rfl hL rfl rfl HasV.mem SegC.seg ?_))) | ((with_reducible refine qC rfl rfl ?_); (first | (refine lH rfl hL rfl rfl rfl cy (by rfl) ?_) | (refine lG rfl hL rfl rfl rfl cy (by rfl) (by rfl) ?_)); clear hL; intro wq hL) | ((with_reducible refine qA rfl rfl ?_ ?_); (exact wz rfl rfl rfl (by with_reducible rfl)); (first | (refine lD (wz rfl rfl rfl rfl) hL rfl rfl HasV.mem (by rfl) ?_) | (refine lB (wz rfl rfl rfl rfl) hL rfl rfl HasV.mem (by rfl) ?_) | (refine lE (wz rfl rfl rfl rfl) hL rfl rfl HasV.mem SegC.seg ?_))))
                go_ret
                exact ⟨⟨false, rfl, by simp⟩, hL.below⟩
              · have t3 : decide ((16384 : Int) < m) = false := (by first | (simp; done) | (simp; omega))
                go_wp2_with (first | ((with_reducible refine qD rfl rfl ?_); (refine lI rfl hL rfl cy ?_; clear hL; intro gq wq hL)) | ((with_reducible refine qE rfl rfl ?_); (refine lJ rfl hL rfl rfl cy ?_; clear hL; intro gq wq hL)) | ((with_reducible refine qB rfl rfl ?_); (first | (refine lC rfl hL rfl rfl HasV.mem (by rfl) ?_) | (refine lA rfl hL rfl rfl HasV.mem (by rfl) ?_) | (refine lF rfl hL rfl rfl HasV.mem SegC.seg ?_))) | ((with_reducible refine qC rfl rfl ?_); (first | (refine lH rfl hL rfl rfl rfl cy (by rfl) ?_) | (refine lG rfl hL rfl rfl rfl cy (by rfl) (by rfl) ?_)); clear hL; intro wq hL) | ((with_reducible refine qA rfl rfl ?_ ?_); (exact wz rfl rfl rfl (by with_reducible rfl)); (first | (refine lD (wz rfl rfl rfl rfl) hL rfl rfl HasV.mem (by rfl) ?_) | (refine lB (wz rfl rfl rfl rfl) hL rfl rfl HasV.mem (by rfl) ?_) | (refine lE (wz rfl rfl rfl rfl) hL rfl rfl HasV.mem SegC.seg ?_))))
                go_roundw
                case rel => exact ⟨k + 1, m, by omega, by go_num, rfl, by omega, by omega, HQ, hL⟩
                case measure => simp [intOf]; omega
    · obtain rfl : k = ns.length := by omega
      have HA : Hid d.plain := Lib.hid (HD.out (by have := HP.out; rwa [List.take_length] at this))
      clear HD HP
      go_wp2_with (first | ((with_reducible refine qD rfl rfl ?_); (refine lI rfl hL rfl cy ?_; clear hL; intro gq wq hL)) | ((with_reducible refine qE rfl rfl ?_); (refine lJ rfl hL rfl rfl cy ?_; clear hL; intro gq wq hL)) | ((with_reducible refine qB rfl rfl ?_); (first | (refine lC rfl hL rfl rfl HasV.mem (by rfl) ?_) | (refine lA rfl hL rfl rfl HasV.mem (by rfl) ?_) | (refine lF rfl hL rfl rfl HasV.mem SegC.seg ?_))) | ((with_reducible refine qC rfl rfl ?_); (first | (refine lH rfl hL rfl rfl rfl cy (by rfl) ?_) | (refine lG rfl hL rfl rfl rfl cy (by rfl) (by rfl) ?_)); clear hL; intro wq hL) | ((with_reducible refine qA rfl rfl ?_ ?_); (exact wz rfl rfl rfl (by with_reducible rfl)); (first | (refine lD (wz rfl rfl rfl rfl) hL rfl rfl HasV.mem (by rfl) ?_) | (refine lB (wz rfl rfl rfl rfl) hL rfl rfl HasV.mem (by rfl) ?_) | (refine lE (wz rfl rfl rfl rfl) hL rfl rfl HasV.mem SegC.seg ?_))))
      go_loopw [3, 86] (fun sv i wr => ∃ (j : Nat) (m : Int), j ≤ ls.length ∧ i = .int .i64 j ∧ sv = .int .i64 m ∧ 0 ≤ m ∧ m ≤ 16384 ∧ Loc w NoM wr []) (fun _ i _ => ls.length - (intOf i).toNat)
      case atStart => exact ⟨0, m, by omega, rfl, rfl, by omega, by omega, hL.sub (List.nil_sublist _)⟩
      case round =>
        clear hL
        obtain ⟨j, m, hj, rfl, rfl, hm0, hm1, hL⟩ := hrel
        by_cases hlj : j < ls.length
        · obtain ⟨g3, off3, rfl, hr⟩ := hell j hlj
          have hrW : World.rangeAt _ g3 (off3 + j * 25) (Lnk.cells ls[j]) := range_below hr hL.below
          clear hr
          generalize ls[j] = q at *
          go_upto_region 26 with (first
            | ((with_reducible refine qF rfl rfl ?_); refine lL rfl rfl rfl rfl hlj ?_) | ((with_reducible refine gate (N := 89) rfl ?_); refine lK rfl rfl rfl hrW (by rfl) ?_) | ((with_reducible refine qD rfl rfl ?_); (refine lI rfl hL rfl cy ?_; clear hL; intro gq wq hL)) | ((with_reducible refine qE rfl rfl ?_); (refine lJ rfl hL rfl rfl cy ?_; clear hL; intro gq wq hL)) | ((with_reducible refine qB rfl rfl ?_); (first | (refine lC rfl hL rfl rfl HasV.mem (by rfl) ?_) | (refine lA rfl hL rfl rfl HasV.mem (by rfl) ?_) | (refine lF rfl hL rfl rfl HasV.mem SegC.seg ?_))) | ((with_reducible refine qC rfl rfl ?_); (first | (refine lH rfl hL rfl rfl rfl cy (by rfl) ?_) | (refine lG rfl hL rfl rfl rfl cy (by rfl) (by rfl) ?_)); clear hL; intro wq hL) | ((with_reducible refine qA rfl rfl ?_ ?_); (exact wz rfl rfl rfl (by with_reducible rfl)); (first | (refine lD (wz rfl rfl rfl rfl) hL rfl rfl HasV.mem (by rfl) ?_) | (refine lB (wz rfl rfl rfl rfl) hL rfl rfl HasV.mem (by rfl) ?_) | (refine lE (wz rfl rfl rfl rfl) hL rfl rfl HasV.mem SegC.seg ?_))))
          simp only [Act.put, zs, zt, zu]
          go_cut [3] (fun sv wx => ∃ m2 : Int, sv = .int .i64 m2 ∧ 0 ≤ m2 ∧ m2 ≤ 32768 ∧ wx = wq)
          case first =>
            have hqs : 0 ≤ (q.name.size : Int) := by omega
            go_wp2_with (first | ((with_reducible refine qD rfl rfl ?_); (refine lI rfl hL rfl cy ?_; clear hL; intro gq wq hL)) | ((with_reducible refine qE rfl rfl ?_); (refine lJ rfl hL rfl rfl cy ?_; clear hL; intro gq wq hL)) | ((with_reducible refine qB rfl rfl ?_); (first | (refine lC rfl hL rfl rfl HasV.mem (by rfl) ?_) | (refine lA rfl hL rfl rfl HasV.mem (by rfl) ?_) | (refine lF rfl hL rfl rfl HasV.mem SegC.seg ?_))) | ((with_reducible refine qC rfl rfl ?_); (first | (refine lH rfl hL rfl rfl rfl cy (by rfl) ?_) | (refine lG rfl hL rfl rfl rfl cy (by rfl) (by rfl) ?_)); clear hL; intro wq hL) | ((with_reducible refine qA rfl rfl ?_ ?_); (exact wz rfl rfl rfl (by with_reducible rfl)); (first | (refine lD (wz rfl rfl rfl rfl) hL rfl rfl HasV.mem (by rfl) ?_) | (refine lB (wz rfl rfl rfl rfl) hL rfl rfl HasV.mem (by rfl) ?_) | (refine lE (wz rfl rfl rfl rfl) hL rfl rfl HasV.mem SegC.seg ?_))))
            all_goals go_meet
            all_goals exact ⟨_, rfl, by omega, by omega, rfl⟩
          case rest =>
          obtain ⟨m3, rfl, hm30, hm31, rfl⟩ := hcut
          by_cases c3 : 16384 < m3
          · have t3 : decide ((16384 : Int) < m3) = true := (by first | (simp; done) | (simp; omega))
            go_wp2_with (first | ((with_reducible refine qD rfl rfl ?_); (refine lI rfl hL rfl cy ?_; clear hL; intro gq wq hL)) | ((with_reducible refine qE rfl rfl ?_); (refine lJ rfl hL rfl rfl cy ?_; clear hL; intro gq wq hL)) | ((with_reducible refine qB rfl rfl ?_); (first | (refine lC rfl hL rfl rfl HasV.mem (by rfl) ?_) | (refine lA rfl hL rfl rfl HasV.mem (by rfl) ?_) | (refine lF rfl hL rfl rfl HasV.mem SegC.seg ?_))) | ((with_reducible refine qC rfl rfl ?_); (first | (refine lH rfl hL rfl rfl rfl cy (by rfl) ?_) | (refine lG rfl hL rfl rfl rfl cy (by rfl) (by rfl) ?_)); clear hL; intro wq hL) | ((with_reducible refine qA rfl rfl ?_ ?_); (exact wz rfl rfl rfl (by with_reducible rfl)); (first | (refine lD (wz rfl rfl rfl rfl) hL rfl rfl HasV.mem (by rfl) ?_) | (refine lB (wz rfl rfl rfl rfl) hL rfl rfl HasV.mem (by rfl) ?_) | (refine lE (wz rfl rfl rfl rfl) hL rfl rfl HasV.mem SegC.seg ?_))))
            go_ret
            exact ⟨⟨false, rfl, by simp⟩, hL.below⟩
          · have t3 : decide ((16384 : Int) < m3) = false := (by first | (simp; done) | (simp; omega))
            go_wp2_with (first | ((with_reducible refine qD rfl rfl ?_); (refine lI rfl hL rfl cy ?_; clear hL; intro gq wq hL)) | ((with_reducible refine qE rfl rfl ?_); (refine lJ rfl hL rfl rfl cy ?_; clear hL; intro gq wq hL)) | ((with_reducible refine qB rfl rfl ?_); (first | (refine lC rfl hL rfl rfl HasV.mem (by rfl) ?_) | (refine lA rfl hL rfl rfl HasV.mem (by rfl) ?_) | (refine lF rfl hL rfl rfl HasV.mem SegC.seg ?_))) | ((with_reducible refine qC rfl rfl ?_); (first | (refine lH rfl hL rfl rfl rfl cy (by rfl) ?_) | (refine lG rfl hL rfl rfl rfl cy (by rfl) (by rfl) ?_)); clear hL; intro wq hL) | ((with_reducible refine qA rfl rfl ?_ ?_); (exact wz rfl rfl rfl (by with_reducible rfl)); (first | (refine lD (wz rfl rfl rfl rfl) hL rfl rfl HasV.mem (by rfl) ?_) | (refine lB (wz rfl rfl rfl rfl) hL rfl rfl HasV.mem (by rfl) ?_) | (refine lE (wz rfl rfl rfl rfl) hL rfl rfl HasV.mem SegC.seg ?_))))
            go_roundw
            case rel => first | exact ⟨j + 1, m3, by omega, by go_num, rfl, hm30, by omega, hL.sub (List.nil_sublist _)⟩ | ((repeat apply Exists.intro); exact ⟨⟨j + 1, m3, by omega, by go_num, rfl, hm30, by omega, hL.sub (List.nil_sublist _)⟩, rfl⟩)
            case measure => simp [intOf]; omega
        · obtain rfl : j = ls.length := by omega
          go_wp2_with (first | ((with_reducible refine qD rfl rfl ?_); (refine lI rfl hL rfl cy ?_; clear hL; intro gq wq hL)) | ((with_reducible refine qE rfl rfl ?_); (refine lJ rfl hL rfl rfl cy ?_; clear hL; intro gq wq hL)) | ((with_reducible refine qB rfl rfl ?_); (first | (refine lC rfl hL rfl rfl HasV.mem (by rfl) ?_) | (refine lA rfl hL rfl rfl HasV.mem (by rfl) ?_) | (refine lF rfl hL rfl rfl HasV.mem SegC.seg ?_))) | ((with_reducible refine qC rfl rfl ?_); (first | (refine lH rfl hL rfl rfl rfl cy (by rfl) ?_) | (refine lG rfl hL rfl rfl rfl cy (by rfl) (by rfl) ?_)); clear hL; intro wq hL) | ((with_reducible refine qA rfl rfl ?_ ?_); (exact wz rfl rfl rfl (by with_reducible rfl)); (first | (refine lD (wz rfl rfl rfl rfl) hL rfl rfl HasV.mem (by rfl) ?_) | (refine lB (wz rfl rfl rfl rfl) hL rfl rfl HasV.mem (by rfl) ?_) | (refine lE (wz rfl rfl rfl rfl) hL rfl rfl HasV.mem SegC.seg ?_))))
          go_ret
          exact ⟨⟨true, rfl, fun _ => HA.out⟩, hL.below⟩
theorem plain_small (s : Sta) (d : StaD) (w : World) (hO : s.Ok w d) :
    Calls Try.prog 20 #[.agg s.cells.toArray] w fun e w' => (∃ b, e = .returned (.bool b) ∧ (b = true → d.plain)) ∧ Below w.heap.size w w' := by
  by_cases h1 : d.nodes.length ≤ 120
  · by_cases h2 : d.links.length ≤ 120
    · exact small_in s d w hO h1 h2
    · exact (small_big s d w hO (.inr (by omega))).mono fun _ _ ⟨he, hb⟩ => ⟨⟨false, he, by simp⟩, hb⟩
  · exact (small_big s d w hO (.inl (by omega))).mono fun _ _ ⟨he, hb⟩ => ⟨⟨false, he, by simp⟩, hb⟩
end Go.Proofs.Ytebpacmhdkgfeaa

/- Chapter 11, plainly: the document's way (each inode put in as two of it) and the program's. -/
namespace Go.Proofs.Ytebpacmhdkgfeaa
open Go.RowKit

theorem foldG_again {α : Type} (f : α → α → α) (A B : List α) : Stab.foldG id f (Stab.foldG id f A ++ B) = Stab.foldG id f (A ++ B) := by
  cases A with
  | nil => rfl
  | cons a t => simp [Stab.foldG]
/-- What is folded once folds on as what it came of. -/
theorem rfold_again {α : Type} {lt : α → α → Bool} {f : α → α → α} (ho : Stab.Ord lt) (hk : Stab.Keeps lt id f) (a b : List α) : Stab.rfold lt id f (Stab.rfold lt id f a ++ b) = Stab.rfold lt id f (a ++ b) := by
  refine (Stab.rfold_folds ho hk _).uniq ho ⟨(Stab.rfold_folds ho hk _).strict, fun z => ?_⟩
  rw [(Stab.rfold_folds ho hk _).cls z, List.filter_append, List.filter_append, (Stab.rfold_folds ho hk a).cls z, foldG_again]
/-- What is folded twice. -/
theorem rfold_twice {α : Type} {lt : α → α → Bool} {f : α → α → α} (ho : Stab.Ord lt) (hk : Stab.Keeps lt id f) (hd : ∀ (p : α) (t : List α), (∀ x ∈ t, Stab.eqv lt p x = true) → (p :: t).foldl f (t.foldl f p) = t.foldl f p) (a : List α) : Stab.rfold lt id f (a ++ a) = Stab.rfold lt id f a := by
  refine (Stab.rfold_folds ho hk _).uniq ho ⟨(Stab.rfold_folds ho hk _).strict, fun z => ?_⟩
  rw [(Stab.rfold_folds ho hk _).cls z, List.filter_append]
  cases h : a.filter (Stab.eqv lt z) with
  | nil => rfl
  | cons p t =>
    have hz : ∀ x ∈ p :: t, Stab.eqv lt z x = true := fun x hx => by rw [← h] at hx; exact (List.mem_filter.1 hx).2
    have := hd p t fun x hx => Stab.eqv_trans ho (Stab.eqv_swap (hz p (.head _))) (hz x (.tail _ hx))
    simp only [Stab.foldG, List.cons_append, List.foldl_append, id]
    rw [this]
theorem foldl_low {α : Type} {f : α → α → α} (q : α) : ∀ l : List α, (∀ x ∈ l, f q x = q) → l.foldl f q = q
  | [], _ => rfl
  | x :: l, h => by rw [List.foldl_cons, h x (.head _)]; exact foldl_low q l fun y hy => h y (.tail _ hy)
theorem Pce.top_low {a b : Pce} (h : ¬ a.cmps b < 0) : a.top b = a := if_neg h
theorem Xat.top_low {a b : Xat} (h : ¬ a.cmps b < 0) : a.top b = a := if_neg h
theorem Pce.cmps_trans {a b c : Pce} (h : a.cmps b < 0) (k : b.cmps c < 0) : a.cmps c < 0 := by
  rw [Pce.cmps_lt] at *
  rcases h with h | ⟨h1, h2⟩ <;> rcases k with k | ⟨k1, k2⟩
  · exact .inl (Mk.lss_trans h k)
  · exact .inl (k1 ▸ h)
  · exact .inl (h1 ▸ k)
  · exact .inr ⟨h1.trans k1, slt_trans h2 k2⟩
theorem Xat.cmps_trans {a b c : Xat} (h : a.cmps b < 0) (k : b.cmps c < 0) : a.cmps c < 0 := by
  rw [Xat.cmps_lt] at *
  rcases h with h | ⟨h1, h2⟩ <;> rcases k with k | ⟨k1, k2⟩
  · exact .inl (Mk.lss_trans h k)
  · exact .inl (k1 ▸ h)
  · exact .inl (h1 ▸ k)
  · refine .inr ⟨h1.trans k1, ?_⟩
    rcases h2 with h2 | ⟨h2, h3⟩ <;> rcases k2 with k2 | ⟨k2, k3⟩
    · exact .inl (by omega)
    · exact .inl (by omega)
    · exact .inl (by omega)
    · exact .inr ⟨h2.trans k2, slt_trans h3 k3⟩
theorem Pce.cmps_irr (a : Pce) : ¬ a.cmps a < 0 := by
  rw [Pce.cmps_lt, slt_irr]
  have := Mk.lss_irr a.at_
  simp [this]
theorem Xat.cmps_irr (a : Xat) : ¬ a.cmps a < 0 := by
  rw [Xat.cmps_lt, slt_irr]
  have := Mk.lss_irr a.at_
  simp [this]
theorem Pce.top_dom (p : Pce) (t : List Pce) : ∀ x ∈ p :: t, ¬ (t.foldl Pce.top p).cmps x < 0 := fun x hx => by
  refine foldl_dom (f := Pce.top) (R := fun p x => ¬ p.cmps x < 0) (fun p y x h => ?_) (fun p y => ?_) t p x ?_
  · unfold Pce.top
    split
    · rename_i h1
      exact fun h2 => h (Pce.cmps_trans h1 h2)
    · exact h
  · unfold Pce.top
    split
    · exact Pce.cmps_irr y
    · assumption
  · rcases List.mem_cons.1 hx with rfl | hx
    · exact .inl (Pce.cmps_irr _)
    · exact .inr hx
theorem Xat.top_dom (p : Xat) (t : List Xat) : ∀ x ∈ p :: t, ¬ (t.foldl Xat.top p).cmps x < 0 := fun x hx => by
  refine foldl_dom (f := Xat.top) (R := fun p x => ¬ p.cmps x < 0) (fun p y x h => ?_) (fun p y => ?_) t p x ?_
  · unfold Xat.top
    split
    · rename_i h1
      exact fun h2 => h (Xat.cmps_trans h1 h2)
    · exact h
  · unfold Xat.top
    split
    · exact Xat.cmps_irr y
    · assumption
  · rcases List.mem_cons.1 hx with rfl | hx
    · exact .inl (Xat.cmps_irr _)
    · exact .inr hx
theorem listed_twice (a : List Pce) : listedD (a ++ a) = listedD a := rfold_twice Pce.ord Pce.keeps (fun p t _ => foldl_low _ _ fun x hx => Pce.top_low (Pce.top_dom p t x hx)) a
theorem named_twice (a : List Xat) : namedD (a ++ a) = namedD a := rfold_twice Xat.ord Xat.keeps (fun p t _ => foldl_low _ _ fun x hx => Xat.top_low (Xat.top_dom p t x hx)) a
theorem listed_again (a b : List Pce) : listedD (listedD a ++ b) = listedD (a ++ b) := rfold_again Pce.ord Pce.keeps a b
theorem named_again (a b : List Xat) : namedD (namedD a ++ b) = namedD (a ++ b) := rfold_again Xat.ord Xat.keeps a b
theorem listed_listed (a : List Pce) : listedD (listedD a) = listedD a := by have := listed_again a []; simpa using this
theorem named_named (a : List Xat) : namedD (namedD a) = namedD a := by have := named_again a []; simpa using this
theorem imax_self (a : Int) : imax a a = a := by unfold imax; split <;> rfl
theorem smax_self (a : ByteArray) : smax a a = a := by unfold smax; split <;> rfl
theorem Atr.top_self (a : Atr) : a.top a = a := by unfold Atr.top; split <;> rfl
theorem Siz.top_self (a : Siz) : a.top a = a := by unfold Siz.top; split <;> rfl
theorem InoD.one_self (a : InoD) : a.one a = a.norm := by
  unfold InoD.one InoD.norm
  rw [imax_self, smax_self, Atr.top_self, Siz.top_self, listed_twice, named_twice]
theorem InoD.norm_one (a b : InoD) : (a.one b).norm = a.one b := by
  unfold InoD.one InoD.norm
  simp only [listed_listed, named_named]
theorem InoD.one_norm (a b : InoD) : a.norm.one b = a.one b := by
  unfold InoD.one InoD.norm
  simp only [listed_again, named_again]
theorem InoD.norm_norm (a : InoD) : a.norm.norm = a.norm := by
  unfold InoD.norm
  simp only [listed_listed, named_named]
theorem foldl_norm : ∀ (t : List InoD) (a : InoD), t.foldl InoD.one a.norm = (t.foldl InoD.one a).norm
  | [], a => rfl
  | x :: t, a => by
    rw [List.foldl_cons, List.foldl_cons, InoD.one_norm, ← InoD.norm_one a x, foldl_norm t, InoD.norm_norm]
theorem InoD.keepsN : Stab.Keeps InoD.lt InoD.norm InoD.one := ⟨fun x => InoD.eqv_iff.2 rfl, fun p x h => InoD.eqv_iff.2 rfl⟩
theorem filter_norm (z : InoD) (l : List InoD) : (l.map InoD.norm).filter (Stab.eqv InoD.lt z) = (l.filter (Stab.eqv InoD.lt z)).map InoD.norm := by
  rw [List.filter_map]
  congr 1
/-- The document's inodes are the program's. -/
theorem nodes_doc (l : List InoD) : Stab.rfold InoD.lt InoD.norm InoD.one l = (nodesD l).map InoD.norm := by
  refine (Stab.rfold_folds InoD.ord InoD.keepsN l).uniq InoD.ord ⟨?_, fun z => ?_⟩
  · have h := (nodes_folds l).strict
    unfold Stab.Strict at *
    rw [List.pairwise_map]
    exact h
  · rw [filter_norm, (nodes_folds l).cls z]
    cases l.filter (Stab.eqv InoD.lt z) with
    | nil => rfl
    | cons a t => simp [Stab.foldG, foldl_norm]
end Go.Proofs.Ytebpacmhdkgfeaa

/- Chapter 11, plainly: states as one hang neither on order nor on repetition. -/
namespace Go.Proofs.Ytebpacmhdkgfeaa
open Go.RowKit

theorem foldl_in {α : Type} {f : α → α → α} (h : ∀ a b, f a b = a ∨ f a b = b) : ∀ (t : List α) (a : α), t.foldl f a ∈ a :: t
  | [], a => .head _
  | x :: t, a => by
    rw [List.foldl_cons]
    rcases List.mem_cons.1 (foldl_in h t (f a x)) with e | e
    · rw [e]
      rcases h a x with e | e <;> rw [e]
      · exact .head _
      · exact .tail _ (.head _)
    · exact .tail _ (.tail _ e)
/-- The last of a list by an order hangs on what is in it alone. -/
theorem fold_set {α : Type} {f : α → α → α} {r : α → α → Prop} (hf : ∀ a b, (r a b ∧ f a b = b) ∨ (¬ r a b ∧ f a b = a)) (irr : ∀ a, ¬ r a a) (tr : ∀ a b c, r a b → r b c → r a c) {a a' : α} {t t' : List α} (hm : ∀ x, x ∈ a :: t ↔ x ∈ a' :: t')
    (tri : ∀ x ∈ a :: t, ∀ y ∈ a :: t, ¬ r x y → ¬ r y x → x = y) : t.foldl f a = t'.foldl f a' := by
  have sel : ∀ a b, f a b = a ∨ f a b = b := fun a b => (hf a b).elim (fun h => .inr h.2) fun h => .inl h.2
  have i1 := foldl_in sel t a
  have i2 := (hm _).2 (foldl_in sel t' a')
  have dom : ∀ (t : List α) (a x : α), x ∈ a :: t → ¬ r (t.foldl f a) x := fun t a x hx => by
    refine foldl_dom (f := f) (R := fun p x => ¬ r p x) (fun p y x h => ?_) (fun p y => ?_) t a x ?_
    · rcases hf p y with ⟨h1, h2⟩ | ⟨h1, h2⟩
      · rw [h2]; exact fun h3 => h (tr _ _ _ h1 h3)
      · rw [h2]; exact h
    · rcases hf p y with ⟨h1, h2⟩ | ⟨h1, h2⟩
      · rw [h2]; exact irr y
      · rw [h2]; exact h1
    · rcases List.mem_cons.1 hx with rfl | hx
      · exact .inl (irr _)
      · exact .inr hx
  exact tri _ i1 _ i2 (dom t a _ i2) (dom t' a' _ ((hm _).1 i1))
/-- The least above a list, too. -/
theorem fold_lub {α : Type} {f : α → α → α} {le : α → α → Prop} (l1 : ∀ a b, le a (f a b)) (l2 : ∀ a b, le b (f a b)) (l3 : ∀ a b c, le a c → le b c → le (f a b) c) (rf : ∀ a, le a a) (tr : ∀ a b c, le a b → le b c → le a c) (anti : ∀ a b, le a b → le b a → a = b)
    {a a' : α} {t t' : List α} (hm : ∀ x, x ∈ a :: t ↔ x ∈ a' :: t') : t.foldl f a = t'.foldl f a' := by
  have ub : ∀ (t : List α) (a x : α), x ∈ a :: t → le x (t.foldl f a) := fun t a x hx => by
    refine foldl_dom (f := f) (R := fun p x => le x p) (fun p y x h => tr _ _ _ h (l1 _ _)) (fun p y => l2 _ _) t a x ?_
    rcases List.mem_cons.1 hx with rfl | hx
    · exact .inl (rf _)
    · exact .inr hx
  have lst : ∀ (t : List α) (a c : α), (∀ x ∈ a :: t, le x c) → le (t.foldl f a) c := fun t => by
    induction t with
    | nil => intro a c h; exact h a (.head _)
    | cons x t ih =>
      intro a c h
      rw [List.foldl_cons]
      refine ih _ _ fun y hy => ?_
      rcases List.mem_cons.1 hy with rfl | hy
      · exact l3 _ _ _ (h _ (.head _)) (h _ (.tail _ (.head _)))
      · exact h y (.tail _ (.tail _ hy))
  exact anti _ _ (lst t a _ fun x hx => ub t' a' x ((hm x).1 hx)) (lst t' a' _ fun x hx => ub t a x ((hm x).2 hx))
theorem foldl_map {α κ : Type} {f : α → α → α} {g : κ → κ → κ} {π : α → κ} (h : ∀ a b, π (f a b) = g (π a) (π b)) : ∀ (t : List α) (a : α), π (t.foldl f a) = (t.map π).foldl g (π a)
  | [], a => rfl
  | x :: t, a => by rw [List.foldl_cons, List.map_cons, List.foldl_cons, foldl_map h t, h]
theorem map_set {α κ : Type} (π : α → κ) {a a' : α} {t t' : List α} (hm : ∀ x, x ∈ a :: t ↔ x ∈ a' :: t') : ∀ y, y ∈ π a :: t.map π ↔ y ∈ π a' :: t'.map π := fun y => by
  have e1 : π a :: t.map π = (a :: t).map π := rfl
  have e2 : π a' :: t'.map π = (a' :: t').map π := rfl
  rw [e1, e2, List.mem_map, List.mem_map]
  exact ⟨fun ⟨x, h1, h2⟩ => ⟨x, (hm x).1 h1, h2⟩, fun ⟨x, h1, h2⟩ => ⟨x, (hm x).2 h1, h2⟩⟩
/-- What is folded hangs on what is in a list alone. -/
theorem rfold_set {α : Type} {lt : α → α → Bool} {f : α → α → α} (ho : Stab.Ord lt) (hk : Stab.Keeps lt id f) (hs : ∀ (a a' : α) (t t' : List α), (∀ x, x ∈ a :: t ↔ x ∈ a' :: t') → (∀ x ∈ a :: t, ∀ y ∈ a :: t, Stab.eqv lt x y = true) → t.foldl f a = t'.foldl f a')
    {l l' : List α} (hm : ∀ x, x ∈ l ↔ x ∈ l') : Stab.rfold lt id f l = Stab.rfold lt id f l' := by
  refine (Stab.rfold_folds ho hk l).uniq ho ⟨(Stab.rfold_folds ho hk l').strict, fun z => ?_⟩
  rw [(Stab.rfold_folds ho hk l').cls z]
  have hf : ∀ x, x ∈ l.filter (Stab.eqv lt z) ↔ x ∈ l'.filter (Stab.eqv lt z) := fun x => by rw [List.mem_filter, List.mem_filter, hm x]
  cases h1 : l.filter (Stab.eqv lt z) with
  | nil => cases h2 : l'.filter (Stab.eqv lt z) with
    | nil => rfl
    | cons a t => have := (hf a).2 (h2 ▸ .head _); rw [h1] at this; cases this
  | cons a t => cases h2 : l'.filter (Stab.eqv lt z) with
    | nil => have := (hf a).1 (h1 ▸ .head _); rw [h2] at this; cases this
    | cons a' t' =>
      have hz : ∀ x ∈ a :: t, Stab.eqv lt z x = true := fun x hx => by rw [← h1] at hx; exact (List.mem_filter.1 hx).2
      rw [h1, h2] at hf
      simp only [Stab.foldG, id]
      rw [hs a a' t t' hf fun x hx y hy => Stab.eqv_trans ho (Stab.eqv_swap (hz x hx)) (hz y hy)]
theorem Pce.top_cases (a b : Pce) : (a.cmps b < 0 ∧ a.top b = b) ∨ (¬ a.cmps b < 0 ∧ a.top b = a) := by unfold Pce.top; split <;> simp_all
theorem Xat.top_cases (a b : Xat) : (a.cmps b < 0 ∧ a.top b = b) ∨ (¬ a.cmps b < 0 ∧ a.top b = a) := by unfold Xat.top; split <;> simp_all
theorem Pce.tri {a b : Pce} (hi : a.idx = b.idx) (h : ¬ a.cmps b < 0) (k : ¬ b.cmps a < 0) : a = b := by
  rw [Pce.cmps_lt] at h k
  have h1 : a.at_ = b.at_ := by
    rcases Mk.lss_tri a.at_ b.at_ with h1 | h1 | h1
    · exact absurd (.inl h1) h
    · exact h1
    · exact absurd (.inl h1) k
  have h2 : a.data = b.data := by
    rcases slt_cases a.data b.data with h2 | h2 | h2
    · exact absurd (.inr ⟨h1, h2⟩) h
    · exact h2
    · exact absurd (.inr ⟨h1.symm, h2⟩) k
  obtain ⟨a1, a2, a3⟩ := a; obtain ⟨b1, b2, b3⟩ := b
  simp_all
theorem flag_inj {a b : Bool} (h : flagI a = flagI b) : a = b := by cases a <;> cases b <;> simp [flagI] at h ⊢
theorem Xat.tri {a b : Xat} (hi : a.name = b.name) (h : ¬ a.cmps b < 0) (k : ¬ b.cmps a < 0) : a = b := by
  rw [Xat.cmps_lt] at h k
  have h1 : a.at_ = b.at_ := by
    rcases Mk.lss_tri a.at_ b.at_ with h1 | h1 | h1
    · exact absurd (.inl h1) h
    · exact h1
    · exact absurd (.inl h1) k
  have h2 : flagI a.gone = flagI b.gone := by
    rcases Int.lt_trichotomy (flagI a.gone) (flagI b.gone) with h2 | h2 | h2
    · exact absurd (.inr ⟨h1, .inl h2⟩) h
    · exact h2
    · exact absurd (.inr ⟨h1.symm, .inl h2⟩) k
  have h3 : a.val = b.val := by
    rcases slt_cases a.val b.val with h3 | h3 | h3
    · exact absurd (.inr ⟨h1, .inr ⟨h2, h3⟩⟩) h
    · exact h3
    · exact absurd (.inr ⟨h1.symm, .inr ⟨h2.symm, h3⟩⟩) k
  have h4 := flag_inj h2
  obtain ⟨a1, a2, a3, a4⟩ := a; obtain ⟨b1, b2, b3, b4⟩ := b
  simp_all
theorem listed_set {l l' : List Pce} (hm : ∀ x, x ∈ l ↔ x ∈ l') : listedD l = listedD l' :=
  rfold_set Pce.ord Pce.keeps (fun _ _ _ _ h he => fold_set (r := fun a b : Pce => a.cmps b < 0) Pce.top_cases Pce.cmps_irr (fun _ _ _ h k => Pce.cmps_trans h k) h fun x hx y hy => Pce.tri (Pce.eqv_iff.1 (he x hx y hy))) hm
theorem named_set {l l' : List Xat} (hm : ∀ x, x ∈ l ↔ x ∈ l') : namedD l = namedD l' :=
  rfold_set Xat.ord Xat.keeps (fun _ _ _ _ h he => fold_set (r := fun a b : Xat => a.cmps b < 0) Xat.top_cases Xat.cmps_irr (fun _ _ _ h k => Xat.cmps_trans h k) h fun x hx y hy => Xat.tri (Xat.eqv_iff.1 (he x hx y hy))) hm
/-! ### Registers -/
theorem imax_set {a a' : Int} {t t' : List Int} (hm : ∀ x, x ∈ a :: t ↔ x ∈ a' :: t') : t.foldl imax a = t'.foldl imax a' :=
  fold_set (r := fun a b : Int => a < b) (fun a b => by unfold imax; split <;> simp_all) (fun a => Int.lt_irrefl a) (fun a b c h k => by omega) hm fun x _ y _ h k => by omega
theorem smax_set {a a' : ByteArray} {t t' : List ByteArray} (hm : ∀ x, x ∈ a :: t ↔ x ∈ a' :: t') : t.foldl smax a = t'.foldl smax a' :=
  fold_set (r := fun a b : ByteArray => slt a b = true) (fun a b => by unfold smax; split <;> simp_all) (fun a => by simp [slt_irr]) (fun a b c h k => slt_trans h k) hm fun x _ y _ h k => slt_tri (by simpa using h) (by simpa using k)
theorem atr_set {a a' : Atr} {t t' : List Atr} (hm : ∀ x, x ∈ a :: t ↔ x ∈ a' :: t') : t.foldl Atr.top a = t'.foldl Atr.top a' := by
  refine fold_set (r := fun a b : Atr => a.cmps b < 0) (fun a b => by unfold Atr.top; split <;> simp_all) (fun a => ?_) (fun a b c h k => ?_) hm fun x _ y _ h k => ?_
  · rw [Atr.cmps_lt]; have := Mk.lss_irr a.at_; simp [this]
  · rw [Atr.cmps_lt] at *
    rcases h with h | ⟨h1, h2⟩ <;> rcases k with k | ⟨k1, k2⟩
    · exact .inl (Mk.lss_trans h k)
    · exact .inl (k1 ▸ h)
    · exact .inl (h1 ▸ k)
    · exact .inr ⟨h1.trans k1, by omega⟩
  · rw [Atr.cmps_lt] at h k
    have h1 : x.at_ = y.at_ := by
      rcases Mk.lss_tri x.at_ y.at_ with h1 | h1 | h1
      · exact absurd (.inl h1) h
      · exact h1
      · exact absurd (.inl h1) k
    have h2 : ¬ (x.mode < y.mode ∨ x.mode = y.mode ∧ x.time < y.time) := fun e => h (.inr ⟨h1, e⟩)
    have h3 : ¬ (y.mode < x.mode ∨ y.mode = x.mode ∧ y.time < x.time) := fun e => k (.inr ⟨h1.symm, e⟩)
    obtain ⟨x1, x2, x3⟩ := x; obtain ⟨y1, y2, y3⟩ := y
    simp only at *
    rw [h1, show x2 = y2 by omega, show x3 = y3 by omega]
theorem siz_set {a a' : Siz} {t t' : List Siz} (hm : ∀ x, x ∈ a :: t ↔ x ∈ a' :: t') : t.foldl Siz.top a = t'.foldl Siz.top a' := by
  refine fold_set (r := fun a b : Siz => a.cmps b < 0) (fun a b => by unfold Siz.top; split <;> simp_all) (fun a => ?_) (fun a b c h k => ?_) hm fun x _ y _ h k => ?_
  · rw [Siz.cmps_lt]; have := Mk.lss_irr a.at_; simp [this]
  · rw [Siz.cmps_lt] at *
    rcases h with h | ⟨h1, h2⟩ <;> rcases k with k | ⟨k1, k2⟩
    · exact .inl (Mk.lss_trans h k)
    · exact .inl (k1 ▸ h)
    · exact .inl (h1 ▸ k)
    · exact .inr ⟨h1.trans k1, by omega⟩
  · rw [Siz.cmps_lt] at h k
    have h1 : x.at_ = y.at_ := by
      rcases Mk.lss_tri x.at_ y.at_ with h1 | h1 | h1
      · exact absurd (.inl h1) h
      · exact h1
      · exact absurd (.inl h1) k
    have h2 : ¬ (x.n < y.n) := fun e => h (.inr ⟨h1, e⟩)
    have h3 : ¬ (y.n < x.n) := fun e => k (.inr ⟨h1.symm, e⟩)
    obtain ⟨x1, x2⟩ := x; obtain ⟨y1, y2⟩ := y
    simp only at *
    rw [h1, show x2 = y2 by omega]
theorem mk_set {a a' : Mk} {t t' : List Mk} (hm : ∀ x, x ∈ a :: t ↔ x ∈ a' :: t') : t.foldl Mk.top a = t'.foldl Mk.top a' := by
  refine fold_set (r := fun a b : Mk => a.cmps b < 0) (fun a b => by unfold Mk.top; split <;> simp_all) (fun a => ?_) (fun a b c h k => ?_) hm fun x _ y _ h k => ?_
  · rw [Mk.cmps_lt]; exact Mk.lss_irr a
  · rw [Mk.cmps_lt] at *; exact Mk.lss_trans h k
  · rw [Mk.cmps_lt] at h k
    rcases Mk.lss_tri x y with h1 | h1 | h1
    · exact absurd h1 h
    · exact h1
    · exact absurd h1 k
theorem v8_set {a a' : V8} {t t' : List V8} (hm : ∀ x, x ∈ a :: t ↔ x ∈ a' :: t') : t.foldl V8.join a = t'.foldl V8.join a' := by
  refine fold_lub (le := fun a b : V8 => a.within b = true) V8.within_l V8.within_r (fun a b c h k => ?_) V8.within_refl (fun a b c h k => V8.within_trans h k) (fun a b h k => ?_) hm
  · rw [V8.within_iff] at *
    unfold V8.join imax
    simp only
    refine ⟨?_, ?_, ?_, ?_, ?_, ?_, ?_, ?_⟩ <;> split <;> omega
  · rw [V8.within_iff] at *
    obtain ⟨x0, x1, x2, x3, x4, x5, x6, x7⟩ := a; obtain ⟨y0, y1, y2, y3, y4, y5, y6, y7⟩ := b
    simp only at *
    rw [show x0 = y0 by omega, show x1 = y1 by omega, show x2 = y2 by omega, show x3 = y3 by omega, show x4 = y4 by omega, show x5 = y5 by omega, show x6 = y6 by omega, show x7 = y7 by omega]
/-- Where a link is. -/
abbrev Place3 := Mk × Mk × ByteArray
def Place3.cm (a b : Place3) : Int := orL [a.1.cmps b.1, a.2.1.cmps b.2.1, scmp a.2.2 b.2.2]
def Place3.top (a b : Place3) : Place3 := if Place3.cm a b < 0 then b else a
def Lnk.place (l : Lnk) : Place3 := (l.at_, l.parent, l.name)
theorem place_set {a a' : Place3} {t t' : List Place3} (hm : ∀ x, x ∈ a :: t ↔ x ∈ a' :: t') : t.foldl Place3.top a = t'.foldl Place3.top a' := by
  have hlt : ∀ a b : Place3, Place3.cm a b < 0 ↔ a.1.lss b.1 ∨ a.1 = b.1 ∧ (a.2.1.lss b.2.1 ∨ a.2.1 = b.2.1 ∧ slt a.2.2 b.2.2 = true) := fun a b => by
    unfold Place3.cm
    simp only [orL_lt, icmp_lt, icmp_0, scmp_lt, scmp_0, orL_nil_lt, and_false, or_false, Mk.cmps_lt, Mk.cmps_0]
  refine fold_set (r := fun a b : Place3 => Place3.cm a b < 0) (fun a b => by unfold Place3.top; split <;> simp_all) (fun a => ?_) (fun a b c h k => ?_) hm fun x _ y _ h k => ?_
  · rw [hlt, slt_irr]
    have := Mk.lss_irr a.1; have := Mk.lss_irr a.2.1; simp_all
  · rw [hlt] at *
    rcases h with h | ⟨h1, h2⟩ <;> rcases k with k | ⟨k1, k2⟩
    · exact .inl (Mk.lss_trans h k)
    · exact .inl (k1 ▸ h)
    · exact .inl (h1 ▸ k)
    · refine .inr ⟨h1.trans k1, ?_⟩
      rcases h2 with h2 | ⟨h2, h3⟩ <;> rcases k2 with k2 | ⟨k2, k3⟩
      · exact .inl (Mk.lss_trans h2 k2)
      · exact .inl (k2 ▸ h2)
      · exact .inl (h2 ▸ k2)
      · exact .inr ⟨h2.trans k2, slt_trans h3 k3⟩
  · rw [hlt] at h k
    have h1 : x.1 = y.1 := by
      rcases Mk.lss_tri x.1 y.1 with h1 | h1 | h1
      · exact absurd (.inl h1) h
      · exact h1
      · exact absurd (.inl h1) k
    have h2 : x.2.1 = y.2.1 := by
      rcases Mk.lss_tri x.2.1 y.2.1 with h2 | h2 | h2
      · exact absurd (.inr ⟨h1, .inl h2⟩) h
      · exact h2
      · exact absurd (.inr ⟨h1.symm, .inl h2⟩) k
    have h3 : x.2.2 = y.2.2 := by
      rcases slt_cases x.2.2 y.2.2 with h3 | h3 | h3
      · exact absurd (.inr ⟨h1, .inr ⟨h2, h3⟩⟩) h
      · exact h3
      · exact absurd (.inr ⟨h1.symm, .inr ⟨h2.symm, h3⟩⟩) k
    obtain ⟨x1, x2, x3⟩ := x; obtain ⟨y1, y2, y3⟩ := y
    simp_all
theorem Lnk.one_place (a b : Lnk) : (a.one b).place = Place3.top a.place b.place := by
  unfold Lnk.one Lnk.place Place3.top Place3.cm Lnk.top Lnk.cmps
  simp only
  split <;> rfl
theorem links_set {l l' : List Lnk} (hm : ∀ x, x ∈ l ↔ x ∈ l') : linksD l = linksD l' := by
  refine rfold_set Lnk.ord Lnk.keeps (fun a a' t t' h he => ?_) hm
  have e1 : (t.foldl Lnk.one a).id = a.id := by
    have : ∀ (t : List Lnk) (a : Lnk), (t.foldl Lnk.one a).id = a.id := fun t => by
      induction t with
      | nil => intro a; rfl
      | cons x t ih => intro a; rw [List.foldl_cons, ih]; rfl
    exact this t a
  have e2 : (t'.foldl Lnk.one a').id = a'.id := by
    have : ∀ (t : List Lnk) (a : Lnk), (t.foldl Lnk.one a).id = a.id := fun t => by
      induction t with
      | nil => intro a; rfl
      | cons x t ih => intro a; rw [List.foldl_cons, ih]; rfl
    exact this t' a'
  have e3 : a.id = a'.id := Lnk.eqv_iff.1 (he a (.head _) a' ((h a').2 (.head _)))
  have e4 : (t.foldl Lnk.one a).node = (t'.foldl Lnk.one a').node := by
    rw [foldl_map (π := Lnk.node) (g := Mk.top) (fun _ _ => rfl), foldl_map (π := Lnk.node) (g := Mk.top) (fun _ _ => rfl)]
    exact mk_set (map_set _ h)
  have e5 : (t.foldl Lnk.one a).alive = (t'.foldl Lnk.one a').alive := by
    rw [foldl_map (π := Lnk.alive) (g := V8.join) (fun _ _ => rfl), foldl_map (π := Lnk.alive) (g := V8.join) (fun _ _ => rfl)]
    exact v8_set (map_set _ h)
  have e6 : (t.foldl Lnk.one a).dead = (t'.foldl Lnk.one a').dead := by
    rw [foldl_map (π := Lnk.dead) (g := V8.join) (fun _ _ => rfl), foldl_map (π := Lnk.dead) (g := V8.join) (fun _ _ => rfl)]
    exact v8_set (map_set _ h)
  have e7 : (t.foldl Lnk.one a).place = (t'.foldl Lnk.one a').place := by
    rw [foldl_map (π := Lnk.place) (g := Place3.top) Lnk.one_place, foldl_map (π := Lnk.place) (g := Place3.top) Lnk.one_place]
    exact place_set (map_set _ h)
  rw [e3, ← e2] at e1
  generalize t.foldl Lnk.one a = p at *
  generalize t'.foldl Lnk.one a' = q at *
  obtain ⟨p1, p2, p3, p4, p5, p6, p7⟩ := p; obtain ⟨q1, q2, q3, q4, q5, q6, q7⟩ := q
  simp only [Lnk.place, Prod.mk.injEq] at *
  obtain ⟨h1, h2, h3⟩ := e7
  subst e1 e4 e5 e6 h1 h2 h3
  rfl
/-! ### Inodes -/
theorem foldl_ps : ∀ (t : List InoD) (a : InoD), listedD (t.foldl InoD.one a).ps = listedD (((a :: t).map (·.ps)).flatten)
  | [], a => by simp
  | x :: t, a => by
    rw [List.foldl_cons, foldl_ps t]
    simp only [List.map_cons, List.flatten_cons]
    rw [show (a.one x).ps = listedD (a.ps ++ x.ps) from rfl, listed_again, List.append_assoc]
theorem foldl_xs : ∀ (t : List InoD) (a : InoD), namedD (t.foldl InoD.one a).xs = namedD (((a :: t).map (·.xs)).flatten)
  | [], a => by simp
  | x :: t, a => by
    rw [List.foldl_cons, foldl_xs t]
    simp only [List.map_cons, List.flatten_cons]
    rw [show (a.one x).xs = namedD (a.xs ++ x.xs) from rfl, named_again, List.append_assoc]
theorem fold_nodes {a a' : InoD} {t t' : List InoD} (h : ∀ x, x ∈ a :: t ↔ x ∈ a' :: t') (hi : a.hd.id = a'.hd.id) : (t.foldl InoD.one a).norm = (t'.foldl InoD.one a').norm := by
  have hid : ∀ (t : List InoD) (a : InoD), (t.foldl InoD.one a).hd.id = a.hd.id := fun t => by
    induction t with
    | nil => intro a; rfl
    | cons x t ih => intro a; rw [List.foldl_cons, ih]; rfl
  have e1 := (hid t a).trans (hi.trans (hid t' a').symm)
  have e2 : (t.foldl InoD.one a).hd.kind = (t'.foldl InoD.one a').hd.kind := by
    rw [foldl_map (π := fun d : InoD => d.hd.kind) (g := imax) (fun _ _ => rfl), foldl_map (π := fun d : InoD => d.hd.kind) (g := imax) (fun _ _ => rfl)]
    exact imax_set (map_set (fun d : InoD => d.hd.kind) h)
  have e3 : (t.foldl InoD.one a).hd.text = (t'.foldl InoD.one a').hd.text := by
    rw [foldl_map (π := fun d : InoD => d.hd.text) (g := smax) (fun _ _ => rfl), foldl_map (π := fun d : InoD => d.hd.text) (g := smax) (fun _ _ => rfl)]
    exact smax_set (map_set (fun d : InoD => d.hd.text) h)
  have e4 : (t.foldl InoD.one a).hd.attr = (t'.foldl InoD.one a').hd.attr := by
    rw [foldl_map (π := fun d : InoD => d.hd.attr) (g := Atr.top) (fun _ _ => rfl), foldl_map (π := fun d : InoD => d.hd.attr) (g := Atr.top) (fun _ _ => rfl)]
    exact atr_set (map_set (fun d : InoD => d.hd.attr) h)
  have e5 : (t.foldl InoD.one a).hd.size = (t'.foldl InoD.one a').hd.size := by
    rw [foldl_map (π := fun d : InoD => d.hd.size) (g := Siz.top) (fun _ _ => rfl), foldl_map (π := fun d : InoD => d.hd.size) (g := Siz.top) (fun _ _ => rfl)]
    exact siz_set (map_set (fun d : InoD => d.hd.size) h)
  have e6 : listedD (t.foldl InoD.one a).ps = listedD (t'.foldl InoD.one a').ps := by
    rw [foldl_ps, foldl_ps]
    refine listed_set fun x => ?_
    simp only [List.mem_flatten, List.mem_map]
    exact ⟨fun ⟨l, ⟨y, hy, e⟩, hx⟩ => ⟨l, ⟨y, (h y).1 hy, e⟩, hx⟩, fun ⟨l, ⟨y, hy, e⟩, hx⟩ => ⟨l, ⟨y, (h y).2 hy, e⟩, hx⟩⟩
  have e7 : namedD (t.foldl InoD.one a).xs = namedD (t'.foldl InoD.one a').xs := by
    rw [foldl_xs, foldl_xs]
    refine named_set fun x => ?_
    simp only [List.mem_flatten, List.mem_map]
    exact ⟨fun ⟨l, ⟨y, hy, e⟩, hx⟩ => ⟨l, ⟨y, (h y).1 hy, e⟩, hx⟩, fun ⟨l, ⟨y, hy, e⟩, hx⟩ => ⟨l, ⟨y, (h y).2 hy, e⟩, hx⟩⟩
  generalize t.foldl InoD.one a = p at *
  generalize t'.foldl InoD.one a' = q at *
  obtain ⟨⟨p1, p2, p3, p4, p5⟩, p6, p7⟩ := p; obtain ⟨⟨q1, q2, q3, q4, q5⟩, q6, q7⟩ := q
  unfold InoD.norm
  simp only at *
  subst e1 e2 e3 e4 e5
  rw [e6, e7]
/-- Inodes as a state has them. -/
def nodesN (l : List InoD) : List InoD := (nodesD l).map InoD.norm
theorem nodesN_folds (l : List InoD) : Stab.Folds InoD.lt InoD.norm InoD.one l (nodesN l) := by
  have h := Stab.rfold_folds InoD.ord InoD.keepsN l
  rw [nodes_doc] at h
  exact h
theorem nodes_set {l l' : List InoD} (hm : ∀ x, x ∈ l ↔ x ∈ l') : nodesN l = nodesN l' := by
  refine (nodesN_folds l).uniq InoD.ord ⟨(nodesN_folds l').strict, fun z => ?_⟩
  rw [(nodesN_folds l').cls z]
  have hf : ∀ x, x ∈ l.filter (Stab.eqv InoD.lt z) ↔ x ∈ l'.filter (Stab.eqv InoD.lt z) := fun x => by rw [List.mem_filter, List.mem_filter, hm x]
  cases h1 : l.filter (Stab.eqv InoD.lt z) with
  | nil => cases h2 : l'.filter (Stab.eqv InoD.lt z) with
    | nil => rfl
    | cons a t => have := (hf a).2 (h2 ▸ .head _); rw [h1] at this; cases this
  | cons a t => cases h2 : l'.filter (Stab.eqv InoD.lt z) with
    | nil => have := (hf a).1 (h1 ▸ .head _); rw [h2] at this; cases this
    | cons a' t' =>
      have hz : ∀ x ∈ l.filter (Stab.eqv InoD.lt z), Stab.eqv InoD.lt z x = true := fun x hx => (List.mem_filter.1 hx).2
      have ha := hz a (h1 ▸ .head _)
      have ha' := hz a' ((hf a').2 (h2 ▸ .head _))
      rw [h1, h2] at hf
      simp only [Stab.foldG, foldl_norm]
      rw [fold_nodes hf ((InoD.eqv_iff.1 ha).symm.trans (InoD.eqv_iff.1 ha'))]
theorem nodes_again (a b : List InoD) : nodesN (nodesN a ++ b) = nodesN (a ++ b) := by
  refine (nodesN_folds _).uniq InoD.ord ⟨(nodesN_folds _).strict, fun z => ?_⟩
  rw [(nodesN_folds _).cls z, List.filter_append, List.filter_append, (nodesN_folds a).cls z]
  cases a.filter (Stab.eqv InoD.lt z) with
  | nil => rfl
  | cons p t => simp only [Stab.foldG, List.cons_append, List.nil_append, List.foldl_append, foldl_norm, InoD.norm_norm]
theorem links_again (a b : List Lnk) : linksD (linksD a ++ b) = linksD (a ++ b) := rfold_again Lnk.ord Lnk.keeps a b
theorem StaD.join_def (a b : StaD) : a.join b = ⟨a.seen.join b.seen, nodesN (a.nodes ++ b.nodes), linksD (a.links ++ b.links)⟩ := rfl
theorem V8.join_comm (a b : V8) : a.join b = b.join a := by
  have := v8_set (a := a) (a' := b) (t := [b]) (t' := [a]) (fun x => by simp [or_comm])
  simpa using this
theorem V8.join_assoc (a b c : V8) : (a.join b).join c = a.join (b.join c) := by
  have h1 := v8_set (a := a) (a' := b) (t := [b, c]) (t' := [c, a]) (fun x => by simp only [List.mem_cons, List.not_mem_nil, or_false]; constructor <;> rintro (h | h | h) <;> simp [h])
  rw [V8.join_comm a (b.join c)]
  simpa using h1
theorem V8.join_self (a : V8) : a.join a = a := by
  have h1 := v8_set (a := a) (a' := a) (t := [a]) (t' := []) (fun x => by simp)
  simpa using h1
theorem StaD.join_comm (a b : StaD) : a.join b = b.join a := by
  rw [StaD.join_def, StaD.join_def, V8.join_comm, nodes_set (l' := b.nodes ++ a.nodes) (fun x => by simp [or_comm]), links_set (l' := b.links ++ a.links) (fun x => by simp [or_comm])]
theorem StaD.join_join (a b c : StaD) : (a.join b).join c = ⟨(a.seen.join b.seen).join c.seen, nodesN (a.nodes ++ b.nodes ++ c.nodes), linksD (a.links ++ b.links ++ c.links)⟩ := by
  rw [StaD.join_def, StaD.join_def]
  simp only [nodes_again, links_again]
theorem StaD.join_assoc (a b c : StaD) : (a.join b).join c = a.join (b.join c) := by
  rw [StaD.join_comm a (b.join c), StaD.join_join, StaD.join_join]
  rw [show (b.seen.join c.seen).join a.seen = (a.seen.join b.seen).join c.seen by rw [V8.join_comm (b.seen.join c.seen), V8.join_assoc],
    nodes_set (l := b.nodes ++ c.nodes ++ a.nodes) (l' := a.nodes ++ b.nodes ++ c.nodes) (fun x => by simp only [List.mem_append]; constructor <;> rintro ((h | h) | h) <;> simp [h]),
    links_set (l := b.links ++ c.links ++ a.links) (l' := a.links ++ b.links ++ c.links) (fun x => by simp only [List.mem_append]; constructor <;> rintro ((h | h) | h) <;> simp [h])]
theorem aba (a b : Prop) : ((a ∨ b) ∨ a) ↔ (a ∨ b) := ⟨fun h => h.elim id .inl, .inl⟩
theorem abab (a b : Prop) : ((a ∨ b) ∨ (a ∨ b)) ↔ (a ∨ b) := ⟨fun h => h.elim id id, .inl⟩
theorem StaD.join_absorb (a b : StaD) : (a.join b).join a = a.join b := by
  rw [StaD.join_join, StaD.join_def]
  rw [show (a.seen.join b.seen).join a.seen = a.seen.join b.seen by rw [V8.join_comm (a.seen.join b.seen), ← V8.join_assoc, V8.join_self],
    nodes_set (l := a.nodes ++ b.nodes ++ a.nodes) (l' := a.nodes ++ b.nodes) (fun x => by simp only [List.mem_append]; exact aba _ _),
    links_set (l := a.links ++ b.links ++ a.links) (l' := a.links ++ b.links) (fun x => by simp only [List.mem_append]; exact aba _ _)]
theorem StaD.join_self (a b : StaD) : (a.join b).join (a.join b) = a.join b := by
  rw [StaD.join_comm (a.join b) (a.join b)]
  conv => lhs; rw [StaD.join_join]
  rw [StaD.join_def a b]
  simp only
  have e1 : nodesN (a.nodes ++ b.nodes ++ nodesN (a.nodes ++ b.nodes)) = nodesN (a.nodes ++ b.nodes) := by
    rw [nodes_set (l' := nodesN (a.nodes ++ b.nodes) ++ (a.nodes ++ b.nodes)) (fun x => by simp only [List.mem_append, or_comm]), nodes_again]
    exact nodes_set fun x => by simp only [List.mem_append]; exact abab _ _
  have e2 : linksD (a.links ++ b.links ++ linksD (a.links ++ b.links)) = linksD (a.links ++ b.links) := by
    rw [links_set (l' := linksD (a.links ++ b.links) ++ (a.links ++ b.links)) (fun x => by simp only [List.mem_append, or_comm]), links_again]
    exact links_set fun x => by simp only [List.mem_append]; exact abab _ _
  rw [e1, e2, V8.join_self]
end Go.Proofs.Ytebpacmhdkgfeaa
