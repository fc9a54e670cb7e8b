/- Texts laid together: Law29l. -/
import Derived.Test.YtebpacmhdkgfeaaDoorLi13
/- Chapter 29: the law StoryLists, walked. -/
namespace Go.Proofs.YtebpacmhdkgfeaaDoor
open Go.RowKit
set_option maxHeartbeats 8000000
def mx (T : List Ep) (a : Ep) (j i : Nat) : Nat := cn T i + (if i < j ∧ a.e.at_.n = (i : Int) then 1 else 0)
theorem mx_zero (T : List Ep) (a : Ep) : C8 (mx T a 0) = C8 (cn T) := by simp [C8, mx]
theorem mx_eight (T : List Ep) (a : Ep) : C8 (mx T a 8) = C8 (cn (T ++ [a])) := by simp [C8, mx, cn_snoc]
theorem mx_no (T : List Ep) (a : Ep) (j : Nat) (h : ¬ a.e.at_.n = (j : Int)) : C8 (mx T a (j + 1)) = C8 (mx T a j) := by
  have e : ∀ i, mx T a (j + 1) i = mx T a j i := fun i => by
    unfold mx
    congr 1
    by_cases h1 : i < j ∧ a.e.at_.n = (i : Int)
    · rw [if_pos h1, if_pos ⟨by omega, h1.2⟩]
    · rw [if_neg h1, if_neg]
      rintro ⟨h2, h3⟩
      by_cases h4 : i = j
      · subst h4; exact h h3
      · exact h1 ⟨by omega, h3⟩
  unfold C8
  simp only [e]
theorem mx_other (T : List Ep) (a : Ep) (j i : Nat) (h : a.e.at_.n = (j : Int)) (hi : i ≠ j) : mx T a (j + 1) i = mx T a j i := by
  unfold mx
  rw [if_neg (by rintro ⟨_, h2⟩; omega), if_neg (by rintro ⟨_, h2⟩; omega)]
theorem mx_this (T : List Ep) (a : Ep) (j : Nat) (h : a.e.at_.n = (j : Int)) : mx T a (j + 1) j = mx T a j j + 1 := by
  unfold mx
  rw [if_pos ⟨by omega, h⟩, if_neg (by rintro ⟨h2, _⟩; omega)]
theorem mx_le (T : List Ep) (a : Ep) (j i : Nat) : mx T a j i ≤ T.length + 1 := by
  unfold mx
  have := cn_le T i
  split <;> omega
theorem counts_eq (f : Nat → Nat) : ∀ w, (binOp .eql 24 (.agg (C8 f).toArray) (.agg (C8 f).toArray)).run Tryd.prog w = .ok (.bool true) w := by
  unfold C8
  have h : eqCells Tryd.prog 3 24 [.int .i64 (f 0 : Int), .int .i64 (f 1 : Int), .int .i64 (f 2 : Int), .int .i64 (f 3 : Int), .int .i64 (f 4 : Int), .int .i64 (f 5 : Int), .int .i64 (f 6 : Int), .int .i64 (f 7 : Int)] [.int .i64 (f 0 : Int), .int .i64 (f 1 : Int), .int .i64 (f 2 : Int), .int .i64 (f 3 : Int), .int .i64 (f 4 : Int), .int .i64 (f 5 : Int), .int .i64 (f 6 : Int), .int .i64 (f 7 : Int)] = some ((f 0 : Int) == (f 0 : Int) && ((f 1 : Int) == (f 1 : Int) && ((f 2 : Int) == (f 2 : Int) && ((f 3 : Int) == (f 3 : Int) && ((f 4 : Int) == (f 4 : Int) && ((f 5 : Int) == (f 5 : Int) && ((f 6 : Int) == (f 6 : Int) && ((f 7 : Int) == (f 7 : Int) && true)))))))) := by kernel_rfl
  have e : ((f 0 : Int) == (f 0 : Int) && ((f 1 : Int) == (f 1 : Int) && ((f 2 : Int) == (f 2 : Int) && ((f 3 : Int) == (f 3 : Int) && ((f 4 : Int) == (f 4 : Int) && ((f 5 : Int) == (f 5 : Int) && ((f 6 : Int) == (f 6 : Int) && ((f 7 : Int) == (f 7 : Int) && true)))))))) = true := by simp
  rw [e] at h
  exact run_eql_cells 3 (by decide) (by kernel_rfl) h
theorem mx_at0 (T : List Ep) (a : Ep) (h : a.e.at_.n = ((0 : Nat) : Int)) {c0 c1 c2 c3 c4 c5 c6 c7 : Nat} (h0 : mx T a 0 0 = c0) (h1 : mx T a 0 1 = c1) (h2 : mx T a 0 2 = c2) (h3 : mx T a 0 3 = c3) (h4 : mx T a 0 4 = c4) (h5 : mx T a 0 5 = c5) (h6 : mx T a 0 6 = c6) (h7 : mx T a 0 7 = c7) : C8 (mx T a (0 + 1)) = [.int .i64 ((c0 : Int) + 1), .int .i64 (c1 : Int), .int .i64 (c2 : Int), .int .i64 (c3 : Int), .int .i64 (c4 : Int), .int .i64 (c5 : Int), .int .i64 (c6 : Int), .int .i64 (c7 : Int)] := by
  unfold C8
  rw [mx_this T a 0 h, h0, mx_other T a 0 1 h (by decide), h1, mx_other T a 0 2 h (by decide), h2, mx_other T a 0 3 h (by decide), h3, mx_other T a 0 4 h (by decide), h4, mx_other T a 0 5 h (by decide), h5, mx_other T a 0 6 h (by decide), h6, mx_other T a 0 7 h (by decide), h7]
  simp
theorem mx_at1 (T : List Ep) (a : Ep) (h : a.e.at_.n = ((1 : Nat) : Int)) {c0 c1 c2 c3 c4 c5 c6 c7 : Nat} (h0 : mx T a 1 0 = c0) (h1 : mx T a 1 1 = c1) (h2 : mx T a 1 2 = c2) (h3 : mx T a 1 3 = c3) (h4 : mx T a 1 4 = c4) (h5 : mx T a 1 5 = c5) (h6 : mx T a 1 6 = c6) (h7 : mx T a 1 7 = c7) : C8 (mx T a (1 + 1)) = [.int .i64 (c0 : Int), .int .i64 ((c1 : Int) + 1), .int .i64 (c2 : Int), .int .i64 (c3 : Int), .int .i64 (c4 : Int), .int .i64 (c5 : Int), .int .i64 (c6 : Int), .int .i64 (c7 : Int)] := by
  unfold C8
  rw [mx_other T a 1 0 h (by decide), h0, mx_this T a 1 h, h1, mx_other T a 1 2 h (by decide), h2, mx_other T a 1 3 h (by decide), h3, mx_other T a 1 4 h (by decide), h4, mx_other T a 1 5 h (by decide), h5, mx_other T a 1 6 h (by decide), h6, mx_other T a 1 7 h (by decide), h7]
  simp
theorem mx_at2 (T : List Ep) (a : Ep) (h : a.e.at_.n = ((2 : Nat) : Int)) {c0 c1 c2 c3 c4 c5 c6 c7 : Nat} (h0 : mx T a 2 0 = c0) (h1 : mx T a 2 1 = c1) (h2 : mx T a 2 2 = c2) (h3 : mx T a 2 3 = c3) (h4 : mx T a 2 4 = c4) (h5 : mx T a 2 5 = c5) (h6 : mx T a 2 6 = c6) (h7 : mx T a 2 7 = c7) : C8 (mx T a (2 + 1)) = [.int .i64 (c0 : Int), .int .i64 (c1 : Int), .int .i64 ((c2 : Int) + 1), .int .i64 (c3 : Int), .int .i64 (c4 : Int), .int .i64 (c5 : Int), .int .i64 (c6 : Int), .int .i64 (c7 : Int)] := by
  unfold C8
  rw [mx_other T a 2 0 h (by decide), h0, mx_other T a 2 1 h (by decide), h1, mx_this T a 2 h, h2, mx_other T a 2 3 h (by decide), h3, mx_other T a 2 4 h (by decide), h4, mx_other T a 2 5 h (by decide), h5, mx_other T a 2 6 h (by decide), h6, mx_other T a 2 7 h (by decide), h7]
  simp
theorem mx_at3 (T : List Ep) (a : Ep) (h : a.e.at_.n = ((3 : Nat) : Int)) {c0 c1 c2 c3 c4 c5 c6 c7 : Nat} (h0 : mx T a 3 0 = c0) (h1 : mx T a 3 1 = c1) (h2 : mx T a 3 2 = c2) (h3 : mx T a 3 3 = c3) (h4 : mx T a 3 4 = c4) (h5 : mx T a 3 5 = c5) (h6 : mx T a 3 6 = c6) (h7 : mx T a 3 7 = c7) : C8 (mx T a (3 + 1)) = [.int .i64 (c0 : Int), .int .i64 (c1 : Int), .int .i64 (c2 : Int), .int .i64 ((c3 : Int) + 1), .int .i64 (c4 : Int), .int .i64 (c5 : Int), .int .i64 (c6 : Int), .int .i64 (c7 : Int)] := by
  unfold C8
  rw [mx_other T a 3 0 h (by decide), h0, mx_other T a 3 1 h (by decide), h1, mx_other T a 3 2 h (by decide), h2, mx_this T a 3 h, h3, mx_other T a 3 4 h (by decide), h4, mx_other T a 3 5 h (by decide), h5, mx_other T a 3 6 h (by decide), h6, mx_other T a 3 7 h (by decide), h7]
  simp
theorem mx_at4 (T : List Ep) (a : Ep) (h : a.e.at_.n = ((4 : Nat) : Int)) {c0 c1 c2 c3 c4 c5 c6 c7 : Nat} (h0 : mx T a 4 0 = c0) (h1 : mx T a 4 1 = c1) (h2 : mx T a 4 2 = c2) (h3 : mx T a 4 3 = c3) (h4 : mx T a 4 4 = c4) (h5 : mx T a 4 5 = c5) (h6 : mx T a 4 6 = c6) (h7 : mx T a 4 7 = c7) : C8 (mx T a (4 + 1)) = [.int .i64 (c0 : Int), .int .i64 (c1 : Int), .int .i64 (c2 : Int), .int .i64 (c3 : Int), .int .i64 ((c4 : Int) + 1), .int .i64 (c5 : Int), .int .i64 (c6 : Int), .int .i64 (c7 : Int)] := by
  unfold C8
  rw [mx_other T a 4 0 h (by decide), h0, mx_other T a 4 1 h (by decide), h1, mx_other T a 4 2 h (by decide), h2, mx_other T a 4 3 h (by decide), h3, mx_this T a 4 h, h4, mx_other T a 4 5 h (by decide), h5, mx_other T a 4 6 h (by decide), h6, mx_other T a 4 7 h (by decide), h7]
  simp
theorem mx_at5 (T : List Ep) (a : Ep) (h : a.e.at_.n = ((5 : Nat) : Int)) {c0 c1 c2 c3 c4 c5 c6 c7 : Nat} (h0 : mx T a 5 0 = c0) (h1 : mx T a 5 1 = c1) (h2 : mx T a 5 2 = c2) (h3 : mx T a 5 3 = c3) (h4 : mx T a 5 4 = c4) (h5 : mx T a 5 5 = c5) (h6 : mx T a 5 6 = c6) (h7 : mx T a 5 7 = c7) : C8 (mx T a (5 + 1)) = [.int .i64 (c0 : Int), .int .i64 (c1 : Int), .int .i64 (c2 : Int), .int .i64 (c3 : Int), .int .i64 (c4 : Int), .int .i64 ((c5 : Int) + 1), .int .i64 (c6 : Int), .int .i64 (c7 : Int)] := by
  unfold C8
  rw [mx_other T a 5 0 h (by decide), h0, mx_other T a 5 1 h (by decide), h1, mx_other T a 5 2 h (by decide), h2, mx_other T a 5 3 h (by decide), h3, mx_other T a 5 4 h (by decide), h4, mx_this T a 5 h, h5, mx_other T a 5 6 h (by decide), h6, mx_other T a 5 7 h (by decide), h7]
  simp
theorem mx_at6 (T : List Ep) (a : Ep) (h : a.e.at_.n = ((6 : Nat) : Int)) {c0 c1 c2 c3 c4 c5 c6 c7 : Nat} (h0 : mx T a 6 0 = c0) (h1 : mx T a 6 1 = c1) (h2 : mx T a 6 2 = c2) (h3 : mx T a 6 3 = c3) (h4 : mx T a 6 4 = c4) (h5 : mx T a 6 5 = c5) (h6 : mx T a 6 6 = c6) (h7 : mx T a 6 7 = c7) : C8 (mx T a (6 + 1)) = [.int .i64 (c0 : Int), .int .i64 (c1 : Int), .int .i64 (c2 : Int), .int .i64 (c3 : Int), .int .i64 (c4 : Int), .int .i64 (c5 : Int), .int .i64 ((c6 : Int) + 1), .int .i64 (c7 : Int)] := by
  unfold C8
  rw [mx_other T a 6 0 h (by decide), h0, mx_other T a 6 1 h (by decide), h1, mx_other T a 6 2 h (by decide), h2, mx_other T a 6 3 h (by decide), h3, mx_other T a 6 4 h (by decide), h4, mx_other T a 6 5 h (by decide), h5, mx_this T a 6 h, h6, mx_other T a 6 7 h (by decide), h7]
  simp
theorem mx_at7 (T : List Ep) (a : Ep) (h : a.e.at_.n = ((7 : Nat) : Int)) {c0 c1 c2 c3 c4 c5 c6 c7 : Nat} (h0 : mx T a 7 0 = c0) (h1 : mx T a 7 1 = c1) (h2 : mx T a 7 2 = c2) (h3 : mx T a 7 3 = c3) (h4 : mx T a 7 4 = c4) (h5 : mx T a 7 5 = c5) (h6 : mx T a 7 6 = c6) (h7 : mx T a 7 7 = c7) : C8 (mx T a (7 + 1)) = [.int .i64 (c0 : Int), .int .i64 (c1 : Int), .int .i64 (c2 : Int), .int .i64 (c3 : Int), .int .i64 (c4 : Int), .int .i64 (c5 : Int), .int .i64 (c6 : Int), .int .i64 ((c7 : Int) + 1)] := by
  unfold C8
  rw [mx_other T a 7 0 h (by decide), h0, mx_other T a 7 1 h (by decide), h1, mx_other T a 7 2 h (by decide), h2, mx_other T a 7 3 h (by decide), h3, mx_other T a 7 4 h (by decide), h4, mx_other T a 7 5 h (by decide), h5, mx_other T a 7 6 h (by decide), h6, mx_this T a 7 h, h7]
  simp
set_option maxRecDepth 100000 in
theorem law_lists (v : Value) (ps : List Ep) (id : Mk) (B : Nat) (w : World) (h : encEp.R w v ps) (hO : ∀ p ∈ ps, p.Ok w B) (ht : Tb w) :
    Calls Tryd.prog 5 #[v, id.val] w fun e w' => e = .returned (.bool true) ∧ Below w.heap.size w w' := by
  have hL := Loc.nil w NoM
  have HR := Lib.hid h
  have HO := Lib.hid hO
  have hsm := Lib.hid (fun wx hb => law_small v ps wx (h.below hb) fun p hp => ((hO p hp).below hb).sta)
  clear h hO
  go_enter Tryd.func5, Tryd.ntmps5
  go_wp2_with (first
    | ((with_reducible refine gate (N := 3) rfl ?_); (refine ev_boxL rfl hL rfl rfl (by first | exact cells_agg _ rfl | exact cells_int _ _ | exact cells_str _ | exact cells_bool _ | exact cells_slice _ _ _ | exact cells_ptr _ | exact cells_map _ | exact cells_func _ _ _ | exact cells_nilFunc | exact cells_one (by assumption) (by assumption)) ?_; clear hL; intro g3 w3 hL))
    | (go_at_call 6; (with_reducible refine (hsm.out _ hL.below).mono ?_); rintro e w1 ⟨⟨b, rfl, hbp⟩, hb1⟩; have hL := hL.call hb1; clear hb1 hsm; refine stop ?_))
  unfold Stop
  cases b
  · go_wp2_with (first
      | (go_at_call 10; have hq := awake29 _ (ht.below hL.below); (with_reducible refine hq.mono ?_); rintro en w9 ⟨rfl, hb9⟩; have hL := hL.call hb9; clear hb9 hq))
    go_ret
    exact ⟨rfl, hL.below⟩
  obtain ⟨hn, -⟩ := hbp rfl
  clear hbp
  have hq1 := Lib.hid (clone_events v ps w1 (HR.out.below hL.below) (by omega))
  go_wp2_with (first
    | (go_at_call 13; (with_reducible refine hq1.out.mono ?_); rintro e w2 ⟨u, rfl, hL2⟩; have hL := hL.takeRow hL2; clear hL2 hq1; refine stop ?_))
  unfold Stop
  obtain ⟨ao, c, hve, hel⟩ := R_elem HR.out
  subst hve
  go_wp2_with (first | ((with_reducible refine gate (N := 6) rfl ?_); (refine ev_allocL rfl hL rfl (by first | exact cells_agg _ rfl | exact cells_int _ _ | exact cells_str _ | exact cells_bool _ | exact cells_slice _ _ _ | exact cells_ptr _ | exact cells_map _ | exact cells_func _ _ _ | exact cells_nilFunc | exact cells_one (by assumption) (by assumption)) ?_; clear hL; intro g6 w6 hL)) | ((with_reducible refine gAlloc rfl rfl ?_); (refine ev_allocL rfl hL rfl (by first | exact cells_agg _ rfl | exact cells_int _ _ | exact cells_str _ | exact cells_bool _ | exact cells_slice _ _ _ | exact cells_ptr _ | exact cells_map _ | exact cells_func _ _ _ | exact cells_nilFunc | exact cells_one (by assumption) (by assumption)) ?_; clear hL; intro gq wq hL)) | ((with_reducible refine gBox rfl rfl ?_); (refine ev_boxL rfl hL rfl rfl (by first | exact cells_agg _ rfl | exact cells_int _ _ | exact cells_str _ | exact cells_bool _ | exact cells_slice _ _ _ | exact cells_ptr _ | exact cells_map _ | exact cells_func _ _ _ | exact cells_nilFunc | exact cells_one (by assumption) (by assumption)) ?_; clear hL; intro gq wq hL)) | ((with_reducible refine gLoad rfl rfl ?_); (first | (refine ev_load1L rfl hL rfl rfl HasV.mem (by rfl) ?_) | (refine ev_loadAllL rfl hL rfl rfl HasV.mem (by rfl) ?_) | (refine ev_loadL rfl hL rfl rfl HasV.mem SegC.seg ?_))) | ((with_reducible refine gStore rfl rfl ?_); (first | (refine ev_storeC rfl hL rfl rfl rfl (by first | exact cells_agg _ rfl | exact cells_int _ _ | exact cells_str _ | exact cells_bool _ | exact cells_slice _ _ _ | exact cells_ptr _ | exact cells_map _ | exact cells_func _ _ _ | exact cells_nilFunc | exact cells_one (by assumption) (by assumption)) (by rfl) ?_) | (refine ev_storeAllC rfl hL rfl rfl rfl (by first | exact cells_agg _ rfl | exact cells_int _ _ | exact cells_str _ | exact cells_bool _ | exact cells_slice _ _ _ | exact cells_ptr _ | exact cells_map _ | exact cells_func _ _ _ | exact cells_nilFunc | exact cells_one (by assumption) (by assumption)) (by rfl) (by rfl) ?_)); clear hL; intro wq hL) | ((with_reducible refine gLoadG rfl rfl ?_ ?_); (exact wanted_some rfl rfl rfl (by with_reducible rfl)); (first | (refine ev_load1G (wanted_some rfl rfl rfl rfl) hL rfl rfl HasV.mem (by rfl) ?_) | (refine ev_loadAllG (wanted_some rfl rfl rfl rfl) hL rfl rfl HasV.mem (by rfl) ?_) | (refine ev_loadG_ (wanted_some rfl rfl rfl rfl) hL rfl rfl HasV.mem SegC.seg ?_))))
  go_loopw [19] (fun i wr => ∃ (k : Nat), k ≤ ps.length ∧ i = .int .i64 k ∧ Loc w NoM wr [var g6 (C8 (cn (ps.take k))) 24, row encEp w.heap.size 31 u ps, var g3 [.int .i64 id.boot, .int .i64 id.n] 23]) (fun i _ => ps.length - (intOf i).toNat)
  case atStart => exact ⟨0, by omega, rfl, by rw [List.take_zero, C8_nil]; exact hL⟩
  case round =>
    clear hL
    obtain ⟨k, hk, rfl, hL⟩ := hrel
    by_cases hlt : k < ps.length
    · obtain ⟨g, off, rfl, hr⟩ := hel k hlt
      have hrW : World.rangeAt _ g (off + k * 21) (Evt.cells ps[k].e) := range_below hr hL.below
      clear hr
      have HT := Lib.hid (List.take_append_getElem hlt).symm
      obtain ⟨a, ha⟩ : ∃ a, a = ps[k] := ⟨_, rfl⟩
      rw [← ha] at HT hrW
      clear ha
      have hTl : (ps.take k).length ≤ 60 := by rw [List.length_take]; omega
      have HT2 := Lib.hid (show C8 (cn (ps.take (k + 1))) = C8 (cn (ps.take k ++ [a])) by rw [HT.out])
      clear HT
      generalize ps.take k = T at *
      unfold Evt.cells at hrW
      unfold C8 at hL
      go_wp2_with (first | ((with_reducible refine gIndex rfl rfl ?_); refine ev_indexL rfl rfl rfl rfl hlt ?_) | ((with_reducible refine gate (N := 22) rfl ?_); refine ev_loadR rfl rfl rfl hrW (by rfl) ?_) | ((with_reducible refine gate (N := 8) rfl ?_); (refine ev_allocL rfl hL rfl (by first | exact cells_agg _ rfl | exact cells_int _ _ | exact cells_str _ | exact cells_bool _ | exact cells_slice _ _ _ | exact cells_ptr _ | exact cells_map _ | exact cells_func _ _ _ | exact cells_nilFunc | exact cells_one (by assumption) (by assumption)) ?_; clear hL; intro g8 w8 hL)) | ((with_reducible refine gAlloc rfl rfl ?_); (refine ev_allocL rfl hL rfl (by first | exact cells_agg _ rfl | exact cells_int _ _ | exact cells_str _ | exact cells_bool _ | exact cells_slice _ _ _ | exact cells_ptr _ | exact cells_map _ | exact cells_func _ _ _ | exact cells_nilFunc | exact cells_one (by assumption) (by assumption)) ?_; clear hL; intro gq wq hL)) | ((with_reducible refine gBox rfl rfl ?_); (refine ev_boxL rfl hL rfl rfl (by first | exact cells_agg _ rfl | exact cells_int _ _ | exact cells_str _ | exact cells_bool _ | exact cells_slice _ _ _ | exact cells_ptr _ | exact cells_map _ | exact cells_func _ _ _ | exact cells_nilFunc | exact cells_one (by assumption) (by assumption)) ?_; clear hL; intro gq wq hL)) | ((with_reducible refine gLoad rfl rfl ?_); (first | (refine ev_load1L rfl hL rfl rfl HasV.mem (by rfl) ?_) | (refine ev_loadAllL rfl hL rfl rfl HasV.mem (by rfl) ?_) | (refine ev_loadL rfl hL rfl rfl HasV.mem SegC.seg ?_))) | ((with_reducible refine gStore rfl rfl ?_); (first | (refine ev_storeC rfl hL rfl rfl rfl (by first | exact cells_agg _ rfl | exact cells_int _ _ | exact cells_str _ | exact cells_bool _ | exact cells_slice _ _ _ | exact cells_ptr _ | exact cells_map _ | exact cells_func _ _ _ | exact cells_nilFunc | exact cells_one (by assumption) (by assumption)) (by rfl) ?_) | (refine ev_storeAllC rfl hL rfl rfl rfl (by first | exact cells_agg _ rfl | exact cells_int _ _ | exact cells_str _ | exact cells_bool _ | exact cells_slice _ _ _ | exact cells_ptr _ | exact cells_map _ | exact cells_func _ _ _ | exact cells_nilFunc | exact cells_one (by assumption) (by assumption)) (by rfl) (by rfl) ?_)); clear hL; intro wq hL) | ((with_reducible refine gLoadG rfl rfl ?_ ?_); (exact wanted_some rfl rfl rfl (by with_reducible rfl)); (first | (refine ev_load1G (wanted_some rfl rfl rfl rfl) hL rfl rfl HasV.mem (by rfl) ?_) | (refine ev_loadAllG (wanted_some rfl rfl rfl rfl) hL rfl rfl HasV.mem (by rfl) ?_) | (refine ev_loadG_ (wanted_some rfl rfl rfl rfl) hL rfl rfl HasV.mem SegC.seg ?_))))
      go_loopw [23] (fun i wr => ∃ (j : Nat), j ≤ 8 ∧ i = .int .i64 j ∧ Loc w NoM wr [var g8 [.int .i64 a.e.at_.boot, .int .i64 a.e.at_.n, .int .i64 a.e.vol, .int .i64 a.e.knew.a0, .int .i64 a.e.knew.a1, .int .i64 a.e.knew.a2, .int .i64 a.e.knew.a3, .int .i64 a.e.knew.a4, .int .i64 a.e.knew.a5, .int .i64 a.e.knew.a6, .int .i64 a.e.knew.a7, .int .i64 a.e.seen.a0, .int .i64 a.e.seen.a1, .int .i64 a.e.seen.a2, .int .i64 a.e.seen.a3, .int .i64 a.e.seen.a4, .int .i64 a.e.seen.a5, .int .i64 a.e.seen.a6, .int .i64 a.e.seen.a7, .slice a.e.na a.e.nn a.e.nc, .slice a.e.la a.e.ln a.e.lc] 31, var g6 (C8 (mx T a j)) 24, row encEp w.heap.size 31 u ps, var g3 [.int .i64 id.boot, .int .i64 id.n] 23]) (fun i _ => 8 - (intOf i).toNat)
      case atStart => exact ⟨0, by omega, rfl, by rw [mx_zero]; exact hL⟩
      case round =>
        clear hL hrW
        obtain ⟨j, hj, rfl, hL⟩ := hrel
        by_cases hlj : j < 8
        · have hj8 : j = 0 ∨ j = 1 ∨ j = 2 ∨ j = 3 ∨ j = 4 ∨ j = 5 ∨ j = 6 ∨ j = 7 := by omega
          obtain ⟨c0, h0⟩ : ∃ c, mx T a j 0 = c := ⟨_, rfl⟩
          obtain ⟨c1, h1⟩ : ∃ c, mx T a j 1 = c := ⟨_, rfl⟩
          obtain ⟨c2, h2⟩ : ∃ c, mx T a j 2 = c := ⟨_, rfl⟩
          obtain ⟨c3, h3⟩ : ∃ c, mx T a j 3 = c := ⟨_, rfl⟩
          obtain ⟨c4, h4⟩ : ∃ c, mx T a j 4 = c := ⟨_, rfl⟩
          obtain ⟨c5, h5⟩ : ∃ c, mx T a j 5 = c := ⟨_, rfl⟩
          obtain ⟨c6, h6⟩ : ∃ c, mx T a j 6 = c := ⟨_, rfl⟩
          obtain ⟨c7, h7⟩ : ∃ c, mx T a j 7 = c := ⟨_, rfl⟩
          have b0 : (c0 : Int) ≤ 1000 := by have := mx_le T a j 0; rw [h0] at this; omega
          have b1 : (c1 : Int) ≤ 1000 := by have := mx_le T a j 1; rw [h1] at this; omega
          have b2 : (c2 : Int) ≤ 1000 := by have := mx_le T a j 2; rw [h2] at this; omega
          have b3 : (c3 : Int) ≤ 1000 := by have := mx_le T a j 3; rw [h3] at this; omega
          have b4 : (c4 : Int) ≤ 1000 := by have := mx_le T a j 4; rw [h4] at this; omega
          have b5 : (c5 : Int) ≤ 1000 := by have := mx_le T a j 5; rw [h5] at this; omega
          have b6 : (c6 : Int) ≤ 1000 := by have := mx_le T a j 6; rw [h6] at this; omega
          have b7 : (c7 : Int) ≤ 1000 := by have := mx_le T a j 7; rw [h7] at this; omega
          have HL8 : C8 (mx T a j) = [.int .i64 (c0 : Int), .int .i64 (c1 : Int), .int .i64 (c2 : Int), .int .i64 (c3 : Int), .int .i64 (c4 : Int), .int .i64 (c5 : Int), .int .i64 (c6 : Int), .int .i64 (c7 : Int)] := by unfold C8; rw [h0, h1, h2, h3, h4, h5, h6, h7]
          by_cases hx : a.e.at_.n = (j : Int)
          · rw [HL8] at hL
            clear HL8 hj hTl
            rcases hj8 with rfl | rfl | rfl | rfl | rfl | rfl | rfl | rfl
            · have HS := Lib.hid (mx_at0 T a hx h0 h1 h2 h3 h4 h5 h6 h7)
              rw [show ((0 : Nat) : Int) = (0 : Int) from rfl] at hx ⊢
              have hlj9 : decide ((0 : Int) < 8) = true := by decide
              have t1 : (a.e.at_.n == (0 : Int)) = true := by simpa using hx
              clear hx h0 h1 h2 h3 h4 h5 h6 h7 hlj
              go_wp2_with (first | ((with_reducible refine gAlloc rfl rfl ?_); (refine ev_allocL rfl hL rfl (by first | exact cells_agg _ rfl | exact cells_int _ _ | exact cells_str _ | exact cells_bool _ | exact cells_slice _ _ _ | exact cells_ptr _ | exact cells_map _ | exact cells_func _ _ _ | exact cells_nilFunc | exact cells_one (by assumption) (by assumption)) ?_; clear hL; intro gq wq hL)) | ((with_reducible refine gBox rfl rfl ?_); (refine ev_boxL rfl hL rfl rfl (by first | exact cells_agg _ rfl | exact cells_int _ _ | exact cells_str _ | exact cells_bool _ | exact cells_slice _ _ _ | exact cells_ptr _ | exact cells_map _ | exact cells_func _ _ _ | exact cells_nilFunc | exact cells_one (by assumption) (by assumption)) ?_; clear hL; intro gq wq hL)) | ((with_reducible refine gLoad rfl rfl ?_); (first | (refine ev_load1L rfl hL rfl rfl HasV.mem (by rfl) ?_) | (refine ev_loadAllL rfl hL rfl rfl HasV.mem (by rfl) ?_) | (refine ev_loadL rfl hL rfl rfl HasV.mem SegC.seg ?_))) | ((with_reducible refine gStore rfl rfl ?_); (first | (refine ev_storeC rfl hL rfl rfl rfl (by first | exact cells_agg _ rfl | exact cells_int _ _ | exact cells_str _ | exact cells_bool _ | exact cells_slice _ _ _ | exact cells_ptr _ | exact cells_map _ | exact cells_func _ _ _ | exact cells_nilFunc | exact cells_one (by assumption) (by assumption)) (by rfl) ?_) | (refine ev_storeAllC rfl hL rfl rfl rfl (by first | exact cells_agg _ rfl | exact cells_int _ _ | exact cells_str _ | exact cells_bool _ | exact cells_slice _ _ _ | exact cells_ptr _ | exact cells_map _ | exact cells_func _ _ _ | exact cells_nilFunc | exact cells_one (by assumption) (by assumption)) (by rfl) (by rfl) ?_)); clear hL; intro wq hL) | ((with_reducible refine gLoadG rfl rfl ?_ ?_); (exact wanted_some rfl rfl rfl (by with_reducible rfl)); (first | (refine ev_load1G (wanted_some rfl rfl rfl rfl) hL rfl rfl HasV.mem (by rfl) ?_) | (refine ev_loadAllG (wanted_some rfl rfl rfl rfl) hL rfl rfl HasV.mem (by rfl) ?_) | (refine ev_loadG_ (wanted_some rfl rfl rfl rfl) hL rfl rfl HasV.mem SegC.seg ?_))))
              go_roundw
              case rel => exact ⟨0 + 1, by omega, by go_num, by rw [HS.out]; exact hL.sub (by repeat (first | exact List.nil_sublist _ | with_reducible apply List.Sublist.cons_cons | with_reducible apply List.Sublist.cons))⟩
              case measure => simp [intOf]
            · have HS := Lib.hid (mx_at1 T a hx h0 h1 h2 h3 h4 h5 h6 h7)
              rw [show ((1 : Nat) : Int) = (1 : Int) from rfl] at hx ⊢
              have hlj9 : decide ((1 : Int) < 8) = true := by decide
              have t1 : (a.e.at_.n == (1 : Int)) = true := by simpa using hx
              clear hx h0 h1 h2 h3 h4 h5 h6 h7 hlj
              go_wp2_with (first | ((with_reducible refine gAlloc rfl rfl ?_); (refine ev_allocL rfl hL rfl (by first | exact cells_agg _ rfl | exact cells_int _ _ | exact cells_str _ | exact cells_bool _ | exact cells_slice _ _ _ | exact cells_ptr _ | exact cells_map _ | exact cells_func _ _ _ | exact cells_nilFunc | exact cells_one (by assumption) (by assumption)) ?_; clear hL; intro gq wq hL)) | ((with_reducible refine gBox rfl rfl ?_); (refine ev_boxL rfl hL rfl rfl (by first | exact cells_agg _ rfl | exact cells_int _ _ | exact cells_str _ | exact cells_bool _ | exact cells_slice _ _ _ | exact cells_ptr _ | exact cells_map _ | exact cells_func _ _ _ | exact cells_nilFunc | exact cells_one (by assumption) (by assumption)) ?_; clear hL; intro gq wq hL)) | ((with_reducible refine gLoad rfl rfl ?_); (first | (refine ev_load1L rfl hL rfl rfl HasV.mem (by rfl) ?_) | (refine ev_loadAllL rfl hL rfl rfl HasV.mem (by rfl) ?_) | (refine ev_loadL rfl hL rfl rfl HasV.mem SegC.seg ?_))) | ((with_reducible refine gStore rfl rfl ?_); (first | (refine ev_storeC rfl hL rfl rfl rfl (by first | exact cells_agg _ rfl | exact cells_int _ _ | exact cells_str _ | exact cells_bool _ | exact cells_slice _ _ _ | exact cells_ptr _ | exact cells_map _ | exact cells_func _ _ _ | exact cells_nilFunc | exact cells_one (by assumption) (by assumption)) (by rfl) ?_) | (refine ev_storeAllC rfl hL rfl rfl rfl (by first | exact cells_agg _ rfl | exact cells_int _ _ | exact cells_str _ | exact cells_bool _ | exact cells_slice _ _ _ | exact cells_ptr _ | exact cells_map _ | exact cells_func _ _ _ | exact cells_nilFunc | exact cells_one (by assumption) (by assumption)) (by rfl) (by rfl) ?_)); clear hL; intro wq hL) | ((with_reducible refine gLoadG rfl rfl ?_ ?_); (exact wanted_some rfl rfl rfl (by with_reducible rfl)); (first | (refine ev_load1G (wanted_some rfl rfl rfl rfl) hL rfl rfl HasV.mem (by rfl) ?_) | (refine ev_loadAllG (wanted_some rfl rfl rfl rfl) hL rfl rfl HasV.mem (by rfl) ?_) | (refine ev_loadG_ (wanted_some rfl rfl rfl rfl) hL rfl rfl HasV.mem SegC.seg ?_))))
              go_roundw
              case rel => exact ⟨1 + 1, by omega, by go_num, by rw [HS.out]; exact hL.sub (by repeat (first | exact List.nil_sublist _ | with_reducible apply List.Sublist.cons_cons | with_reducible apply List.Sublist.cons))⟩
              case measure => simp [intOf]
            · have HS := Lib.hid (mx_at2 T a hx h0 h1 h2 h3 h4 h5 h6 h7)
              rw [show ((2 : Nat) : Int) = (2 : Int) from rfl] at hx ⊢
              have hlj9 : decide ((2 : Int) < 8) = true := by decide
              have t1 : (a.e.at_.n == (2 : Int)) = true := by simpa using hx
              clear hx h0 h1 h2 h3 h4 h5 h6 h7 hlj
              go_wp2_with (first | ((with_reducible refine gAlloc rfl rfl ?_); (refine ev_allocL rfl hL rfl (by first | exact cells_agg _ rfl | exact cells_int _ _ | exact cells_str _ | exact cells_bool _ | exact cells_slice _ _ _ | exact cells_ptr _ | exact cells_map _ | exact cells_func _ _ _ | exact cells_nilFunc | exact cells_one (by assumption) (by assumption)) ?_; clear hL; intro gq wq hL)) | ((with_reducible refine gBox rfl rfl ?_); (refine ev_boxL rfl hL rfl rfl (by first | exact cells_agg _ rfl | exact cells_int _ _ | exact cells_str _ | exact cells_bool _ | exact cells_slice _ _ _ | exact cells_ptr _ | exact cells_map _ | exact cells_func _ _ _ | exact cells_nilFunc | exact cells_one (by assumption) (by assumption)) ?_; clear hL; intro gq wq hL)) | ((with_reducible refine gLoad rfl rfl ?_); (first | (refine ev_load1L rfl hL rfl rfl HasV.mem (by rfl) ?_) | (refine ev_loadAllL rfl hL rfl rfl HasV.mem (by rfl) ?_) | (refine ev_loadL rfl hL rfl rfl HasV.mem SegC.seg ?_))) | ((with_reducible refine gStore rfl rfl ?_); (first | (refine ev_storeC rfl hL rfl rfl rfl (by first | exact cells_agg _ rfl | exact cells_int _ _ | exact cells_str _ | exact cells_bool _ | exact cells_slice _ _ _ | exact cells_ptr _ | exact cells_map _ | exact cells_func _ _ _ | exact cells_nilFunc | exact cells_one (by assumption) (by assumption)) (by rfl) ?_) | (refine ev_storeAllC rfl hL rfl rfl rfl (by first | exact cells_agg _ rfl | exact cells_int _ _ | exact cells_str _ | exact cells_bool _ | exact cells_slice _ _ _ | exact cells_ptr _ | exact cells_map _ | exact cells_func _ _ _ | exact cells_nilFunc | exact cells_one (by assumption) (by assumption)) (by rfl) (by rfl) ?_)); clear hL; intro wq hL) | ((with_reducible refine gLoadG rfl rfl ?_ ?_); (exact wanted_some rfl rfl rfl (by with_reducible rfl)); (first | (refine ev_load1G (wanted_some rfl rfl rfl rfl) hL rfl rfl HasV.mem (by rfl) ?_) | (refine ev_loadAllG (wanted_some rfl rfl rfl rfl) hL rfl rfl HasV.mem (by rfl) ?_) | (refine ev_loadG_ (wanted_some rfl rfl rfl rfl) hL rfl rfl HasV.mem SegC.seg ?_))))
              go_roundw
              case rel => exact ⟨2 + 1, by omega, by go_num, by rw [HS.out]; exact hL.sub (by repeat (first | exact List.nil_sublist _ | with_reducible apply List.Sublist.cons_cons | with_reducible apply List.Sublist.cons))⟩
              case measure => simp [intOf]
            · have HS := Lib.hid (mx_at3 T a hx h0 h1 h2 h3 h4 h5 h6 h7)
              rw [show ((3 : Nat) : Int) = (3 : Int) from rfl] at hx ⊢
              have hlj9 : decide ((3 : Int) < 8) = true := by decide
              have t1 : (a.e.at_.n == (3 : Int)) = true := by simpa using hx
              clear hx h0 h1 h2 h3 h4 h5 h6 h7 hlj
              go_wp2_with (first | ((with_reducible refine gAlloc rfl rfl ?_); (refine ev_allocL rfl hL rfl (by first | exact cells_agg _ rfl | exact cells_int _ _ | exact cells_str _ | exact cells_bool _ | exact cells_slice _ _ _ | exact cells_ptr _ | exact cells_map _ | exact cells_func _ _ _ | exact cells_nilFunc | exact cells_one (by assumption) (by assumption)) ?_; clear hL; intro gq wq hL)) | ((with_reducible refine gBox rfl rfl ?_); (refine ev_boxL rfl hL rfl rfl (by first | exact cells_agg _ rfl | exact cells_int _ _ | exact cells_str _ | exact cells_bool _ | exact cells_slice _ _ _ | exact cells_ptr _ | exact cells_map _ | exact cells_func _ _ _ | exact cells_nilFunc | exact cells_one (by assumption) (by assumption)) ?_; clear hL; intro gq wq hL)) | ((with_reducible refine gLoad rfl rfl ?_); (first | (refine ev_load1L rfl hL rfl rfl HasV.mem (by rfl) ?_) | (refine ev_loadAllL rfl hL rfl rfl HasV.mem (by rfl) ?_) | (refine ev_loadL rfl hL rfl rfl HasV.mem SegC.seg ?_))) | ((with_reducible refine gStore rfl rfl ?_); (first | (refine ev_storeC rfl hL rfl rfl rfl (by first | exact cells_agg _ rfl | exact cells_int _ _ | exact cells_str _ | exact cells_bool _ | exact cells_slice _ _ _ | exact cells_ptr _ | exact cells_map _ | exact cells_func _ _ _ | exact cells_nilFunc | exact cells_one (by assumption) (by assumption)) (by rfl) ?_) | (refine ev_storeAllC rfl hL rfl rfl rfl (by first | exact cells_agg _ rfl | exact cells_int _ _ | exact cells_str _ | exact cells_bool _ | exact cells_slice _ _ _ | exact cells_ptr _ | exact cells_map _ | exact cells_func _ _ _ | exact cells_nilFunc | exact cells_one (by assumption) (by assumption)) (by rfl) (by rfl) ?_)); clear hL; intro wq hL) | ((with_reducible refine gLoadG rfl rfl ?_ ?_); (exact wanted_some rfl rfl rfl (by with_reducible rfl)); (first | (refine ev_load1G (wanted_some rfl rfl rfl rfl) hL rfl rfl HasV.mem (by rfl) ?_) | (refine ev_loadAllG (wanted_some rfl rfl rfl rfl) hL rfl rfl HasV.mem (by rfl) ?_) | (refine ev_loadG_ (wanted_some rfl rfl rfl rfl) hL rfl rfl HasV.mem SegC.seg ?_))))
              go_roundw
              case rel => exact ⟨3 + 1, by omega, by go_num, by rw [HS.out]; exact hL.sub (by repeat (first | exact List.nil_sublist _ | with_reducible apply List.Sublist.cons_cons | with_reducible apply List.Sublist.cons))⟩
              case measure => simp [intOf]
            · have HS := Lib.hid (mx_at4 T a hx h0 h1 h2 h3 h4 h5 h6 h7)
              rw [show ((4 : Nat) : Int) = (4 : Int) from rfl] at hx ⊢
              have hlj9 : decide ((4 : Int) < 8) = true := by decide
              have t1 : (a.e.at_.n == (4 : Int)) = true := by simpa using hx
              clear hx h0 h1 h2 h3 h4 h5 h6 h7 hlj
              go_wp2_with (first | ((with_reducible refine gAlloc rfl rfl ?_); (refine ev_allocL rfl hL rfl (by first | exact cells_agg _ rfl | exact cells_int _ _ | exact cells_str _ | exact cells_bool _ | exact cells_slice _ _ _ | exact cells_ptr _ | exact cells_map _ | exact cells_func _ _ _ | exact cells_nilFunc | exact cells_one (by assumption) (by assumption)) ?_; clear hL; intro gq wq hL)) | ((with_reducible refine gBox rfl rfl ?_); (refine ev_boxL rfl hL rfl rfl (by first | exact cells_agg _ rfl | exact cells_int _ _ | exact cells_str _ | exact cells_bool _ | exact cells_slice _ _ _ | exact cells_ptr _ | exact cells_map _ | exact cells_func _ _ _ | exact cells_nilFunc | exact cells_one (by assumption) (by assumption)) ?_; clear hL; intro gq wq hL)) | ((with_reducible refine gLoad rfl rfl ?_); (first | (refine ev_load1L rfl hL rfl rfl HasV.mem (by rfl) ?_) | (refine ev_loadAllL rfl hL rfl rfl HasV.mem (by rfl) ?_) | (refine ev_loadL rfl hL rfl rfl HasV.mem SegC.seg ?_))) | ((with_reducible refine gStore rfl rfl ?_); (first | (refine ev_storeC rfl hL rfl rfl rfl (by first | exact cells_agg _ rfl | exact cells_int _ _ | exact cells_str _ | exact cells_bool _ | exact cells_slice _ _ _ | exact cells_ptr _ | exact cells_map _ | exact cells_func _ _ _ | exact cells_nilFunc | exact cells_one (by assumption) (by assumption)) (by rfl) ?_) | (refine ev_storeAllC rfl hL rfl rfl rfl (by first | exact cells_agg _ rfl | exact cells_int _ _ | exact cells_str _ | exact cells_bool _ | exact cells_slice _ _ _ | exact cells_ptr _ | exact cells_map _ | exact cells_func _ _ _ | exact cells_nilFunc | exact cells_one (by assumption) (by assumption)) (by rfl) (by rfl) ?_)); clear hL; intro wq hL) | ((with_reducible refine gLoadG rfl rfl ?_ ?_); (exact wanted_some rfl rfl rfl (by with_reducible rfl)); (first | (refine ev_load1G (wanted_some rfl rfl rfl rfl) hL rfl rfl HasV.mem (by rfl) ?_) | (refine ev_loadAllG (wanted_some rfl rfl rfl rfl) hL rfl rfl HasV.mem (by rfl) ?_) | (refine ev_loadG_ (wanted_some rfl rfl rfl rfl) hL rfl rfl HasV.mem SegC.seg ?_))))
              go_roundw
              case rel => exact ⟨4 + 1, by omega, by go_num, by rw [HS.out]; exact hL.sub (by repeat (first | exact List.nil_sublist _ | with_reducible apply List.Sublist.cons_cons | with_reducible apply List.Sublist.cons))⟩
              case measure => simp [intOf]
            · have HS := Lib.hid (mx_at5 T a hx h0 h1 h2 h3 h4 h5 h6 h7)
              rw [show ((5 : Nat) : Int) = (5 : Int) from rfl] at hx ⊢
              have hlj9 : decide ((5 : Int) < 8) = true := by decide
              have t1 : (a.e.at_.n == (5 : Int)) = true := by simpa using hx
              clear hx h0 h1 h2 h3 h4 h5 h6 h7 hlj
              go_wp2_with (first | ((with_reducible refine gAlloc rfl rfl ?_); (refine ev_allocL rfl hL rfl (by first | exact cells_agg _ rfl | exact cells_int _ _ | exact cells_str _ | exact cells_bool _ | exact cells_slice _ _ _ | exact cells_ptr _ | exact cells_map _ | exact cells_func _ _ _ | exact cells_nilFunc | exact cells_one (by assumption) (by assumption)) ?_; clear hL; intro gq wq hL)) | ((with_reducible refine gBox rfl rfl ?_); (refine ev_boxL rfl hL rfl rfl (by first | exact cells_agg _ rfl | exact cells_int _ _ | exact cells_str _ | exact cells_bool _ | exact cells_slice _ _ _ | exact cells_ptr _ | exact cells_map _ | exact cells_func _ _ _ | exact cells_nilFunc | exact cells_one (by assumption) (by assumption)) ?_; clear hL; intro gq wq hL)) | ((with_reducible refine gLoad rfl rfl ?_); (first | (refine ev_load1L rfl hL rfl rfl HasV.mem (by rfl) ?_) | (refine ev_loadAllL rfl hL rfl rfl HasV.mem (by rfl) ?_) | (refine ev_loadL rfl hL rfl rfl HasV.mem SegC.seg ?_))) | ((with_reducible refine gStore rfl rfl ?_); (first | (refine ev_storeC rfl hL rfl rfl rfl (by first | exact cells_agg _ rfl | exact cells_int _ _ | exact cells_str _ | exact cells_bool _ | exact cells_slice _ _ _ | exact cells_ptr _ | exact cells_map _ | exact cells_func _ _ _ | exact cells_nilFunc | exact cells_one (by assumption) (by assumption)) (by rfl) ?_) | (refine ev_storeAllC rfl hL rfl rfl rfl (by first | exact cells_agg _ rfl | exact cells_int _ _ | exact cells_str _ | exact cells_bool _ | exact cells_slice _ _ _ | exact cells_ptr _ | exact cells_map _ | exact cells_func _ _ _ | exact cells_nilFunc | exact cells_one (by assumption) (by assumption)) (by rfl) (by rfl) ?_)); clear hL; intro wq hL) | ((with_reducible refine gLoadG rfl rfl ?_ ?_); (exact wanted_some rfl rfl rfl (by with_reducible rfl)); (first | (refine ev_load1G (wanted_some rfl rfl rfl rfl) hL rfl rfl HasV.mem (by rfl) ?_) | (refine ev_loadAllG (wanted_some rfl rfl rfl rfl) hL rfl rfl HasV.mem (by rfl) ?_) | (refine ev_loadG_ (wanted_some rfl rfl rfl rfl) hL rfl rfl HasV.mem SegC.seg ?_))))
              go_roundw
              case rel => exact ⟨5 + 1, by omega, by go_num, by rw [HS.out]; exact hL.sub (by repeat (first | exact List.nil_sublist _ | with_reducible apply List.Sublist.cons_cons | with_reducible apply List.Sublist.cons))⟩
              case measure => simp [intOf]
            · have HS := Lib.hid (mx_at6 T a hx h0 h1 h2 h3 h4 h5 h6 h7)
              rw [show ((6 : Nat) : Int) = (6 : Int) from rfl] at hx ⊢
              have hlj9 : decide ((6 : Int) < 8) = true := by decide
              have t1 : (a.e.at_.n == (6 : Int)) = true := by simpa using hx
              clear hx h0 h1 h2 h3 h4 h5 h6 h7 hlj
              go_wp2_with (first | ((with_reducible refine gAlloc rfl rfl ?_); (refine ev_allocL rfl hL rfl (by first | exact cells_agg _ rfl | exact cells_int _ _ | exact cells_str _ | exact cells_bool _ | exact cells_slice _ _ _ | exact cells_ptr _ | exact cells_map _ | exact cells_func _ _ _ | exact cells_nilFunc | exact cells_one (by assumption) (by assumption)) ?_; clear hL; intro gq wq hL)) | ((with_reducible refine gBox rfl rfl ?_); (refine ev_boxL rfl hL rfl rfl (by first | exact cells_agg _ rfl | exact cells_int _ _ | exact cells_str _ | exact cells_bool _ | exact cells_slice _ _ _ | exact cells_ptr _ | exact cells_map _ | exact cells_func _ _ _ | exact cells_nilFunc | exact cells_one (by assumption) (by assumption)) ?_; clear hL; intro gq wq hL)) | ((with_reducible refine gLoad rfl rfl ?_); (first | (refine ev_load1L rfl hL rfl rfl HasV.mem (by rfl) ?_) | (refine ev_loadAllL rfl hL rfl rfl HasV.mem (by rfl) ?_) | (refine ev_loadL rfl hL rfl rfl HasV.mem SegC.seg ?_))) | ((with_reducible refine gStore rfl rfl ?_); (first | (refine ev_storeC rfl hL rfl rfl rfl (by first | exact cells_agg _ rfl | exact cells_int _ _ | exact cells_str _ | exact cells_bool _ | exact cells_slice _ _ _ | exact cells_ptr _ | exact cells_map _ | exact cells_func _ _ _ | exact cells_nilFunc | exact cells_one (by assumption) (by assumption)) (by rfl) ?_) | (refine ev_storeAllC rfl hL rfl rfl rfl (by first | exact cells_agg _ rfl | exact cells_int _ _ | exact cells_str _ | exact cells_bool _ | exact cells_slice _ _ _ | exact cells_ptr _ | exact cells_map _ | exact cells_func _ _ _ | exact cells_nilFunc | exact cells_one (by assumption) (by assumption)) (by rfl) (by rfl) ?_)); clear hL; intro wq hL) | ((with_reducible refine gLoadG rfl rfl ?_ ?_); (exact wanted_some rfl rfl rfl (by with_reducible rfl)); (first | (refine ev_load1G (wanted_some rfl rfl rfl rfl) hL rfl rfl HasV.mem (by rfl) ?_) | (refine ev_loadAllG (wanted_some rfl rfl rfl rfl) hL rfl rfl HasV.mem (by rfl) ?_) | (refine ev_loadG_ (wanted_some rfl rfl rfl rfl) hL rfl rfl HasV.mem SegC.seg ?_))))
              go_roundw
              case rel => exact ⟨6 + 1, by omega, by go_num, by rw [HS.out]; exact hL.sub (by repeat (first | exact List.nil_sublist _ | with_reducible apply List.Sublist.cons_cons | with_reducible apply List.Sublist.cons))⟩
              case measure => simp [intOf]
            · have HS := Lib.hid (mx_at7 T a hx h0 h1 h2 h3 h4 h5 h6 h7)
              rw [show ((7 : Nat) : Int) = (7 : Int) from rfl] at hx ⊢
              have hlj9 : decide ((7 : Int) < 8) = true := by decide
              have t1 : (a.e.at_.n == (7 : Int)) = true := by simpa using hx
              clear hx h0 h1 h2 h3 h4 h5 h6 h7 hlj
              go_wp2_with (first | ((with_reducible refine gAlloc rfl rfl ?_); (refine ev_allocL rfl hL rfl (by first | exact cells_agg _ rfl | exact cells_int _ _ | exact cells_str _ | exact cells_bool _ | exact cells_slice _ _ _ | exact cells_ptr _ | exact cells_map _ | exact cells_func _ _ _ | exact cells_nilFunc | exact cells_one (by assumption) (by assumption)) ?_; clear hL; intro gq wq hL)) | ((with_reducible refine gBox rfl rfl ?_); (refine ev_boxL rfl hL rfl rfl (by first | exact cells_agg _ rfl | exact cells_int _ _ | exact cells_str _ | exact cells_bool _ | exact cells_slice _ _ _ | exact cells_ptr _ | exact cells_map _ | exact cells_func _ _ _ | exact cells_nilFunc | exact cells_one (by assumption) (by assumption)) ?_; clear hL; intro gq wq hL)) | ((with_reducible refine gLoad rfl rfl ?_); (first | (refine ev_load1L rfl hL rfl rfl HasV.mem (by rfl) ?_) | (refine ev_loadAllL rfl hL rfl rfl HasV.mem (by rfl) ?_) | (refine ev_loadL rfl hL rfl rfl HasV.mem SegC.seg ?_))) | ((with_reducible refine gStore rfl rfl ?_); (first | (refine ev_storeC rfl hL rfl rfl rfl (by first | exact cells_agg _ rfl | exact cells_int _ _ | exact cells_str _ | exact cells_bool _ | exact cells_slice _ _ _ | exact cells_ptr _ | exact cells_map _ | exact cells_func _ _ _ | exact cells_nilFunc | exact cells_one (by assumption) (by assumption)) (by rfl) ?_) | (refine ev_storeAllC rfl hL rfl rfl rfl (by first | exact cells_agg _ rfl | exact cells_int _ _ | exact cells_str _ | exact cells_bool _ | exact cells_slice _ _ _ | exact cells_ptr _ | exact cells_map _ | exact cells_func _ _ _ | exact cells_nilFunc | exact cells_one (by assumption) (by assumption)) (by rfl) (by rfl) ?_)); clear hL; intro wq hL) | ((with_reducible refine gLoadG rfl rfl ?_ ?_); (exact wanted_some rfl rfl rfl (by with_reducible rfl)); (first | (refine ev_load1G (wanted_some rfl rfl rfl rfl) hL rfl rfl HasV.mem (by rfl) ?_) | (refine ev_loadAllG (wanted_some rfl rfl rfl rfl) hL rfl rfl HasV.mem (by rfl) ?_) | (refine ev_loadG_ (wanted_some rfl rfl rfl rfl) hL rfl rfl HasV.mem SegC.seg ?_))))
              go_roundw
              case rel => exact ⟨7 + 1, by omega, by go_num, by rw [HS.out]; exact hL.sub (by repeat (first | exact List.nil_sublist _ | with_reducible apply List.Sublist.cons_cons | with_reducible apply List.Sublist.cons))⟩
              case measure => simp [intOf]
          · have HS := Lib.hid (mx_no T a j hx)
            have hlj9 : decide ((j : Int) < 8) = true := (by first | (simp; done) | (simp; omega))
            have t1 : (a.e.at_.n == (j : Int)) = false := by simpa using hx
            clear hx h0 b0 h1 b1 h2 b2 h3 b3 h4 b4 h5 b5 h6 b6 h7 b7 HL8
            go_wp2_with (first | ((with_reducible refine gAlloc rfl rfl ?_); (refine ev_allocL rfl hL rfl (by first | exact cells_agg _ rfl | exact cells_int _ _ | exact cells_str _ | exact cells_bool _ | exact cells_slice _ _ _ | exact cells_ptr _ | exact cells_map _ | exact cells_func _ _ _ | exact cells_nilFunc | exact cells_one (by assumption) (by assumption)) ?_; clear hL; intro gq wq hL)) | ((with_reducible refine gBox rfl rfl ?_); (refine ev_boxL rfl hL rfl rfl (by first | exact cells_agg _ rfl | exact cells_int _ _ | exact cells_str _ | exact cells_bool _ | exact cells_slice _ _ _ | exact cells_ptr _ | exact cells_map _ | exact cells_func _ _ _ | exact cells_nilFunc | exact cells_one (by assumption) (by assumption)) ?_; clear hL; intro gq wq hL)) | ((with_reducible refine gLoad rfl rfl ?_); (first | (refine ev_load1L rfl hL rfl rfl HasV.mem (by rfl) ?_) | (refine ev_loadAllL rfl hL rfl rfl HasV.mem (by rfl) ?_) | (refine ev_loadL rfl hL rfl rfl HasV.mem SegC.seg ?_))) | ((with_reducible refine gStore rfl rfl ?_); (first | (refine ev_storeC rfl hL rfl rfl rfl (by first | exact cells_agg _ rfl | exact cells_int _ _ | exact cells_str _ | exact cells_bool _ | exact cells_slice _ _ _ | exact cells_ptr _ | exact cells_map _ | exact cells_func _ _ _ | exact cells_nilFunc | exact cells_one (by assumption) (by assumption)) (by rfl) ?_) | (refine ev_storeAllC rfl hL rfl rfl rfl (by first | exact cells_agg _ rfl | exact cells_int _ _ | exact cells_str _ | exact cells_bool _ | exact cells_slice _ _ _ | exact cells_ptr _ | exact cells_map _ | exact cells_func _ _ _ | exact cells_nilFunc | exact cells_one (by assumption) (by assumption)) (by rfl) (by rfl) ?_)); clear hL; intro wq hL) | ((with_reducible refine gLoadG rfl rfl ?_ ?_); (exact wanted_some rfl rfl rfl (by with_reducible rfl)); (first | (refine ev_load1G (wanted_some rfl rfl rfl rfl) hL rfl rfl HasV.mem (by rfl) ?_) | (refine ev_loadAllG (wanted_some rfl rfl rfl rfl) hL rfl rfl HasV.mem (by rfl) ?_) | (refine ev_loadG_ (wanted_some rfl rfl rfl rfl) hL rfl rfl HasV.mem SegC.seg ?_))))
            go_roundw
            case rel => exact ⟨j + 1, by omega, by go_num, by rw [HS.out]; exact hL.sub (by repeat (first | exact List.nil_sublist _ | with_reducible apply List.Sublist.cons_cons | with_reducible apply List.Sublist.cons))⟩
            case measure => simp [intOf]; omega
        · obtain rfl : j = 8 := by omega
          rw [mx_eight, ← HT2.out] at hL
          rw [show ((8 : Nat) : Int) = (8 : Int) from rfl]
          clear hlj hj
          go_wp2_with (first | ((with_reducible refine gAlloc rfl rfl ?_); (refine ev_allocL rfl hL rfl (by first | exact cells_agg _ rfl | exact cells_int _ _ | exact cells_str _ | exact cells_bool _ | exact cells_slice _ _ _ | exact cells_ptr _ | exact cells_map _ | exact cells_func _ _ _ | exact cells_nilFunc | exact cells_one (by assumption) (by assumption)) ?_; clear hL; intro gq wq hL)) | ((with_reducible refine gBox rfl rfl ?_); (refine ev_boxL rfl hL rfl rfl (by first | exact cells_agg _ rfl | exact cells_int _ _ | exact cells_str _ | exact cells_bool _ | exact cells_slice _ _ _ | exact cells_ptr _ | exact cells_map _ | exact cells_func _ _ _ | exact cells_nilFunc | exact cells_one (by assumption) (by assumption)) ?_; clear hL; intro gq wq hL)) | ((with_reducible refine gLoad rfl rfl ?_); (first | (refine ev_load1L rfl hL rfl rfl HasV.mem (by rfl) ?_) | (refine ev_loadAllL rfl hL rfl rfl HasV.mem (by rfl) ?_) | (refine ev_loadL rfl hL rfl rfl HasV.mem SegC.seg ?_))) | ((with_reducible refine gStore rfl rfl ?_); (first | (refine ev_storeC rfl hL rfl rfl rfl (by first | exact cells_agg _ rfl | exact cells_int _ _ | exact cells_str _ | exact cells_bool _ | exact cells_slice _ _ _ | exact cells_ptr _ | exact cells_map _ | exact cells_func _ _ _ | exact cells_nilFunc | exact cells_one (by assumption) (by assumption)) (by rfl) ?_) | (refine ev_storeAllC rfl hL rfl rfl rfl (by first | exact cells_agg _ rfl | exact cells_int _ _ | exact cells_str _ | exact cells_bool _ | exact cells_slice _ _ _ | exact cells_ptr _ | exact cells_map _ | exact cells_func _ _ _ | exact cells_nilFunc | exact cells_one (by assumption) (by assumption)) (by rfl) (by rfl) ?_)); clear hL; intro wq hL) | ((with_reducible refine gLoadG rfl rfl ?_ ?_); (exact wanted_some rfl rfl rfl (by with_reducible rfl)); (first | (refine ev_load1G (wanted_some rfl rfl rfl rfl) hL rfl rfl HasV.mem (by rfl) ?_) | (refine ev_loadAllG (wanted_some rfl rfl rfl rfl) hL rfl rfl HasV.mem (by rfl) ?_) | (refine ev_loadG_ (wanted_some rfl rfl rfl rfl) hL rfl rfl HasV.mem SegC.seg ?_))))
          go_roundw
          case rel => exact ⟨k + 1, by omega, by go_num, hL.sub (by repeat (first | exact List.nil_sublist _ | with_reducible apply List.Sublist.cons_cons | with_reducible apply List.Sublist.cons))⟩
          case measure => simp [intOf]; omega
    · obtain rfl : k = ps.length := by omega
      rw [List.take_length] at hL
      have hj9 : decide ((ps.length : Int) < (ps.length : Int)) = false := (by first | (simp; done) | (simp; omega))
      clear hel hlt
      generalize hv9 : Value.slice ao ps.length c = v at HR ⊢
      go_upto_region 15 with (first | ((with_reducible refine gAlloc rfl rfl ?_); (refine ev_allocL rfl hL rfl (by first | exact cells_agg _ rfl | exact cells_int _ _ | exact cells_str _ | exact cells_bool _ | exact cells_slice _ _ _ | exact cells_ptr _ | exact cells_map _ | exact cells_func _ _ _ | exact cells_nilFunc | exact cells_one (by assumption) (by assumption)) ?_; clear hL; intro gq wq hL)) | ((with_reducible refine gBox rfl rfl ?_); (refine ev_boxL rfl hL rfl rfl (by first | exact cells_agg _ rfl | exact cells_int _ _ | exact cells_str _ | exact cells_bool _ | exact cells_slice _ _ _ | exact cells_ptr _ | exact cells_map _ | exact cells_func _ _ _ | exact cells_nilFunc | exact cells_one (by assumption) (by assumption)) ?_; clear hL; intro gq wq hL)) | ((with_reducible refine gLoad rfl rfl ?_); (first | (refine ev_load1L rfl hL rfl rfl HasV.mem (by rfl) ?_) | (refine ev_loadAllL rfl hL rfl rfl HasV.mem (by rfl) ?_) | (refine ev_loadL rfl hL rfl rfl HasV.mem SegC.seg ?_))) | ((with_reducible refine gStore rfl rfl ?_); (first | (refine ev_storeC rfl hL rfl rfl rfl (by first | exact cells_agg _ rfl | exact cells_int _ _ | exact cells_str _ | exact cells_bool _ | exact cells_slice _ _ _ | exact cells_ptr _ | exact cells_map _ | exact cells_func _ _ _ | exact cells_nilFunc | exact cells_one (by assumption) (by assumption)) (by rfl) ?_) | (refine ev_storeAllC rfl hL rfl rfl rfl (by first | exact cells_agg _ rfl | exact cells_int _ _ | exact cells_str _ | exact cells_bool _ | exact cells_slice _ _ _ | exact cells_ptr _ | exact cells_map _ | exact cells_func _ _ _ | exact cells_nilFunc | exact cells_one (by assumption) (by assumption)) (by rfl) (by rfl) ?_)); clear hL; intro wq hL) | ((with_reducible refine gLoadG rfl rfl ?_ ?_); (exact wanted_some rfl rfl rfl (by with_reducible rfl)); (first | (refine ev_load1G (wanted_some rfl rfl rfl rfl) hL rfl rfl HasV.mem (by rfl) ?_) | (refine ev_loadAllG (wanted_some rfl rfl rfl rfl) hL rfl rfl HasV.mem (by rfl) ?_) | (refine ev_loadG_ (wanted_some rfl rfl rfl rfl) hL rfl rfl HasV.mem SegC.seg ?_))))
      have sta : ∀ wx, Below w.heap.size w wx → ∀ p ∈ ps, p.e.sta.Ok wx p.d := fun wx hb p hp => ((HO.out p hp).below hb).sta
      have STA := Lib.hid sta
      clear sta hv9 hj9 hk
      refine region_held (fun wx => Box wx g3 ([.int .i64 id.boot, .int .i64 id.n] : List Value).toArray 23) (by kernel_rfl) hL ?_
      clear hL
      intro w8 hL
      refine heldTake (i := 0) (by repeat (first | exact .zero _ _ | with_reducible apply Nth.succ)) (by kernel_rfl) (by kernel_rfl) (by kernel_rfl) (by exact fun _ _ _ h => h) (y_moveG u (by rfl) rfl (by rfl)) (hL.box (by first | exact mm0 | exact mm1 | exact mm2 | exact mm3 | exact mm4 | exact mm5 | exact mm6 | exact mm7 | exact mm8)) ?_
      simp only [Act.put, List.setIfInBounds_toArray, List.set_cons_succ, List.set_cons_zero]
      refine heldTake (i := 2) (by repeat (first | exact .zero _ _ | with_reducible apply Nth.succ)) (by kernel_rfl) (by kernel_rfl) (by kernel_rfl) (by exact fun _ _ _ h => h) (y_moveG v (by rfl) rfl (by rfl)) (hL.box (by first | exact mm0 | exact mm1 | exact mm2 | exact mm3 | exact mm4 | exact mm5 | exact mm6 | exact mm7 | exact mm8)) ?_
      simp only [Act.put, List.setIfInBounds_toArray, List.set_cons_succ, List.set_cons_zero]
      refine heldOne (i := 1) (by kernel_rfl) ?_
      refine heldCall (Nth.get (by repeat (first | exact .zero _ _ | with_reducible apply Nth.succ))) (by rfl) (enter1 Tryd.func11 (by kernel_rfl) (by kernel_rfl) rfl (by rfl)) (story_Order u ps _ (hL.own (E := encEp) (v := u) (xs := ps) (base := w.heap.size) (e := 31) (by first | exact mm0 | exact mm1 | exact mm2 | exact mm3 | exact mm4 | exact mm5 | exact mm6 | exact mm7 | exact mm8)).read (by omega)) ?_
      rintro en w9 ⟨u1, L, rfl, hof, hL9⟩
      replace hL := hL.takeRow hL9
      clear hL9
      obtain ⟨f1, f2, -⟩ := order_facts hof
      have hF := Lib.hid (Stab.firsts_coll Ep.ord hof)
      have F1 := Lib.hid f1
      clear hof f1
      generalize Stab.coll Ep.lt L = X at *
      refine ⟨_, rfl, hL.box (by first | exact mm0 | exact mm1 | exact mm2 | exact mm3 | exact mm4 | exact mm5 | exact mm6 | exact mm7 | exact mm8), ?_⟩
      simp only [Act.put, List.setIfInBounds_toArray, List.set_cons_succ, List.set_cons_zero]
      refine heldOne (i := 3) (by kernel_rfl) ?_
      refine heldCall (Nth.get (by repeat (first | exact .zero _ _ | with_reducible apply Nth.succ))) (by rfl) (enter1 Tryd.func15 (by kernel_rfl) (by kernel_rfl) rfl (by rfl)) (ref29_order v ps _ (HR.out.below hL.below) (by omega)) ?_
      rintro en w10 ⟨u2, L2, rfl, hF2, -, hL10⟩
      obtain rfl : L2 = X := Stab.Firsts.uniq Ep.ord hF2 hF.out
      replace hL := hL.takeRow hL10
      clear hL10 hF2
      refine ⟨_, rfl, hL.box (by first | exact mm0 | exact mm1 | exact mm2 | exact mm3 | exact mm4 | exact mm5 | exact mm6 | exact mm7 | exact mm8), ?_⟩
      simp only [Act.put, List.setIfInBounds_toArray, List.set_cons_succ, List.set_cons_zero]
      refine heldOne (i := 4) (by kernel_rfl) ?_
      refine heldCall (Nth.get (by repeat (first | exact .zero _ _ | with_reducible apply Nth.succ))) (by rfl) (enter2 Tryd.func12 (by kernel_rfl) (by kernel_rfl) rfl (by rfl) (by rfl)) (same_events u1 u2 L2 _ (hL.own (E := encEp) (v := u1) (xs := L2) (base := w.heap.size) (e := 31) (by first | exact mm0 | exact mm1 | exact mm2 | exact mm3 | exact mm4 | exact mm5 | exact mm6 | exact mm7 | exact mm8)).read (hL.own (E := encEp) (v := u2) (xs := L2) (base := w.heap.size) (e := 31) (by first | exact mm0 | exact mm1 | exact mm2 | exact mm3 | exact mm4 | exact mm5 | exact mm6 | exact mm7 | exact mm8)).read (fun p hp => STA.out _ hL.below p (F1.out p hp))) ?_
      rintro en w11 ⟨rfl, hb11⟩
      replace hL := hL.call hb11
      clear hb11
      refine ⟨_, rfl, hL.box (by first | exact mm0 | exact mm1 | exact mm2 | exact mm3 | exact mm4 | exact mm5 | exact mm6 | exact mm7 | exact mm8), ?_⟩
      simp only [Act.put, List.setIfInBounds_toArray, List.set_cons_succ, List.set_cons_zero]
      refine heldOne (i := 5) (by kernel_rfl) ?_
      refine wpOp_runW (v := .bool true) (Nth.get (by repeat (first | exact .zero _ _ | with_reducible apply Nth.succ))) (by rfl) (by rfl) ?_
      refine ⟨hL.box (by first | exact mm0 | exact mm1 | exact mm2 | exact mm3 | exact mm4 | exact mm5 | exact mm6 | exact mm7 | exact mm8), ?_⟩
      simp only [Act.put, List.setIfInBounds_toArray, List.set_cons_succ, List.set_cons_zero]
      refine heldTake (i := 6) (by repeat (first | exact .zero _ _ | with_reducible apply Nth.succ)) (by kernel_rfl) (by kernel_rfl) (by kernel_rfl) (by exact fun _ _ _ h => h) (y_moveG u (by rfl) rfl (by rfl)) (hL.box (by first | exact mm0 | exact mm1 | exact mm2 | exact mm3 | exact mm4 | exact mm5 | exact mm6 | exact mm7 | exact mm8)) ?_
      simp only [Act.put, List.setIfInBounds_toArray, List.set_cons_succ, List.set_cons_zero]
      refine heldTake (i := 7) (by repeat (first | exact .zero _ _ | with_reducible apply Nth.succ)) (by kernel_rfl) (by kernel_rfl) (by kernel_rfl) (by exact fun _ _ _ h => h) (y_loadG (ty := 23) (n := 2) (g := g3) (cs := [.int .i64 id.boot, .int .i64 id.n]) (by infer_instance) (by infer_instance) (fun _ h => h) (by rfl) rfl (by rfl) (by rfl)) (hL.box (by first | exact mm0 | exact mm1 | exact mm2 | exact mm3 | exact mm4 | exact mm5 | exact mm6 | exact mm7 | exact mm8)) ?_
      simp only [Act.put, List.setIfInBounds_toArray, List.set_cons_succ, List.set_cons_zero]
      refine heldTake (i := 9) (by repeat (first | exact .zero _ _ | with_reducible apply Nth.succ)) (by kernel_rfl) (by kernel_rfl) (by kernel_rfl) (by exact fun _ _ _ h => h) (y_moveG v (by rfl) rfl (by rfl)) (hL.box (by first | exact mm0 | exact mm1 | exact mm2 | exact mm3 | exact mm4 | exact mm5 | exact mm6 | exact mm7 | exact mm8)) ?_
      simp only [Act.put, List.setIfInBounds_toArray, List.set_cons_succ, List.set_cons_zero]
      refine heldTake (i := 10) (by repeat (first | exact .zero _ _ | with_reducible apply Nth.succ)) (by kernel_rfl) (by kernel_rfl) (by kernel_rfl) (by exact fun _ _ _ h => h) (y_loadG (ty := 23) (n := 2) (g := g3) (cs := [.int .i64 id.boot, .int .i64 id.n]) (by infer_instance) (by infer_instance) (fun _ h => h) (by rfl) rfl (by rfl) (by rfl)) (hL.box (by first | exact mm0 | exact mm1 | exact mm2 | exact mm3 | exact mm4 | exact mm5 | exact mm6 | exact mm7 | exact mm8)) ?_
      simp only [Act.put, List.setIfInBounds_toArray, List.set_cons_succ, List.set_cons_zero]
      refine heldOne (i := 8) (by kernel_rfl) ?_
      refine heldCall (Nth.get (by repeat (first | exact .zero _ _ | with_reducible apply Nth.succ))) (by rfl) (enter2 Tryd.func16 (by kernel_rfl) (by kernel_rfl) rfl (by rfl) (by rfl)) (story_about u ps id B _ (hL.own (E := encEp) (v := u) (xs := ps) (base := w.heap.size) (e := 31) (by first | exact mm0 | exact mm1 | exact mm2 | exact mm3 | exact mm4 | exact mm5 | exact mm6 | exact mm7 | exact mm8)).read (fun p hp => (HO.out p hp).below hL.below) (by omega)) ?_
      rintro en w12 ⟨u4, rfl, hL12⟩
      replace hL := hL.takeRow hL12
      clear hL12
      refine ⟨_, rfl, hL.box (by first | exact mm0 | exact mm1 | exact mm2 | exact mm3 | exact mm4 | exact mm5 | exact mm6 | exact mm7 | exact mm8), ?_⟩
      simp only [Act.put, List.setIfInBounds_toArray, List.set_cons_succ, List.set_cons_zero]
      refine heldOne (i := 11) (by kernel_rfl) ?_
      refine heldCall (Nth.get (by repeat (first | exact .zero _ _ | with_reducible apply Nth.succ))) (by rfl) (enter2 Tryd.func17 (by kernel_rfl) (by kernel_rfl) rfl (by rfl) (by rfl)) (ref29_about v ps id B _ (HR.out.below hL.below) (fun p hp => (HO.out p hp).below hL.below) (by omega)) ?_
      rintro en w13 ⟨u5, rfl, hL13⟩
      replace hL := hL.takeRow hL13
      clear hL13
      refine ⟨_, rfl, hL.box (by first | exact mm0 | exact mm1 | exact mm2 | exact mm3 | exact mm4 | exact mm5 | exact mm6 | exact mm7 | exact mm8), ?_⟩
      simp only [Act.put, List.setIfInBounds_toArray, List.set_cons_succ, List.set_cons_zero]
      refine heldOne (i := 12) (by kernel_rfl) ?_
      refine heldCall (Nth.get (by repeat (first | exact .zero _ _ | with_reducible apply Nth.succ))) (by rfl) (enter2 Tryd.func12 (by kernel_rfl) (by kernel_rfl) rfl (by rfl) (by rfl)) (same_events u4 u5 (ps.filter fun p => p.d.about id) _ (hL.own (E := encEp) (v := u4) (xs := (ps.filter fun p => p.d.about id)) (base := w.heap.size) (e := 31) (by first | exact mm0 | exact mm1 | exact mm2 | exact mm3 | exact mm4 | exact mm5 | exact mm6 | exact mm7 | exact mm8)).read (hL.own (E := encEp) (v := u5) (xs := (ps.filter fun p => p.d.about id)) (base := w.heap.size) (e := 31) (by first | exact mm0 | exact mm1 | exact mm2 | exact mm3 | exact mm4 | exact mm5 | exact mm6 | exact mm7 | exact mm8)).read (fun p hp => STA.out _ hL.below p ((List.mem_filter.1 hp).1))) ?_
      rintro en w14 ⟨rfl, hb14⟩
      replace hL := hL.call hb14
      clear hb14
      refine ⟨_, rfl, hL.box (by first | exact mm0 | exact mm1 | exact mm2 | exact mm3 | exact mm4 | exact mm5 | exact mm6 | exact mm7 | exact mm8), ?_⟩
      simp only [Act.put, List.setIfInBounds_toArray, List.set_cons_succ, List.set_cons_zero]
      refine heldOne (i := 13) (by kernel_rfl) ?_
      refine wpOp_runW (v := .bool true) (Nth.get (by repeat (first | exact .zero _ _ | with_reducible apply Nth.succ))) (by rfl) (by rfl) ?_
      refine ⟨hL.box (by first | exact mm0 | exact mm1 | exact mm2 | exact mm3 | exact mm4 | exact mm5 | exact mm6 | exact mm7 | exact mm8), ?_⟩
      simp only [Act.put, List.setIfInBounds_toArray, List.set_cons_succ, List.set_cons_zero]
      refine heldOne (i := 14) (by kernel_rfl) ?_
      refine wpOp_runW (v := .bool true) (Nth.get (by repeat (first | exact .zero _ _ | with_reducible apply Nth.succ))) (by rfl) (by rfl) ?_
      refine ⟨hL.box (by first | exact mm0 | exact mm1 | exact mm2 | exact mm3 | exact mm4 | exact mm5 | exact mm6 | exact mm7 | exact mm8), ?_⟩
      simp only [Act.put, List.setIfInBounds_toArray, List.set_cons_succ, List.set_cons_zero]
      refine wpAnyH_done (by kernel_rfl) ?_ _
      replace hL := hL.sub (l' := [var g6 (C8 (cn ps)) 24, row encEp w.heap.size 31 u ps]) (by repeat (first | exact List.nil_sublist _ | with_reducible apply List.Sublist.cons_cons | with_reducible apply List.Sublist.cons))
      go_upto_region 16 with fail
      refine region_held (fun wx => Box wx g6 (C8 (cn ps)).toArray 24) (by kernel_rfl) hL ?_
      clear hL
      intro w15 hL
      refine heldOne (i := 0) (by kernel_rfl) ?_
      refine wpOp_runW (v := .bool true) (Nth.get (by repeat (first | exact .zero _ _ | with_reducible apply Nth.succ))) (by rfl) (by rfl) ?_
      refine ⟨hL.box (by first | exact mm0 | exact mm1 | exact mm2 | exact mm3 | exact mm4 | exact mm5 | exact mm6 | exact mm7 | exact mm8), ?_⟩
      simp only [Act.put, List.setIfInBounds_toArray, List.set_cons_succ, List.set_cons_zero]
      refine heldOne (i := 1) (by kernel_rfl) ?_
      refine wpOp_runW (v := .bool true) (Nth.get (by repeat (first | exact .zero _ _ | with_reducible apply Nth.succ))) (by rfl) (by rfl) ?_
      refine ⟨hL.box (by first | exact mm0 | exact mm1 | exact mm2 | exact mm3 | exact mm4 | exact mm5 | exact mm6 | exact mm7 | exact mm8), ?_⟩
      simp only [Act.put, List.setIfInBounds_toArray, List.set_cons_succ, List.set_cons_zero]
      refine heldTake (i := 2) (by repeat (first | exact .zero _ _ | with_reducible apply Nth.succ)) (by kernel_rfl) (by kernel_rfl) (by kernel_rfl) (by exact fun _ _ _ h => h) (y_moveG u (by rfl) rfl (by rfl)) (hL.box (by first | exact mm0 | exact mm1 | exact mm2 | exact mm3 | exact mm4 | exact mm5 | exact mm6 | exact mm7 | exact mm8)) ?_
      simp only [Act.put, List.setIfInBounds_toArray, List.set_cons_succ, List.set_cons_zero]
      refine heldTake (i := 4) (by repeat (first | exact .zero _ _ | with_reducible apply Nth.succ)) (by kernel_rfl) (by kernel_rfl) (by kernel_rfl) (by exact fun _ _ _ h => h) (y_moveG v (by rfl) rfl (by rfl)) (hL.box (by first | exact mm0 | exact mm1 | exact mm2 | exact mm3 | exact mm4 | exact mm5 | exact mm6 | exact mm7 | exact mm8)) ?_
      simp only [Act.put, List.setIfInBounds_toArray, List.set_cons_succ, List.set_cons_zero]
      refine heldOne (i := 3) (by kernel_rfl) ?_
      refine heldCall (Nth.get (by repeat (first | exact .zero _ _ | with_reducible apply Nth.succ))) (by rfl) (enter1 Tryd.func19 (by kernel_rfl) (by kernel_rfl) rfl (by rfl)) (story_apart u ps _ (hL.own (E := encEp) (v := u) (xs := ps) (base := w.heap.size) (e := 31) (by first | exact mm0 | exact mm1 | exact mm2 | exact mm3 | exact mm4 | exact mm5 | exact mm6 | exact mm7 | exact mm8)).read (by omega)) ?_
      rintro en w16 ⟨u6, rfl, hL16⟩
      replace hL := hL.takeRow hL16
      clear hL16
      refine ⟨_, rfl, hL.box (by first | exact mm0 | exact mm1 | exact mm2 | exact mm3 | exact mm4 | exact mm5 | exact mm6 | exact mm7 | exact mm8), ?_⟩
      simp only [Act.put, List.setIfInBounds_toArray, List.set_cons_succ, List.set_cons_zero]
      refine heldOne (i := 5) (by kernel_rfl) ?_
      refine heldCall (Nth.get (by repeat (first | exact .zero _ _ | with_reducible apply Nth.succ))) (by rfl) (enter1 Tryd.func20 (by kernel_rfl) (by kernel_rfl) rfl (by rfl)) (ref29_apart v ps _ (HR.out.below hL.below) (by omega)) ?_
      rintro en w17 ⟨u7, rfl, hL17⟩
      replace hL := hL.takeRow hL17
      clear hL17
      refine ⟨_, rfl, hL.box (by first | exact mm0 | exact mm1 | exact mm2 | exact mm3 | exact mm4 | exact mm5 | exact mm6 | exact mm7 | exact mm8), ?_⟩
      simp only [Act.put, List.setIfInBounds_toArray, List.set_cons_succ, List.set_cons_zero]
      refine heldOne (i := 6) (by kernel_rfl) ?_
      refine heldCall (Nth.get (by repeat (first | exact .zero _ _ | with_reducible apply Nth.succ))) (by rfl) (enter2 Tryd.func18 (by kernel_rfl) (by kernel_rfl) rfl (by rfl) (by rfl)) (pairs_eq u6 u7 (aplist ps ps.length) _ (hL.own (E := encPr) (v := u6) (xs := (aplist ps ps.length)) (base := w.heap.size) (e := 47) (by first | exact mm0 | exact mm1 | exact mm2 | exact mm3 | exact mm4 | exact mm5 | exact mm6 | exact mm7 | exact mm8)).read (hL.own (E := encPr) (v := u7) (xs := (aplist ps ps.length)) (base := w.heap.size) (e := 47) (by first | exact mm0 | exact mm1 | exact mm2 | exact mm3 | exact mm4 | exact mm5 | exact mm6 | exact mm7 | exact mm8)).read) ?_
      rintro en w18 ⟨rfl, hb18⟩
      replace hL := hL.call hb18
      clear hb18
      refine ⟨_, rfl, hL.box (by first | exact mm0 | exact mm1 | exact mm2 | exact mm3 | exact mm4 | exact mm5 | exact mm6 | exact mm7 | exact mm8), ?_⟩
      simp only [Act.put, List.setIfInBounds_toArray, List.set_cons_succ, List.set_cons_zero]
      refine heldOne (i := 7) (by kernel_rfl) ?_
      refine wpOp_runW (v := .bool true) (Nth.get (by repeat (first | exact .zero _ _ | with_reducible apply Nth.succ))) (by rfl) (by rfl) ?_
      refine ⟨hL.box (by first | exact mm0 | exact mm1 | exact mm2 | exact mm3 | exact mm4 | exact mm5 | exact mm6 | exact mm7 | exact mm8), ?_⟩
      simp only [Act.put, List.setIfInBounds_toArray, List.set_cons_succ, List.set_cons_zero]
      refine heldOne (i := 8) (by kernel_rfl) ?_
      refine wpOp_runW (v := .bool true) (Nth.get (by repeat (first | exact .zero _ _ | with_reducible apply Nth.succ))) (by rfl) (by rfl) ?_
      refine ⟨hL.box (by first | exact mm0 | exact mm1 | exact mm2 | exact mm3 | exact mm4 | exact mm5 | exact mm6 | exact mm7 | exact mm8), ?_⟩
      simp only [Act.put, List.setIfInBounds_toArray, List.set_cons_succ, List.set_cons_zero]
      refine heldTake (i := 9) (by repeat (first | exact .zero _ _ | with_reducible apply Nth.succ)) (by kernel_rfl) (by kernel_rfl) (by kernel_rfl) (by exact fun _ _ _ h => h) (y_moveG u (by rfl) rfl (by rfl)) (hL.box (by first | exact mm0 | exact mm1 | exact mm2 | exact mm3 | exact mm4 | exact mm5 | exact mm6 | exact mm7 | exact mm8)) ?_
      simp only [Act.put, List.setIfInBounds_toArray, List.set_cons_succ, List.set_cons_zero]
      refine heldTake (i := 11) (by repeat (first | exact .zero _ _ | with_reducible apply Nth.succ)) (by kernel_rfl) (by kernel_rfl) (by kernel_rfl) (by exact fun _ _ _ h => h) (y_loadG (ty := 24) (n := 8) (g := g6) (cs := C8 (cn ps)) (by infer_instance) (by infer_instance) (fun _ h => h) (by rfl) rfl (by rfl) (by rfl)) (hL.box (by first | exact mm0 | exact mm1 | exact mm2 | exact mm3 | exact mm4 | exact mm5 | exact mm6 | exact mm7 | exact mm8)) ?_
      simp only [Act.put, List.setIfInBounds_toArray, List.set_cons_succ, List.set_cons_zero]
      refine heldOne (i := 10) (by kernel_rfl) ?_
      refine heldCall (Nth.get (by repeat (first | exact .zero _ _ | with_reducible apply Nth.succ))) (by rfl) (enter1 Tryd.func21 (by kernel_rfl) (by kernel_rfl) rfl (by rfl)) (story_counts u ps _ (hL.own (E := encEp) (v := u) (xs := ps) (base := w.heap.size) (e := 31) (by first | exact mm0 | exact mm1 | exact mm2 | exact mm3 | exact mm4 | exact mm5 | exact mm6 | exact mm7 | exact mm8)).read (by omega)) ?_
      rintro en w19 ⟨rfl, hb19⟩
      replace hL := hL.call hb19
      clear hb19
      refine ⟨_, rfl, hL.box (by first | exact mm0 | exact mm1 | exact mm2 | exact mm3 | exact mm4 | exact mm5 | exact mm6 | exact mm7 | exact mm8), ?_⟩
      simp only [Act.put, List.setIfInBounds_toArray, List.set_cons_succ, List.set_cons_zero]
      refine heldOne (i := 12) (by kernel_rfl) ?_
      refine wpOp_runW (v := .bool true) (Nth.get (by repeat (first | exact .zero _ _ | with_reducible apply Nth.succ))) (by rfl) (by have hc := counts_eq (cn ps); simp [execOp, hc, Act.eval, run_eqGuard_agg _ _ _ _ _ _ _ Tryd.eqGuardType24]; rfl) ?_
      refine ⟨hL.box (by first | exact mm0 | exact mm1 | exact mm2 | exact mm3 | exact mm4 | exact mm5 | exact mm6 | exact mm7 | exact mm8), ?_⟩
      simp only [Act.put, List.setIfInBounds_toArray, List.set_cons_succ, List.set_cons_zero]
      refine heldOne (i := 13) (by kernel_rfl) ?_
      refine wpOp_runW (v := .bool true) (Nth.get (by repeat (first | exact .zero _ _ | with_reducible apply Nth.succ))) (by rfl) (by rfl) ?_
      refine ⟨hL.box (by first | exact mm0 | exact mm1 | exact mm2 | exact mm3 | exact mm4 | exact mm5 | exact mm6 | exact mm7 | exact mm8), ?_⟩
      simp only [Act.put, List.setIfInBounds_toArray, List.set_cons_succ, List.set_cons_zero]
      refine heldOne (i := 14) (by kernel_rfl) ?_
      refine wpOp_runW (v := .bool true) (Nth.get (by repeat (first | exact .zero _ _ | with_reducible apply Nth.succ))) (by rfl) (by rfl) ?_
      refine ⟨hL.box (by first | exact mm0 | exact mm1 | exact mm2 | exact mm3 | exact mm4 | exact mm5 | exact mm6 | exact mm7 | exact mm8), ?_⟩
      simp only [Act.put, List.setIfInBounds_toArray, List.set_cons_succ, List.set_cons_zero]
      refine heldTake (i := 15) (by repeat (first | exact .zero _ _ | with_reducible apply Nth.succ)) (by kernel_rfl) (by kernel_rfl) (by kernel_rfl) (by exact fun _ _ _ h => h) (y_moveG u (by rfl) rfl (by rfl)) (hL.box (by first | exact mm0 | exact mm1 | exact mm2 | exact mm3 | exact mm4 | exact mm5 | exact mm6 | exact mm7 | exact mm8)) ?_
      simp only [Act.put, List.setIfInBounds_toArray, List.set_cons_succ, List.set_cons_zero]
      refine heldTake (i := 16) (by repeat (first | exact .zero _ _ | with_reducible apply Nth.succ)) (by kernel_rfl) (by kernel_rfl) (by kernel_rfl) (by exact fun _ _ _ h => h) (y_moveG v (by rfl) rfl (by rfl)) (hL.box (by first | exact mm0 | exact mm1 | exact mm2 | exact mm3 | exact mm4 | exact mm5 | exact mm6 | exact mm7 | exact mm8)) ?_
      simp only [Act.put, List.setIfInBounds_toArray, List.set_cons_succ, List.set_cons_zero]
      refine heldOne (i := 17) (by kernel_rfl) ?_
      refine heldCall (Nth.get (by repeat (first | exact .zero _ _ | with_reducible apply Nth.succ))) (by rfl) (enter2 Tryd.func12 (by kernel_rfl) (by kernel_rfl) rfl (by rfl) (by rfl)) (same_events u v ps _ (hL.own (E := encEp) (v := u) (xs := ps) (base := w.heap.size) (e := 31) (by first | exact mm0 | exact mm1 | exact mm2 | exact mm3 | exact mm4 | exact mm5 | exact mm6 | exact mm7 | exact mm8)).read (HR.out.below hL.below) (fun p hp => STA.out _ hL.below p hp)) ?_
      rintro en w20 ⟨rfl, hb20⟩
      replace hL := hL.call hb20
      clear hb20
      refine ⟨_, rfl, hL.box (by first | exact mm0 | exact mm1 | exact mm2 | exact mm3 | exact mm4 | exact mm5 | exact mm6 | exact mm7 | exact mm8), ?_⟩
      simp only [Act.put, List.setIfInBounds_toArray, List.set_cons_succ, List.set_cons_zero]
      refine heldOne (i := 18) (by kernel_rfl) ?_
      refine wpOp_runW (v := .bool true) (Nth.get (by repeat (first | exact .zero _ _ | with_reducible apply Nth.succ))) (by rfl) (by rfl) ?_
      refine ⟨hL.box (by first | exact mm0 | exact mm1 | exact mm2 | exact mm3 | exact mm4 | exact mm5 | exact mm6 | exact mm7 | exact mm8), ?_⟩
      simp only [Act.put, List.setIfInBounds_toArray, List.set_cons_succ, List.set_cons_zero]
      refine heldOne (i := 19) (by kernel_rfl) ?_
      refine wpOp_runW (v := .bool true) (Nth.get (by repeat (first | exact .zero _ _ | with_reducible apply Nth.succ))) (by rfl) (by rfl) ?_
      refine ⟨hL.box (by first | exact mm0 | exact mm1 | exact mm2 | exact mm3 | exact mm4 | exact mm5 | exact mm6 | exact mm7 | exact mm8), ?_⟩
      simp only [Act.put, List.setIfInBounds_toArray, List.set_cons_succ, List.set_cons_zero]
      refine heldOne (i := 20) (by kernel_rfl) ?_
      refine heldCall (Nth.get (by repeat (first | exact .zero _ _ | with_reducible apply Nth.succ))) (by rfl) (enter0 Tryd.func10 (by kernel_rfl) (by kernel_rfl) rfl) (awake29 _ (ht.below hL.below)) ?_
      rintro en w21 ⟨rfl, hb21⟩
      replace hL := hL.call hb21
      clear hb21
      refine ⟨_, rfl, hL.box (by first | exact mm0 | exact mm1 | exact mm2 | exact mm3 | exact mm4 | exact mm5 | exact mm6 | exact mm7 | exact mm8), ?_⟩
      simp only [Act.put, List.setIfInBounds_toArray, List.set_cons_succ, List.set_cons_zero]
      refine heldOne (i := 21) (by kernel_rfl) ?_
      refine wpOp_runW (v := .bool true) (Nth.get (by repeat (first | exact .zero _ _ | with_reducible apply Nth.succ))) (by rfl) (by rfl) ?_
      refine ⟨hL.box (by first | exact mm0 | exact mm1 | exact mm2 | exact mm3 | exact mm4 | exact mm5 | exact mm6 | exact mm7 | exact mm8), ?_⟩
      simp only [Act.put, List.setIfInBounds_toArray, List.set_cons_succ, List.set_cons_zero]
      refine heldOne (i := 22) (by kernel_rfl) ?_
      refine wpOp_runW (v := .bool true) (Nth.get (by repeat (first | exact .zero _ _ | with_reducible apply Nth.succ))) (by rfl) (by rfl) ?_
      refine ⟨hL.box (by first | exact mm0 | exact mm1 | exact mm2 | exact mm3 | exact mm4 | exact mm5 | exact mm6 | exact mm7 | exact mm8), ?_⟩
      simp only [Act.put, List.setIfInBounds_toArray, List.set_cons_succ, List.set_cons_zero]
      refine wpAnyH_done (by kernel_rfl) ?_ _
      go_wp2_with fail
      go_ret
      exact ⟨rfl, hL.below⟩
theorem law_listsP (v : Value) (ps : List Ep) (id : Mk) (w : World) (h : encEp.R w v ps) (hO : ∀ p ∈ ps, p.Ok w maxLen) (hid : id.I) (ht : Tb w) :
    Calls Tryd.prog 5 #[v, id.val] w fun e w' => e = .returned (.bool true) ∧ Below w.heap.size w w' := law_lists v ps id maxLen w h hO ht
end Go.Proofs.YtebpacmhdkgfeaaDoor
