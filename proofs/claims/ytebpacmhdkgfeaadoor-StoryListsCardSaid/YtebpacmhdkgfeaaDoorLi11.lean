/- Texts laid together: Ord29b, Abo29. -/
import Derived.Test.YtebpacmhdkgfeaaDoorLi10
/- Chapter 29: the document's Order, walked. -/
namespace Go.Proofs.YtebpacmhdkgfeaaDoor
open Go.RowKit
set_option maxHeartbeats 4000000

theorem stamp_eql (a b : Mk) {r : Bool} (h : decide (a = b) = r) : ∀ w, (binOp .eql 23 a.val b.val).run Tryd.prog w = .ok (.bool r) w := fun w => by
  rw [stamp_eq, h]
set_option maxRecDepth 100000 in
theorem ref29_order (v : Value) (ps : List Ep) (w : World) (h : encEp.R w v ps) (hn : ps.length ≤ 1000) :
    Calls Tryd.prog 15 #[v] w fun e w' => ∃ u L, e = .returned u ∧ Stab.Firsts Ep.lt ps L ∧ L.length ≤ ps.length ∧ Loc w NoM w' [row encEp w.heap.size 31 u L] := by
  have hL := (Loc.nil w NoM).rowOff encEp w.heap.size 31
  obtain ⟨ao, c, rfl, hel⟩ := R_elem h
  clear h
  go_enter Tryd.func15, Tryd.ntmps15
  go_wp2_with (first | ((with_reducible refine gAlloc rfl rfl ?_); (refine ev_allocL rfl hL rfl (by first | exact CellsC.of | exact cells_one (by assumption) (by assumption) | exact cells_agg _ rfl) ?_; clear hL; intro gq wq hL)) | ((with_reducible refine gBox rfl rfl ?_); (refine ev_boxL rfl hL rfl rfl (by first | exact CellsC.of | exact cells_one (by assumption) (by assumption) | exact cells_agg _ rfl) ?_; clear hL; intro gq wq hL)) | ((with_reducible refine gLoad rfl rfl ?_); (first | (refine ev_load1L rfl hL rfl rfl HasV.mem (by rfl) ?_) | (refine ev_loadAllL rfl hL rfl rfl HasV.mem (by rfl) ?_) | (refine ev_loadL rfl hL rfl rfl HasV.mem SegC.seg ?_))) | ((with_reducible refine gStore rfl rfl ?_); (first | (refine ev_storeC rfl hL rfl rfl rfl (by first | exact CellsC.of | exact cells_one (by assumption) (by assumption) | exact cells_agg _ rfl) (by rfl) ?_) | (refine ev_storeAllC rfl hL rfl rfl rfl (by first | exact CellsC.of | exact cells_one (by assumption) (by assumption) | exact cells_agg _ rfl) (by rfl) (by rfl) ?_)); clear hL; intro wq hL) | ((with_reducible refine gLoadG rfl rfl ?_ ?_); (exact wanted_some rfl rfl rfl (by with_reducible rfl)); (first | (refine ev_load1G (wanted_some rfl rfl rfl rfl) hL rfl rfl HasV.mem (by rfl) ?_) | (refine ev_loadAllG (wanted_some rfl rfl rfl rfl) hL rfl rfl HasV.mem (by rfl) ?_) | (refine ev_loadG_ (wanted_some rfl rfl rfl rfl) hL rfl rfl HasV.mem SegC.seg ?_))))
  go_loopw [3, 13] (fun s i wr => ∃ (k : Nat) (L : List Ep) (vs : Value), k ≤ ps.length ∧ i = .int .i64 k ∧ s = vs ∧ Hid (Stab.Firsts Ep.lt (ps.take k) L) ∧ L.length ≤ k ∧ Loc w NoM wr [row encEp w.heap.size 31 vs L]) (fun _ i _ => ps.length - (intOf i).toNat)
  case atStart => exact ⟨0, [], _, by omega, rfl, rfl, Lib.hid (by simpa using Stab.Firsts.nil), by simp, hL⟩
  case round =>
    clear hL
    obtain ⟨k, L, vs, hk, rfl, rfl, hF, hLk, hL⟩ := hrel
    by_cases hlt : k < ps.length
    · obtain ⟨g, off, rfl, hr⟩ := hel k hlt
      have hrW : World.rangeAt _ g (off + k * 21) (Evt.cells ps[k].e) := range_below hr hL.below
      clear hr
      have HT := Lib.hid (List.take_append_getElem hlt).symm
      obtain ⟨e, he⟩ : ∃ e, e = ps[k] := ⟨_, rfl⟩
      rw [← he] at HT hrW
      clear he
      have hS := Lib.hid hF.out.strict
      obtain ⟨ao2, c2, rfl, hel2⟩ := R_elem (hL.own (E := encEp) (.head _)).read
      clear hel2
      unfold Evt.cells at hrW
      go_wp2_with (first | ((with_reducible refine gIndex rfl rfl ?_); refine ev_indexL rfl rfl rfl rfl hlt ?_) | ((with_reducible refine gate (N := 16) rfl ?_); refine ev_loadR rfl rfl rfl hrW (by rfl) ?_) | ((with_reducible refine gate (N := 5) rfl ?_); (refine ev_allocL rfl hL rfl (by first | exact CellsC.of | exact cells_one (by assumption) (by assumption) | exact cells_agg _ rfl) ?_; clear hL; intro g5 w5 hL)) | ((with_reducible refine gAlloc rfl rfl ?_); (refine ev_allocL rfl hL rfl (by first | exact CellsC.of | exact cells_one (by assumption) (by assumption) | exact cells_agg _ rfl) ?_; clear hL; intro gq wq hL)) | ((with_reducible refine gBox rfl rfl ?_); (refine ev_boxL rfl hL rfl rfl (by first | exact CellsC.of | exact cells_one (by assumption) (by assumption) | exact cells_agg _ rfl) ?_; clear hL; intro gq wq hL)) | ((with_reducible refine gLoad rfl rfl ?_); (first | (refine ev_load1L rfl hL rfl rfl HasV.mem (by rfl) ?_) | (refine ev_loadAllL rfl hL rfl rfl HasV.mem (by rfl) ?_) | (refine ev_loadL rfl hL rfl rfl HasV.mem SegC.seg ?_))) | ((with_reducible refine gStore rfl rfl ?_); (first | (refine ev_storeC rfl hL rfl rfl rfl (by first | exact CellsC.of | exact cells_one (by assumption) (by assumption) | exact cells_agg _ rfl) (by rfl) ?_) | (refine ev_storeAllC rfl hL rfl rfl rfl (by first | exact CellsC.of | exact cells_one (by assumption) (by assumption) | exact cells_agg _ rfl) (by rfl) (by rfl) ?_)); clear hL; intro wq hL) | ((with_reducible refine gLoadG rfl rfl ?_ ?_); (exact wanted_some rfl rfl rfl (by with_reducible rfl)); (first | (refine ev_load1G (wanted_some rfl rfl rfl rfl) hL rfl rfl HasV.mem (by rfl) ?_) | (refine ev_loadAllG (wanted_some rfl rfl rfl rfl) hL rfl rfl HasV.mem (by rfl) ?_) | (refine ev_loadG_ (wanted_some rfl rfl rfl rfl) hL rfl rfl HasV.mem SegC.seg ?_))))
      go_loopw [6, 7, 19] (fun a b i wr => ∃ (j at_ : Nat) (again : Bool), j ≤ L.length ∧ a = .int .i64 at_ ∧ b = .bool again ∧ i = .int .i64 j ∧ Hid (Place L e j at_ again) ∧ Loc w NoM wr [var g5 (Evt.cells e.e) 31, row encEp w.heap.size 31 (.slice ao2 L.length c2) L]) (fun _ _ i _ => L.length - (intOf i).toNat)
      case atStart => exact ⟨0, 0, false, by omega, rfl, rfl, rfl, Lib.hid (Place.start L e), hL⟩
      case round =>
        clear hL
        obtain ⟨j, at_, again, hj, rfl, rfl, rfl, hP, hL⟩ := hrel
        by_cases hlj : j < L.length
        · clear hrW
          have hel2 := R_elem (hL.own (E := encEp) (.tail _ (.head _))).read
          obtain ⟨ao3, c3, h3, hel2⟩ := hel2
          injection h3 with h31 h32 h33
          subst h31 h33
          clear h32
          obtain ⟨g3, off3, rfl, hrX⟩ := hel2 j hlj
          clear hel2
          replace hrX : World.rangeAt _ g3 (off3 + j * 21) (Evt.cells L[j].e) := hrX
          obtain ⟨x, hx⟩ : ∃ x, x = L[j] := ⟨_, rfl⟩
          have hP2 := Lib.hid (hP.out.step hS.out (x := x) (by rw [hx]; exact List.getElem?_eq_getElem hlj))
          rw [← hx] at hrX
          clear hx hP
          rw [lt_parts, eqv_parts] at hP2
          unfold Evt.cells at hrX hL
          obtain ⟨r1, h1⟩ : ∃ r, decide (x.e.at_ = e.e.at_) = r := ⟨_, rfl⟩
          obtain ⟨r2, h2⟩ : ∃ r, x.e.at_.less e.e.at_ = r := ⟨_, rfl⟩
          obtain ⟨r3, h3⟩ : ∃ r, (x.e.vol == e.e.vol) = r := ⟨_, rfl⟩
          obtain ⟨r4, h4⟩ : ∃ r, decide (x.e.vol < e.e.vol) = r := ⟨_, rfl⟩
          have hE := stamp_eql x.e.at_ e.e.at_ h1
          have hq2 := fun wx => ref09_less x.e.at_ e.e.at_ wx
          rw [h2] at hq2
          replace hq2 := Lib.hid hq2
          have hj9 : decide ((j : Int) < (L.length : Int)) = true := (by first | (simp; done) | (simp; omega))
          cases r1
          · rw [h1, h2] at hP2
            cases again
            · cases r2
              · simp only [Bool.false_and, Bool.or_false, Bool.false_eq_true, if_false] at hP2
                clear h3 h4 h1
                go_wp2_with (first
                  | ((with_reducible refine gIndex rfl rfl ?_); refine ev_indexL rfl rfl rfl rfl hlj ?_)
                  | ((with_reducible refine gate (N := 23) rfl ?_); refine ev_loadR rfl rfl rfl hrX (by rfl) ?_)
                  | (go_at_call 37; (with_reducible refine (hq2.out _).mono ?_); rintro e1 w7 ⟨rfl, hb7⟩; have hL := hL.call hb7; clear hb7)
                  | ((with_reducible refine gAlloc rfl rfl ?_); (refine ev_allocL rfl hL rfl (by first | exact CellsC.of | exact cells_one (by assumption) (by assumption) | exact cells_agg _ rfl) ?_; clear hL; intro gq wq hL)) | ((with_reducible refine gBox rfl rfl ?_); (refine ev_boxL rfl hL rfl rfl (by first | exact CellsC.of | exact cells_one (by assumption) (by assumption) | exact cells_agg _ rfl) ?_; clear hL; intro gq wq hL)) | ((with_reducible refine gLoad rfl rfl ?_); (first | (refine ev_load1L rfl hL rfl rfl HasV.mem (by rfl) ?_) | (refine ev_loadAllL rfl hL rfl rfl HasV.mem (by rfl) ?_) | (refine ev_loadL rfl hL rfl rfl HasV.mem SegC.seg ?_))) | ((with_reducible refine gStore rfl rfl ?_); (first | (refine ev_storeC rfl hL rfl rfl rfl (by first | exact CellsC.of | exact cells_one (by assumption) (by assumption) | exact cells_agg _ rfl) (by rfl) ?_) | (refine ev_storeAllC rfl hL rfl rfl rfl (by first | exact CellsC.of | exact cells_one (by assumption) (by assumption) | exact cells_agg _ rfl) (by rfl) (by rfl) ?_)); clear hL; intro wq hL) | ((with_reducible refine gLoadG rfl rfl ?_ ?_); (exact wanted_some rfl rfl rfl (by with_reducible rfl)); (first | (refine ev_load1G (wanted_some rfl rfl rfl rfl) hL rfl rfl HasV.mem (by rfl) ?_) | (refine ev_loadAllG (wanted_some rfl rfl rfl rfl) hL rfl rfl HasV.mem (by rfl) ?_) | (refine ev_loadG_ (wanted_some rfl rfl rfl rfl) hL rfl rfl HasV.mem SegC.seg ?_))))
                go_roundw
                case rel => exact ⟨j + 1, at_, _, by omega, by go_num, rfl, by go_num, hP2, hL.sub (by unfold Evt.cells; exact (by repeat (first | exact List.nil_sublist _ | with_reducible apply List.Sublist.cons_cons | with_reducible apply List.Sublist.cons)))⟩
                case measure => simp [intOf]; omega
              · simp only [Bool.false_and, Bool.or_false, Bool.false_eq_true, if_false, if_true] at hP2
                clear h3 h4 h1
                go_wp2_with (first
                  | ((with_reducible refine gIndex rfl rfl ?_); refine ev_indexL rfl rfl rfl rfl hlj ?_)
                  | ((with_reducible refine gate (N := 23) rfl ?_); refine ev_loadR rfl rfl rfl hrX (by rfl) ?_)
                  | (go_at_call 37; (with_reducible refine (hq2.out _).mono ?_); rintro e1 w7 ⟨rfl, hb7⟩; have hL := hL.call hb7; clear hb7)
                  | ((with_reducible refine gAlloc rfl rfl ?_); (refine ev_allocL rfl hL rfl (by first | exact CellsC.of | exact cells_one (by assumption) (by assumption) | exact cells_agg _ rfl) ?_; clear hL; intro gq wq hL)) | ((with_reducible refine gBox rfl rfl ?_); (refine ev_boxL rfl hL rfl rfl (by first | exact CellsC.of | exact cells_one (by assumption) (by assumption) | exact cells_agg _ rfl) ?_; clear hL; intro gq wq hL)) | ((with_reducible refine gLoad rfl rfl ?_); (first | (refine ev_load1L rfl hL rfl rfl HasV.mem (by rfl) ?_) | (refine ev_loadAllL rfl hL rfl rfl HasV.mem (by rfl) ?_) | (refine ev_loadL rfl hL rfl rfl HasV.mem SegC.seg ?_))) | ((with_reducible refine gStore rfl rfl ?_); (first | (refine ev_storeC rfl hL rfl rfl rfl (by first | exact CellsC.of | exact cells_one (by assumption) (by assumption) | exact cells_agg _ rfl) (by rfl) ?_) | (refine ev_storeAllC rfl hL rfl rfl rfl (by first | exact CellsC.of | exact cells_one (by assumption) (by assumption) | exact cells_agg _ rfl) (by rfl) (by rfl) ?_)); clear hL; intro wq hL) | ((with_reducible refine gLoadG rfl rfl ?_ ?_); (exact wanted_some rfl rfl rfl (by with_reducible rfl)); (first | (refine ev_load1G (wanted_some rfl rfl rfl rfl) hL rfl rfl HasV.mem (by rfl) ?_) | (refine ev_loadAllG (wanted_some rfl rfl rfl rfl) hL rfl rfl HasV.mem (by rfl) ?_) | (refine ev_loadG_ (wanted_some rfl rfl rfl rfl) hL rfl rfl HasV.mem SegC.seg ?_))))
                go_roundw
                case rel => exact ⟨j + 1, j + 1, _, by omega, by go_num, rfl, by go_num, hP2, hL.sub (by unfold Evt.cells; exact (by repeat (first | exact List.nil_sublist _ | with_reducible apply List.Sublist.cons_cons | with_reducible apply List.Sublist.cons)))⟩
                case measure => simp [intOf]; omega
            · cases r2
              · simp only [Bool.false_and, Bool.or_false, Bool.false_eq_true, if_false] at hP2
                clear h3 h4 h1
                go_wp2_with (first
                  | ((with_reducible refine gIndex rfl rfl ?_); refine ev_indexL rfl rfl rfl rfl hlj ?_)
                  | ((with_reducible refine gate (N := 23) rfl ?_); refine ev_loadR rfl rfl rfl hrX (by rfl) ?_)
                  | (go_at_call 37; (with_reducible refine (hq2.out _).mono ?_); rintro e1 w7 ⟨rfl, hb7⟩; have hL := hL.call hb7; clear hb7)
                  | ((with_reducible refine gAlloc rfl rfl ?_); (refine ev_allocL rfl hL rfl (by first | exact CellsC.of | exact cells_one (by assumption) (by assumption) | exact cells_agg _ rfl) ?_; clear hL; intro gq wq hL)) | ((with_reducible refine gBox rfl rfl ?_); (refine ev_boxL rfl hL rfl rfl (by first | exact CellsC.of | exact cells_one (by assumption) (by assumption) | exact cells_agg _ rfl) ?_; clear hL; intro gq wq hL)) | ((with_reducible refine gLoad rfl rfl ?_); (first | (refine ev_load1L rfl hL rfl rfl HasV.mem (by rfl) ?_) | (refine ev_loadAllL rfl hL rfl rfl HasV.mem (by rfl) ?_) | (refine ev_loadL rfl hL rfl rfl HasV.mem SegC.seg ?_))) | ((with_reducible refine gStore rfl rfl ?_); (first | (refine ev_storeC rfl hL rfl rfl rfl (by first | exact CellsC.of | exact cells_one (by assumption) (by assumption) | exact cells_agg _ rfl) (by rfl) ?_) | (refine ev_storeAllC rfl hL rfl rfl rfl (by first | exact CellsC.of | exact cells_one (by assumption) (by assumption) | exact cells_agg _ rfl) (by rfl) (by rfl) ?_)); clear hL; intro wq hL) | ((with_reducible refine gLoadG rfl rfl ?_ ?_); (exact wanted_some rfl rfl rfl (by with_reducible rfl)); (first | (refine ev_load1G (wanted_some rfl rfl rfl rfl) hL rfl rfl HasV.mem (by rfl) ?_) | (refine ev_loadAllG (wanted_some rfl rfl rfl rfl) hL rfl rfl HasV.mem (by rfl) ?_) | (refine ev_loadG_ (wanted_some rfl rfl rfl rfl) hL rfl rfl HasV.mem SegC.seg ?_))))
                go_roundw
                case rel => exact ⟨j + 1, at_, _, by omega, by go_num, rfl, by go_num, hP2, hL.sub (by unfold Evt.cells; exact (by repeat (first | exact List.nil_sublist _ | with_reducible apply List.Sublist.cons_cons | with_reducible apply List.Sublist.cons)))⟩
                case measure => simp [intOf]; omega
              · simp only [Bool.false_and, Bool.or_false, Bool.false_eq_true, if_false, if_true] at hP2
                clear h3 h4 h1
                go_wp2_with (first
                  | ((with_reducible refine gIndex rfl rfl ?_); refine ev_indexL rfl rfl rfl rfl hlj ?_)
                  | ((with_reducible refine gate (N := 23) rfl ?_); refine ev_loadR rfl rfl rfl hrX (by rfl) ?_)
                  | (go_at_call 37; (with_reducible refine (hq2.out _).mono ?_); rintro e1 w7 ⟨rfl, hb7⟩; have hL := hL.call hb7; clear hb7)
                  | ((with_reducible refine gAlloc rfl rfl ?_); (refine ev_allocL rfl hL rfl (by first | exact CellsC.of | exact cells_one (by assumption) (by assumption) | exact cells_agg _ rfl) ?_; clear hL; intro gq wq hL)) | ((with_reducible refine gBox rfl rfl ?_); (refine ev_boxL rfl hL rfl rfl (by first | exact CellsC.of | exact cells_one (by assumption) (by assumption) | exact cells_agg _ rfl) ?_; clear hL; intro gq wq hL)) | ((with_reducible refine gLoad rfl rfl ?_); (first | (refine ev_load1L rfl hL rfl rfl HasV.mem (by rfl) ?_) | (refine ev_loadAllL rfl hL rfl rfl HasV.mem (by rfl) ?_) | (refine ev_loadL rfl hL rfl rfl HasV.mem SegC.seg ?_))) | ((with_reducible refine gStore rfl rfl ?_); (first | (refine ev_storeC rfl hL rfl rfl rfl (by first | exact CellsC.of | exact cells_one (by assumption) (by assumption) | exact cells_agg _ rfl) (by rfl) ?_) | (refine ev_storeAllC rfl hL rfl rfl rfl (by first | exact CellsC.of | exact cells_one (by assumption) (by assumption) | exact cells_agg _ rfl) (by rfl) (by rfl) ?_)); clear hL; intro wq hL) | ((with_reducible refine gLoadG rfl rfl ?_ ?_); (exact wanted_some rfl rfl rfl (by with_reducible rfl)); (first | (refine ev_load1G (wanted_some rfl rfl rfl rfl) hL rfl rfl HasV.mem (by rfl) ?_) | (refine ev_loadAllG (wanted_some rfl rfl rfl rfl) hL rfl rfl HasV.mem (by rfl) ?_) | (refine ev_loadG_ (wanted_some rfl rfl rfl rfl) hL rfl rfl HasV.mem SegC.seg ?_))))
                go_roundw
                case rel => exact ⟨j + 1, j + 1, _, by omega, by go_num, rfl, by go_num, hP2, hL.sub (by unfold Evt.cells; exact (by repeat (first | exact List.nil_sublist _ | with_reducible apply List.Sublist.cons_cons | with_reducible apply List.Sublist.cons)))⟩
                case measure => simp [intOf]; omega
          · have h0 := less_irr _ _ h1
            rw [h2] at h0
            subst h0
            rw [h1, h2, h3, h4] at hP2
            clear h1
            cases again
            · cases r3
              · cases r4
                · simp only [Bool.true_and, Bool.or_false, Bool.false_eq_true, if_false] at hP2
                  go_wp2_with (first
                    | ((with_reducible refine gIndex rfl rfl ?_); refine ev_indexL rfl rfl rfl rfl hlj ?_)
                    | ((with_reducible refine gate (N := 23) rfl ?_); refine ev_loadR rfl rfl rfl hrX (by rfl) ?_)
                    | (go_at_call 37; (with_reducible refine (hq2.out _).mono ?_); rintro e1 w7 ⟨rfl, hb7⟩; have hL := hL.call hb7; clear hb7)
                    | ((with_reducible refine gAlloc rfl rfl ?_); (refine ev_allocL rfl hL rfl (by first | exact CellsC.of | exact cells_one (by assumption) (by assumption) | exact cells_agg _ rfl) ?_; clear hL; intro gq wq hL)) | ((with_reducible refine gBox rfl rfl ?_); (refine ev_boxL rfl hL rfl rfl (by first | exact CellsC.of | exact cells_one (by assumption) (by assumption) | exact cells_agg _ rfl) ?_; clear hL; intro gq wq hL)) | ((with_reducible refine gLoad rfl rfl ?_); (first | (refine ev_load1L rfl hL rfl rfl HasV.mem (by rfl) ?_) | (refine ev_loadAllL rfl hL rfl rfl HasV.mem (by rfl) ?_) | (refine ev_loadL rfl hL rfl rfl HasV.mem SegC.seg ?_))) | ((with_reducible refine gStore rfl rfl ?_); (first | (refine ev_storeC rfl hL rfl rfl rfl (by first | exact CellsC.of | exact cells_one (by assumption) (by assumption) | exact cells_agg _ rfl) (by rfl) ?_) | (refine ev_storeAllC rfl hL rfl rfl rfl (by first | exact CellsC.of | exact cells_one (by assumption) (by assumption) | exact cells_agg _ rfl) (by rfl) (by rfl) ?_)); clear hL; intro wq hL) | ((with_reducible refine gLoadG rfl rfl ?_ ?_); (exact wanted_some rfl rfl rfl (by with_reducible rfl)); (first | (refine ev_load1G (wanted_some rfl rfl rfl rfl) hL rfl rfl HasV.mem (by rfl) ?_) | (refine ev_loadAllG (wanted_some rfl rfl rfl rfl) hL rfl rfl HasV.mem (by rfl) ?_) | (refine ev_loadG_ (wanted_some rfl rfl rfl rfl) hL rfl rfl HasV.mem SegC.seg ?_))))
                  go_roundw
                  case rel => exact ⟨j + 1, at_, _, by omega, by go_num, rfl, by go_num, hP2, hL.sub (by unfold Evt.cells; exact (by repeat (first | exact List.nil_sublist _ | with_reducible apply List.Sublist.cons_cons | with_reducible apply List.Sublist.cons)))⟩
                  case measure => simp [intOf]; omega
                · simp only [Bool.true_and, Bool.or_false, Bool.false_or, Bool.false_eq_true, if_false, if_true] at hP2
                  go_wp2_with (first
                    | ((with_reducible refine gIndex rfl rfl ?_); refine ev_indexL rfl rfl rfl rfl hlj ?_)
                    | ((with_reducible refine gate (N := 23) rfl ?_); refine ev_loadR rfl rfl rfl hrX (by rfl) ?_)
                    | (go_at_call 37; (with_reducible refine (hq2.out _).mono ?_); rintro e1 w7 ⟨rfl, hb7⟩; have hL := hL.call hb7; clear hb7)
                    | ((with_reducible refine gAlloc rfl rfl ?_); (refine ev_allocL rfl hL rfl (by first | exact CellsC.of | exact cells_one (by assumption) (by assumption) | exact cells_agg _ rfl) ?_; clear hL; intro gq wq hL)) | ((with_reducible refine gBox rfl rfl ?_); (refine ev_boxL rfl hL rfl rfl (by first | exact CellsC.of | exact cells_one (by assumption) (by assumption) | exact cells_agg _ rfl) ?_; clear hL; intro gq wq hL)) | ((with_reducible refine gLoad rfl rfl ?_); (first | (refine ev_load1L rfl hL rfl rfl HasV.mem (by rfl) ?_) | (refine ev_loadAllL rfl hL rfl rfl HasV.mem (by rfl) ?_) | (refine ev_loadL rfl hL rfl rfl HasV.mem SegC.seg ?_))) | ((with_reducible refine gStore rfl rfl ?_); (first | (refine ev_storeC rfl hL rfl rfl rfl (by first | exact CellsC.of | exact cells_one (by assumption) (by assumption) | exact cells_agg _ rfl) (by rfl) ?_) | (refine ev_storeAllC rfl hL rfl rfl rfl (by first | exact CellsC.of | exact cells_one (by assumption) (by assumption) | exact cells_agg _ rfl) (by rfl) (by rfl) ?_)); clear hL; intro wq hL) | ((with_reducible refine gLoadG rfl rfl ?_ ?_); (exact wanted_some rfl rfl rfl (by with_reducible rfl)); (first | (refine ev_load1G (wanted_some rfl rfl rfl rfl) hL rfl rfl HasV.mem (by rfl) ?_) | (refine ev_loadAllG (wanted_some rfl rfl rfl rfl) hL rfl rfl HasV.mem (by rfl) ?_) | (refine ev_loadG_ (wanted_some rfl rfl rfl rfl) hL rfl rfl HasV.mem SegC.seg ?_))))
                  go_roundw
                  case rel => exact ⟨j + 1, j + 1, _, by omega, by go_num, rfl, by go_num, hP2, hL.sub (by unfold Evt.cells; exact (by repeat (first | exact List.nil_sublist _ | with_reducible apply List.Sublist.cons_cons | with_reducible apply List.Sublist.cons)))⟩
                  case measure => simp [intOf]; omega
              · cases r4
                · simp only [Bool.true_and, Bool.or_false, Bool.false_or, Bool.false_eq_true, if_false] at hP2
                  go_wp2_with (first
                    | ((with_reducible refine gIndex rfl rfl ?_); refine ev_indexL rfl rfl rfl rfl hlj ?_)
                    | ((with_reducible refine gate (N := 23) rfl ?_); refine ev_loadR rfl rfl rfl hrX (by rfl) ?_)
                    | (go_at_call 37; (with_reducible refine (hq2.out _).mono ?_); rintro e1 w7 ⟨rfl, hb7⟩; have hL := hL.call hb7; clear hb7)
                    | ((with_reducible refine gAlloc rfl rfl ?_); (refine ev_allocL rfl hL rfl (by first | exact CellsC.of | exact cells_one (by assumption) (by assumption) | exact cells_agg _ rfl) ?_; clear hL; intro gq wq hL)) | ((with_reducible refine gBox rfl rfl ?_); (refine ev_boxL rfl hL rfl rfl (by first | exact CellsC.of | exact cells_one (by assumption) (by assumption) | exact cells_agg _ rfl) ?_; clear hL; intro gq wq hL)) | ((with_reducible refine gLoad rfl rfl ?_); (first | (refine ev_load1L rfl hL rfl rfl HasV.mem (by rfl) ?_) | (refine ev_loadAllL rfl hL rfl rfl HasV.mem (by rfl) ?_) | (refine ev_loadL rfl hL rfl rfl HasV.mem SegC.seg ?_))) | ((with_reducible refine gStore rfl rfl ?_); (first | (refine ev_storeC rfl hL rfl rfl rfl (by first | exact CellsC.of | exact cells_one (by assumption) (by assumption) | exact cells_agg _ rfl) (by rfl) ?_) | (refine ev_storeAllC rfl hL rfl rfl rfl (by first | exact CellsC.of | exact cells_one (by assumption) (by assumption) | exact cells_agg _ rfl) (by rfl) (by rfl) ?_)); clear hL; intro wq hL) | ((with_reducible refine gLoadG rfl rfl ?_ ?_); (exact wanted_some rfl rfl rfl (by with_reducible rfl)); (first | (refine ev_load1G (wanted_some rfl rfl rfl rfl) hL rfl rfl HasV.mem (by rfl) ?_) | (refine ev_loadAllG (wanted_some rfl rfl rfl rfl) hL rfl rfl HasV.mem (by rfl) ?_) | (refine ev_loadG_ (wanted_some rfl rfl rfl rfl) hL rfl rfl HasV.mem SegC.seg ?_))))
                  go_roundw
                  case rel => exact ⟨j + 1, at_, _, by omega, by go_num, rfl, by go_num, hP2, hL.sub (by unfold Evt.cells; exact (by repeat (first | exact List.nil_sublist _ | with_reducible apply List.Sublist.cons_cons | with_reducible apply List.Sublist.cons)))⟩
                  case measure => simp [intOf]; omega
                · exact absurd (of_decide_eq_true h4) (by have := of_decide_eq_true h3; omega)
            · cases r4
              · simp only [Bool.true_and, Bool.true_or, Bool.or_false, Bool.false_or, Bool.false_eq_true, if_false] at hP2
                clear h3
                go_wp2_with (first
                  | ((with_reducible refine gIndex rfl rfl ?_); refine ev_indexL rfl rfl rfl rfl hlj ?_)
                  | ((with_reducible refine gate (N := 23) rfl ?_); refine ev_loadR rfl rfl rfl hrX (by rfl) ?_)
                  | (go_at_call 37; (with_reducible refine (hq2.out _).mono ?_); rintro e1 w7 ⟨rfl, hb7⟩; have hL := hL.call hb7; clear hb7)
                  | ((with_reducible refine gAlloc rfl rfl ?_); (refine ev_allocL rfl hL rfl (by first | exact CellsC.of | exact cells_one (by assumption) (by assumption) | exact cells_agg _ rfl) ?_; clear hL; intro gq wq hL)) | ((with_reducible refine gBox rfl rfl ?_); (refine ev_boxL rfl hL rfl rfl (by first | exact CellsC.of | exact cells_one (by assumption) (by assumption) | exact cells_agg _ rfl) ?_; clear hL; intro gq wq hL)) | ((with_reducible refine gLoad rfl rfl ?_); (first | (refine ev_load1L rfl hL rfl rfl HasV.mem (by rfl) ?_) | (refine ev_loadAllL rfl hL rfl rfl HasV.mem (by rfl) ?_) | (refine ev_loadL rfl hL rfl rfl HasV.mem SegC.seg ?_))) | ((with_reducible refine gStore rfl rfl ?_); (first | (refine ev_storeC rfl hL rfl rfl rfl (by first | exact CellsC.of | exact cells_one (by assumption) (by assumption) | exact cells_agg _ rfl) (by rfl) ?_) | (refine ev_storeAllC rfl hL rfl rfl rfl (by first | exact CellsC.of | exact cells_one (by assumption) (by assumption) | exact cells_agg _ rfl) (by rfl) (by rfl) ?_)); clear hL; intro wq hL) | ((with_reducible refine gLoadG rfl rfl ?_ ?_); (exact wanted_some rfl rfl rfl (by with_reducible rfl)); (first | (refine ev_load1G (wanted_some rfl rfl rfl rfl) hL rfl rfl HasV.mem (by rfl) ?_) | (refine ev_loadAllG (wanted_some rfl rfl rfl rfl) hL rfl rfl HasV.mem (by rfl) ?_) | (refine ev_loadG_ (wanted_some rfl rfl rfl rfl) hL rfl rfl HasV.mem SegC.seg ?_))))
                go_roundw
                case rel => exact ⟨j + 1, at_, _, by omega, by go_num, rfl, by go_num, hP2, hL.sub (by unfold Evt.cells; exact (by repeat (first | exact List.nil_sublist _ | with_reducible apply List.Sublist.cons_cons | with_reducible apply List.Sublist.cons)))⟩
                case measure => simp [intOf]; omega
              · simp only [Bool.true_and, Bool.true_or, Bool.or_false, Bool.false_or, Bool.false_eq_true, if_false, if_true] at hP2
                clear h3
                go_wp2_with (first
                  | ((with_reducible refine gIndex rfl rfl ?_); refine ev_indexL rfl rfl rfl rfl hlj ?_)
                  | ((with_reducible refine gate (N := 23) rfl ?_); refine ev_loadR rfl rfl rfl hrX (by rfl) ?_)
                  | (go_at_call 37; (with_reducible refine (hq2.out _).mono ?_); rintro e1 w7 ⟨rfl, hb7⟩; have hL := hL.call hb7; clear hb7)
                  | ((with_reducible refine gAlloc rfl rfl ?_); (refine ev_allocL rfl hL rfl (by first | exact CellsC.of | exact cells_one (by assumption) (by assumption) | exact cells_agg _ rfl) ?_; clear hL; intro gq wq hL)) | ((with_reducible refine gBox rfl rfl ?_); (refine ev_boxL rfl hL rfl rfl (by first | exact CellsC.of | exact cells_one (by assumption) (by assumption) | exact cells_agg _ rfl) ?_; clear hL; intro gq wq hL)) | ((with_reducible refine gLoad rfl rfl ?_); (first | (refine ev_load1L rfl hL rfl rfl HasV.mem (by rfl) ?_) | (refine ev_loadAllL rfl hL rfl rfl HasV.mem (by rfl) ?_) | (refine ev_loadL rfl hL rfl rfl HasV.mem SegC.seg ?_))) | ((with_reducible refine gStore rfl rfl ?_); (first | (refine ev_storeC rfl hL rfl rfl rfl (by first | exact CellsC.of | exact cells_one (by assumption) (by assumption) | exact cells_agg _ rfl) (by rfl) ?_) | (refine ev_storeAllC rfl hL rfl rfl rfl (by first | exact CellsC.of | exact cells_one (by assumption) (by assumption) | exact cells_agg _ rfl) (by rfl) (by rfl) ?_)); clear hL; intro wq hL) | ((with_reducible refine gLoadG rfl rfl ?_ ?_); (exact wanted_some rfl rfl rfl (by with_reducible rfl)); (first | (refine ev_load1G (wanted_some rfl rfl rfl rfl) hL rfl rfl HasV.mem (by rfl) ?_) | (refine ev_loadAllG (wanted_some rfl rfl rfl rfl) hL rfl rfl HasV.mem (by rfl) ?_) | (refine ev_loadG_ (wanted_some rfl rfl rfl rfl) hL rfl rfl HasV.mem SegC.seg ?_))))
                go_roundw
                case rel => exact ⟨j + 1, j + 1, _, by omega, by go_num, rfl, by go_num, hP2, hL.sub (by unfold Evt.cells; exact (by repeat (first | exact List.nil_sublist _ | with_reducible apply List.Sublist.cons_cons | with_reducible apply List.Sublist.cons)))⟩
                case measure => simp [intOf]; omega
        · obtain rfl : j = L.length := by omega
          clear hlj
          cases again
          · have HF2 := hP.out.ins hF.out
            rw [← HT.out] at HF2
            have hle := hP.out.le
            have HLN : (L.take at_ ++ [e] ++ L.drop at_).length = L.length + 1 := by
              rw [List.length_append, List.length_append, List.length_take, List.length_drop, List.length_singleton]; omega
            have HLT : (L.take at_).length ≤ 1000 := by rw [List.length_take]; omega
            have HLD : (L.drop at_).length ≤ 1000 := by rw [List.length_drop]; omega
            have HC := own_cases (hL.sub (l' := [row encEp w.heap.size 31 (.slice ao2 L.length c2) L]) (by repeat (first | exact List.nil_sublist _ | with_reducible apply List.Sublist.cons_cons | with_reducible apply List.Sublist.cons)))
            rcases HC with ⟨h1, rfl⟩ | ⟨g1, c1, h1, hc1, hc2, -⟩
            · injection h1 with h11 h12 h13
              subst h11 h13
              clear h12
              simp only [List.length_nil] at hL hle
              obtain rfl : at_ = 0 := by omega
              rw [show ([] : List Ep).take 0 ++ [e] ++ ([] : List Ep).drop 0 = [e] from rfl] at HF2
              clear HLN HLT HLD hP hle hF hS
              replace hL := hL.rowOff encEp w.heap.size 31
              have HF2 := Lib.hid HF2
              go_wp2_with (first
                | ((with_reducible refine gate (N := 66) rfl ?_); refine ev_appL (E := encEp) [] rfl hL rfl rfl rfl (Enc.O.none (E := encEp) _ 0 31).read (by first | exact fun _ => ss0 | exact fun _ => ss1 | exact fun _ => ss2 | exact fun _ => ss3 | exact fun _ => ss4 | exact fun _ => ss5 | exact fun _ => ss6) rfl rfl (by simp) hL.size ?_; clear hL; intro v1 wq hL)
                | ((with_reducible refine gLoad rfl rfl ?_); (first | (refine ev_load1L rfl hL rfl rfl HasV.mem (by rfl) ?_) | (refine ev_loadAllL rfl hL rfl rfl HasV.mem (by rfl) ?_) | (refine ev_loadL rfl hL rfl rfl HasV.mem SegC.seg ?_)))
                | ((with_reducible refine gLit rfl rfl ?_); refine ev_litL (cs := Evt.cells e.e) rfl hL rfl rfl rfl (by kernel_rfl) ?_; clear hL; intro gq wq hL)
                | ((with_reducible refine gate (N := 70) rfl ?_); refine ev_app1L (E := encEp) e rfl hL rfl rfl rfl (by first | exact mm0 | exact mm1 | exact mm2 | exact mm3 | exact mm4 | exact mm5 | exact mm6 | exact mm7 | exact mm8) (by first | exact fun _ => ss0 | exact fun _ => ss1 | exact fun _ => ss2 | exact fun _ => ss3 | exact fun _ => ss4 | exact fun _ => ss5 | exact fun _ => ss6) rfl rfl rfl (by simp) hL.size ?_; clear hL; intro ao' c' wq hL)
                | ((with_reducible refine gate (N := 75) rfl ?_); refine ev_appL (E := encEp) [] rfl hL rfl rfl rfl (Enc.O.none (E := encEp) _ 0 31).read (by first | exact fun _ => ss0 | exact fun _ => ss1 | exact fun _ => ss2 | exact fun _ => ss3 | exact fun _ => ss4 | exact fun _ => ss5 | exact fun _ => ss6) rfl rfl (by simp) hL.size ?_; clear hL; intro v3 wq hL))
              go_roundw
              case rel => exact ⟨k + 1, [e], _, by omega, by go_num, rfl, HF2, by simp, by have h9 := hL.sub (l' := [row encEp w.heap.size 31 v3 ((([] ++ []) ++ [e]) ++ [])]) (by repeat (first | exact List.nil_sublist _ | with_reducible apply List.Sublist.cons_cons | with_reducible apply List.Sublist.cons)); simpa using h9⟩
              case measure => simp [intOf]; omega
            · injection h1 with h11 h12 h13
              subst h11 h13
              clear h12
              have hRT : ∀ wx l', Loc w NoM wx l' → row encEp w.heap.size 31 (.slice (some ⟨g1, 0, none⟩) L.length c2) L ∈ l' → Hid (encEp.R wx (.slice (some ⟨g1, 0, none⟩) at_ c2) (L.take at_)) := fun wx l' hx hm => Lib.hid (R_take (hx.own (E := encEp) hm).read rfl hle)
              have hRD : ∀ wx l', Loc w NoM wx l' → row encEp w.heap.size 31 (.slice (some ⟨g1, 0, none⟩) L.length c2) L ∈ l' → Hid (encEp.R wx (.slice (some ⟨g1, at_ * 21, none⟩) (L.length - at_) (c2 - at_)) (L.drop at_)) := fun wx l' hx hm => Lib.hid (R_drop (hx.own (E := encEp) hm).read rfl hle)
              by_cases hcc : c2 = at_
              · obtain rfl : at_ = L.length := by omega
                subst hcc
                clear hRD hRT hP hF hS hle
                rw [List.take_length, List.drop_length, List.append_nil] at HF2
                rw [List.take_length, List.drop_length, List.append_nil] at HLN
                clear HLT HLD
                have HF2 := Lib.hid HF2
                have HLN := Lib.hid HLN
                replace hL := hL.rowOff encEp w.heap.size 31
                have hRT : ∀ wx l', Loc w NoM wx l' → row encEp w.heap.size 31 (.slice (some ⟨g1, 0, none⟩) L.length L.length) L ∈ l' → Hid (encEp.R wx (.slice (some ⟨g1, 0, none⟩) L.length L.length) L) := fun wx l' hx hm => Lib.hid (hx.own (E := encEp) hm).read
                have hRD : ∀ wx, Hid (encEp.R wx (.slice (some ⟨g1, 0, none⟩) 0 0) []) := fun wx => Lib.hid ⟨rfl, _, _, rfl, Nat.le_refl _, Nat.zero_le _, .inl rfl⟩
                go_wp2_with (first
                  | ((with_reducible refine gate (N := 66) rfl ?_); refine ev_appL (E := encEp) L rfl hL rfl rfl rfl (hRT _ _ hL (by first | exact mm0 | exact mm1 | exact mm2 | exact mm3 | exact mm4 | exact mm5 | exact mm6 | exact mm7 | exact mm8)).out (by first | exact fun _ => ss0 | exact fun _ => ss1 | exact fun _ => ss2 | exact fun _ => ss3 | exact fun _ => ss4 | exact fun _ => ss5 | exact fun _ => ss6) rfl rfl (by simp; omega) hL.size ?_; clear hL; intro v1 wq hL)
                  | ((with_reducible refine gLoad rfl rfl ?_); (first | (refine ev_load1L rfl hL rfl rfl HasV.mem (by rfl) ?_) | (refine ev_loadAllL rfl hL rfl rfl HasV.mem (by rfl) ?_) | (refine ev_loadL rfl hL rfl rfl HasV.mem SegC.seg ?_)))
                  | ((with_reducible refine gLit rfl rfl ?_); refine ev_litL (cs := Evt.cells e.e) rfl hL rfl rfl rfl (by kernel_rfl) ?_; clear hL; intro gq wq hL)
                  | ((with_reducible refine gate (N := 70) rfl ?_); refine ev_app1L (E := encEp) e rfl hL rfl rfl rfl (by first | exact mm0 | exact mm1 | exact mm2 | exact mm3 | exact mm4 | exact mm5 | exact mm6 | exact mm7 | exact mm8) (by first | exact fun _ => ss0 | exact fun _ => ss1 | exact fun _ => ss2 | exact fun _ => ss3 | exact fun _ => ss4 | exact fun _ => ss5 | exact fun _ => ss6) rfl rfl rfl (by simp; omega) hL.size ?_; clear hL; intro ao' c' wq hL)
                  | ((with_reducible refine gate (N := 75) rfl ?_); refine ev_appL (E := encEp) [] rfl hL rfl rfl rfl (hRD _).out (by first | exact fun _ => ss0 | exact fun _ => ss1 | exact fun _ => ss2 | exact fun _ => ss3 | exact fun _ => ss4 | exact fun _ => ss5 | exact fun _ => ss6) rfl rfl (by simp; omega) hL.size ?_; clear hL; intro v3 wq hL))
                go_roundw
                case rel => exact ⟨k + 1, L ++ [e], _, by omega, by go_num, rfl, HF2, by have := HLN.out; omega, by have h9 := hL.sub (l' := [row encEp w.heap.size 31 v3 ((([] ++ L) ++ [e]) ++ [])]) (by repeat (first | exact List.nil_sublist _ | with_reducible apply List.Sublist.cons_cons | with_reducible apply List.Sublist.cons)); simpa using h9⟩
                case measure => simp [intOf]; omega
              · have hr1 : (at_ : Int) ≤ (L.length : Int) := by omega
                have hr2 : (L.length : Int) ≤ (c2 : Int) := by omega
                have hr3 : (at_ : Int) ≤ (c2 : Int) := by omega
                have hr0 : (0 : Int) ≤ (at_ : Int) := by omega
                generalize L.take at_ = K1 at *
                generalize L.drop at_ = K2 at *
                have HF2 := Lib.hid HF2
                have HLN := Lib.hid HLN
                clear hP hF hS
                replace hL := hL.rowOff encEp w.heap.size 31
                go_wp2_with (first
                  | ((with_reducible refine gate (N := 66) rfl ?_); refine ev_appL (E := encEp) K1 rfl hL rfl rfl rfl (hRT _ _ hL (by first | exact mm0 | exact mm1 | exact mm2 | exact mm3 | exact mm4 | exact mm5 | exact mm6 | exact mm7 | exact mm8)).out (by first | exact fun _ => ss0 | exact fun _ => ss1 | exact fun _ => ss2 | exact fun _ => ss3 | exact fun _ => ss4 | exact fun _ => ss5 | exact fun _ => ss6) rfl rfl (by simp; omega) hL.size ?_; clear hL; intro v1 wq hL)
                  | ((with_reducible refine gLoad rfl rfl ?_); (first | (refine ev_load1L rfl hL rfl rfl HasV.mem (by rfl) ?_) | (refine ev_loadAllL rfl hL rfl rfl HasV.mem (by rfl) ?_) | (refine ev_loadL rfl hL rfl rfl HasV.mem SegC.seg ?_)))
                  | ((with_reducible refine gLit rfl rfl ?_); refine ev_litL (cs := Evt.cells e.e) rfl hL rfl rfl rfl (by kernel_rfl) ?_; clear hL; intro gq wq hL)
                  | ((with_reducible refine gate (N := 70) rfl ?_); refine ev_app1L (E := encEp) e rfl hL rfl rfl rfl (by first | exact mm0 | exact mm1 | exact mm2 | exact mm3 | exact mm4 | exact mm5 | exact mm6 | exact mm7 | exact mm8) (by first | exact fun _ => ss0 | exact fun _ => ss1 | exact fun _ => ss2 | exact fun _ => ss3 | exact fun _ => ss4 | exact fun _ => ss5 | exact fun _ => ss6) rfl rfl rfl (by simp; omega) hL.size ?_; clear hL; intro ao' c' wq hL)
                  | ((with_reducible refine gate (N := 75) rfl ?_); refine ev_appL (E := encEp) K2 rfl hL rfl rfl rfl (hRD _ _ hL (by first | exact mm0 | exact mm1 | exact mm2 | exact mm3 | exact mm4 | exact mm5 | exact mm6 | exact mm7 | exact mm8)).out (by first | exact fun _ => ss0 | exact fun _ => ss1 | exact fun _ => ss2 | exact fun _ => ss3 | exact fun _ => ss4 | exact fun _ => ss5 | exact fun _ => ss6) rfl rfl (by simp; omega) hL.size ?_; clear hL; intro v3 wq hL))
                go_roundw
                case rel => exact ⟨k + 1, K1 ++ [e] ++ K2, _, by omega, by go_num, rfl, HF2, by have := HLN.out; omega, by have h9 := hL.sub (l' := [row encEp w.heap.size 31 v3 ((([] ++ K1) ++ [e]) ++ K2)]) (by repeat (first | exact List.nil_sublist _ | with_reducible apply List.Sublist.cons_cons | with_reducible apply List.Sublist.cons)); simpa using h9⟩
                case measure => simp [intOf]; omega
          · have HF2 := hP.out.keep hF.out
            rw [← HT.out] at HF2
            have HF2 := Lib.hid HF2
            clear hP
            go_wp2_with (first | ((with_reducible refine gAlloc rfl rfl ?_); (refine ev_allocL rfl hL rfl (by first | exact CellsC.of | exact cells_one (by assumption) (by assumption) | exact cells_agg _ rfl) ?_; clear hL; intro gq wq hL)) | ((with_reducible refine gBox rfl rfl ?_); (refine ev_boxL rfl hL rfl rfl (by first | exact CellsC.of | exact cells_one (by assumption) (by assumption) | exact cells_agg _ rfl) ?_; clear hL; intro gq wq hL)) | ((with_reducible refine gLoad rfl rfl ?_); (first | (refine ev_load1L rfl hL rfl rfl HasV.mem (by rfl) ?_) | (refine ev_loadAllL rfl hL rfl rfl HasV.mem (by rfl) ?_) | (refine ev_loadL rfl hL rfl rfl HasV.mem SegC.seg ?_))) | ((with_reducible refine gStore rfl rfl ?_); (first | (refine ev_storeC rfl hL rfl rfl rfl (by first | exact CellsC.of | exact cells_one (by assumption) (by assumption) | exact cells_agg _ rfl) (by rfl) ?_) | (refine ev_storeAllC rfl hL rfl rfl rfl (by first | exact CellsC.of | exact cells_one (by assumption) (by assumption) | exact cells_agg _ rfl) (by rfl) (by rfl) ?_)); clear hL; intro wq hL) | ((with_reducible refine gLoadG rfl rfl ?_ ?_); (exact wanted_some rfl rfl rfl (by with_reducible rfl)); (first | (refine ev_load1G (wanted_some rfl rfl rfl rfl) hL rfl rfl HasV.mem (by rfl) ?_) | (refine ev_loadAllG (wanted_some rfl rfl rfl rfl) hL rfl rfl HasV.mem (by rfl) ?_) | (refine ev_loadG_ (wanted_some rfl rfl rfl rfl) hL rfl rfl HasV.mem SegC.seg ?_))))
            go_roundw
            case rel => exact ⟨k + 1, L, _, by omega, by go_num, rfl, HF2, by omega, hL.sub (by repeat (first | exact List.nil_sublist _ | with_reducible apply List.Sublist.cons_cons | with_reducible apply List.Sublist.cons))⟩
            case measure => simp [intOf]; omega
    · obtain rfl : k = ps.length := by omega
      have HT0 := Lib.hid (show ps.take ps.length = ps from List.take_length)
      rw [HT0.out] at hF
      go_wp2_with (first | ((with_reducible refine gAlloc rfl rfl ?_); (refine ev_allocL rfl hL rfl (by first | exact CellsC.of | exact cells_one (by assumption) (by assumption) | exact cells_agg _ rfl) ?_; clear hL; intro gq wq hL)) | ((with_reducible refine gBox rfl rfl ?_); (refine ev_boxL rfl hL rfl rfl (by first | exact CellsC.of | exact cells_one (by assumption) (by assumption) | exact cells_agg _ rfl) ?_; clear hL; intro gq wq hL)) | ((with_reducible refine gLoad rfl rfl ?_); (first | (refine ev_load1L rfl hL rfl rfl HasV.mem (by rfl) ?_) | (refine ev_loadAllL rfl hL rfl rfl HasV.mem (by rfl) ?_) | (refine ev_loadL rfl hL rfl rfl HasV.mem SegC.seg ?_))) | ((with_reducible refine gStore rfl rfl ?_); (first | (refine ev_storeC rfl hL rfl rfl rfl (by first | exact CellsC.of | exact cells_one (by assumption) (by assumption) | exact cells_agg _ rfl) (by rfl) ?_) | (refine ev_storeAllC rfl hL rfl rfl rfl (by first | exact CellsC.of | exact cells_one (by assumption) (by assumption) | exact cells_agg _ rfl) (by rfl) (by rfl) ?_)); clear hL; intro wq hL) | ((with_reducible refine gLoadG rfl rfl ?_ ?_); (exact wanted_some rfl rfl rfl (by with_reducible rfl)); (first | (refine ev_load1G (wanted_some rfl rfl rfl rfl) hL rfl rfl HasV.mem (by rfl) ?_) | (refine ev_loadAllG (wanted_some rfl rfl rfl rfl) hL rfl rfl HasV.mem (by rfl) ?_) | (refine ev_loadG_ (wanted_some rfl rfl rfl rfl) hL rfl rfl HasV.mem SegC.seg ?_))))
      go_ret
      exact ⟨_, L, rfl, hF.out, hLk, hL⟩
end Go.Proofs.YtebpacmhdkgfeaaDoor

/- Chapter 29: the document's About, walked. -/
namespace Go.Proofs.YtebpacmhdkgfeaaDoor
open Go.RowKit
theorem any_succ {α : Type} (f : α → Bool) (l : List α) (j : Nat) (h : j < l.length) {r0 r1 : Bool} (h0 : (l.take j).any f = r0) (h1 : f l[j] = r1) : (l.take (j + 1)).any f = (r0 || r1) := by
  rw [(List.take_append_getElem h).symm, List.any_append, h0]
  simp [h1]
set_option maxHeartbeats 4000000
set_option maxRecDepth 100000 in
theorem ref29_about (v : Value) (ps : List Ep) (id : Mk) (B : Nat) (w : World) (h : encEp.R w v ps) (hO : ∀ p ∈ ps, p.Ok w B) (hn : ps.length ≤ 1000) :
    Calls Tryd.prog 17 #[v, id.val] w fun e w' => ∃ u, e = .returned u ∧ Loc w NoM w' [row encEp w.heap.size 31 u (ps.filter fun p => p.d.about id)] := by
  have hL := (Loc.nil w NoM).rowOff encEp w.heap.size 31
  obtain ⟨ao, c, rfl, hel⟩ := R_elem h
  have HO := Lib.hid hO
  clear hO h
  go_enter Tryd.func17, Tryd.ntmps17
  go_wp2_with (first | ((with_reducible refine gate (N := 3) rfl ?_); (refine ev_boxL rfl hL rfl rfl (by first | exact CellsC.of | exact cells_one (by assumption) (by assumption) | exact cells_agg _ rfl) ?_; clear hL; intro g3 w3 hL)) | ((with_reducible refine gAlloc rfl rfl ?_); (refine ev_allocL rfl hL rfl (by first | exact CellsC.of | exact cells_one (by assumption) (by assumption) | exact cells_agg _ rfl) ?_; clear hL; intro gq wq hL)) | ((with_reducible refine gBox rfl rfl ?_); (refine ev_boxL rfl hL rfl rfl (by first | exact CellsC.of | exact cells_one (by assumption) (by assumption) | exact cells_agg _ rfl) ?_; clear hL; intro gq wq hL)) | ((with_reducible refine gLoad rfl rfl ?_); (first | (refine ev_load1L rfl hL rfl rfl HasV.mem (by rfl) ?_) | (refine ev_loadAllL rfl hL rfl rfl HasV.mem (by rfl) ?_) | (refine ev_loadL rfl hL rfl rfl HasV.mem SegC.seg ?_))) | ((with_reducible refine gStore rfl rfl ?_); (first | (refine ev_storeC rfl hL rfl rfl rfl (by first | exact CellsC.of | exact cells_one (by assumption) (by assumption) | exact cells_agg _ rfl) (by rfl) ?_) | (refine ev_storeAllC rfl hL rfl rfl rfl (by first | exact CellsC.of | exact cells_one (by assumption) (by assumption) | exact cells_agg _ rfl) (by rfl) (by rfl) ?_)); clear hL; intro wq hL) | ((with_reducible refine gLoadG rfl rfl ?_ ?_); (exact wanted_some rfl rfl rfl (by with_reducible rfl)); (first | (refine ev_load1G (wanted_some rfl rfl rfl rfl) hL rfl rfl HasV.mem (by rfl) ?_) | (refine ev_loadAllG (wanted_some rfl rfl rfl rfl) hL rfl rfl HasV.mem (by rfl) ?_) | (refine ev_loadG_ (wanted_some rfl rfl rfl rfl) hL rfl rfl HasV.mem SegC.seg ?_))))
  replace hL := hL.sub (l' := [var g3 [.int .i64 id.boot, .int .i64 id.n] 23, row encEp w.heap.size 31 (.slice none 0 0) []]) (by repeat (first | exact List.nil_sublist _ | with_reducible apply List.Sublist.cons_cons | with_reducible apply List.Sublist.cons))
  go_loopw [5, 15] (fun s i wr => ∃ (k : Nat) (vs : Value), k ≤ ps.length ∧ i = .int .i64 k ∧ s = vs ∧ Loc w NoM wr [var g3 [.int .i64 id.boot, .int .i64 id.n] 23, row encEp w.heap.size 31 vs ((ps.take k).filter fun p => p.d.about id)]) (fun _ i _ => ps.length - (intOf i).toNat)
  case atStart => exact ⟨0, _, by omega, rfl, rfl, hL⟩
  case round =>
    clear hL
    obtain ⟨k, vs, hk, rfl, rfl, hL⟩ := hrel
    by_cases hlt : k < ps.length
    · obtain ⟨g, off, rfl, hr⟩ := hel k hlt
      have hrW : World.rangeAt _ g (off + k * 21) (Evt.cells ps[k].e) := range_below hr hL.below
      clear hr
      have hoq := HO.out _ (List.getElem_mem hlt)
      have HT := Lib.hid (show (ps.take (k + 1)).filter (fun p => p.d.about id) = ((ps.take k).filter fun p => p.d.about id) ++ (if ps[k].d.about id = true then [ps[k]] else []) by
        rw [(List.take_append_getElem hlt).symm, List.filter_append]
        congr 1
        simp only [List.filter_cons, List.filter_nil])
      have hln : ((ps.take k).filter fun p => p.d.about id).length ≤ 1000 := Nat.le_trans (List.length_filter_le _ _) (by rw [List.length_take]; omega)
      generalize ps[k] = q at *
      generalize (ps.take k).filter (fun p => p.d.about id) = L at *
      obtain ⟨⟨qa, qv, qk, qs, an, nn, cn, al, ln, cl⟩, d⟩ := q
      obtain ⟨ns, hns, hok, hds⟩ := hoq.sta.nodes
      have hls := hoq.sta.links
      dsimp only at hds hls hok
      have hany := any_nodes id hok hds
      have HA := Lib.hid (show d.about id = (d.nodes.any (fun n => decide (n.hd.id = id)) || d.links.any (Lnk.about id)) from rfl)
      rw [← hany] at HA
      clear hany
      generalize d.links = ls at *
      have hbn : ns.length ≤ 9223372036854775807 := by obtain ⟨_, _, c8, e8, hc8, hm8, _⟩ := hns; omega
      have hbl : ls.length ≤ 9223372036854775807 := by obtain ⟨_, _, c8, e8, hc8, hm8, _⟩ := hls; omega
      obtain ⟨an2, cn2, hN, heln⟩ := R_elem hns
      obtain ⟨al2, cl2, hK, hell⟩ := R_elem hls
      replace hN : Value.slice an nn cn = _ := hN
      replace hK : Value.slice al ln cl = _ := hK
      injection hN with n1 n2 n3
      injection hK with k1 k2 k3
      subst n1 n2 n3 k1 k2 k3
      clear hok hds hns hls hoq
      replace hrW : World.rangeAt _ g (off + k * 21) [.int .i64 qa.boot, .int .i64 qa.n, .int .i64 qv, .int .i64 qk.a0, .int .i64 qk.a1, .int .i64 qk.a2, .int .i64 qk.a3, .int .i64 qk.a4, .int .i64 qk.a5, .int .i64 qk.a6, .int .i64 qk.a7, .int .i64 qs.a0, .int .i64 qs.a1, .int .i64 qs.a2, .int .i64 qs.a3, .int .i64 qs.a4, .int .i64 qs.a5, .int .i64 qs.a6, .int .i64 qs.a7, .slice an ns.length cn, .slice al ls.length cl] := hrW
      have HC : Hid (Evt.cells ⟨qa, qv, qk, qs, an, ns.length, cn, al, ls.length, cl⟩ = [.int .i64 qa.boot, .int .i64 qa.n, .int .i64 qv, .int .i64 qk.a0, .int .i64 qk.a1, .int .i64 qk.a2, .int .i64 qk.a3, .int .i64 qk.a4, .int .i64 qk.a5, .int .i64 qk.a6, .int .i64 qk.a7, .int .i64 qs.a0, .int .i64 qs.a1, .int .i64 qs.a2, .int .i64 qs.a3, .int .i64 qs.a4, .int .i64 qs.a5, .int .i64 qs.a6, .int .i64 qs.a7, .slice an ns.length cn, .slice al ls.length cl]) := Lib.hid rfl
      generalize hq : (⟨⟨qa, qv, qk, qs, an, ns.length, cn, al, ls.length, cl⟩, d⟩ : Ep) = q at HT
      have HQ : Hid (encEp.cells q = [.int .i64 qa.boot, .int .i64 qa.n, .int .i64 qv, .int .i64 qk.a0, .int .i64 qk.a1, .int .i64 qk.a2, .int .i64 qk.a3, .int .i64 qk.a4, .int .i64 qk.a5, .int .i64 qk.a6, .int .i64 qk.a7, .int .i64 qs.a0, .int .i64 qs.a1, .int .i64 qs.a2, .int .i64 qs.a3, .int .i64 qs.a4, .int .i64 qs.a5, .int .i64 qs.a6, .int .i64 qs.a7, .slice an ns.length cn, .slice al ls.length cl]) := Lib.hid (by subst hq; rfl)
      rw [show d = q.d by subst hq; rfl] at HA
      clear hq HC
      go_wp2_with (first | ((with_reducible refine gIndex rfl rfl ?_); refine ev_indexL rfl rfl rfl rfl hlt ?_) | ((with_reducible refine gate (N := 18) rfl ?_); refine ev_loadR rfl rfl rfl hrW (by rfl) ?_) | ((with_reducible refine gate (N := 7) rfl ?_); (refine ev_allocL rfl hL rfl (by first | exact CellsC.of | exact cells_one (by assumption) (by assumption) | exact cells_agg _ rfl) ?_; clear hL; intro g7 w7 hL)) | ((with_reducible refine gAlloc rfl rfl ?_); (refine ev_allocL rfl hL rfl (by first | exact CellsC.of | exact cells_one (by assumption) (by assumption) | exact cells_agg _ rfl) ?_; clear hL; intro gq wq hL)) | ((with_reducible refine gBox rfl rfl ?_); (refine ev_boxL rfl hL rfl rfl (by first | exact CellsC.of | exact cells_one (by assumption) (by assumption) | exact cells_agg _ rfl) ?_; clear hL; intro gq wq hL)) | ((with_reducible refine gLoad rfl rfl ?_); (first | (refine ev_load1L rfl hL rfl rfl HasV.mem (by rfl) ?_) | (refine ev_loadAllL rfl hL rfl rfl HasV.mem (by rfl) ?_) | (refine ev_loadL rfl hL rfl rfl HasV.mem SegC.seg ?_))) | ((with_reducible refine gStore rfl rfl ?_); (first | (refine ev_storeC rfl hL rfl rfl rfl (by first | exact CellsC.of | exact cells_one (by assumption) (by assumption) | exact cells_agg _ rfl) (by rfl) ?_) | (refine ev_storeAllC rfl hL rfl rfl rfl (by first | exact CellsC.of | exact cells_one (by assumption) (by assumption) | exact cells_agg _ rfl) (by rfl) (by rfl) ?_)); clear hL; intro wq hL) | ((with_reducible refine gLoadG rfl rfl ?_ ?_); (exact wanted_some rfl rfl rfl (by with_reducible rfl)); (first | (refine ev_load1G (wanted_some rfl rfl rfl rfl) hL rfl rfl HasV.mem (by rfl) ?_) | (refine ev_loadAllG (wanted_some rfl rfl rfl rfl) hL rfl rfl HasV.mem (by rfl) ?_) | (refine ev_loadG_ (wanted_some rfl rfl rfl rfl) hL rfl rfl HasV.mem SegC.seg ?_))))
      go_loopw [8, 23] (fun b i wr => ∃ (j : Nat), j ≤ ns.length ∧ b = .bool ((ns.take j).any (fun n => decide (n.s.hd.id = id))) ∧ i = .int .i64 j ∧ Loc w NoM wr [var g7 [.int .i64 qa.boot, .int .i64 qa.n, .int .i64 qv, .int .i64 qk.a0, .int .i64 qk.a1, .int .i64 qk.a2, .int .i64 qk.a3, .int .i64 qk.a4, .int .i64 qk.a5, .int .i64 qk.a6, .int .i64 qk.a7, .int .i64 qs.a0, .int .i64 qs.a1, .int .i64 qs.a2, .int .i64 qs.a3, .int .i64 qs.a4, .int .i64 qs.a5, .int .i64 qs.a6, .int .i64 qs.a7, .slice an ns.length cn, .slice al ls.length cl] 31, var g3 [.int .i64 id.boot, .int .i64 id.n] 23, row encEp w.heap.size 31 u5 L]) (fun _ i _ => ns.length - (intOf i).toNat)
      case atStart => exact ⟨0, by omega, by simp, rfl, hL.sub (by repeat (first | exact List.nil_sublist _ | with_reducible apply List.Sublist.cons_cons | with_reducible apply List.Sublist.cons))⟩
      case round =>
        clear hL hrW
        obtain ⟨j, hj, rfl, rfl, hL⟩ := hrel
        by_cases hlj : j < ns.length
        · obtain ⟨g2, off2, rfl, hrx⟩ := heln j hlj
          have hrX : World.rangeAt _ g2 (off2 + j * encN.sz) (Ino.cells ns[j].s) := range_below hrx hL.below
          clear hrx
          obtain ⟨r0, h0⟩ : ∃ r, (ns.take j).any (fun n => decide (n.s.hd.id = id)) = r := ⟨_, rfl⟩
          obtain ⟨r1, h1⟩ : ∃ r, decide (ns[j].s.hd.id = id) = r := ⟨_, rfl⟩
          have HS := Lib.hid (any_succ (fun n : Nd => decide (n.s.hd.id = id)) ns j hlj h0 h1)
          have hE := stamp_eql ns[j].s.hd.id id h1
          rw [h0]
          clear h0 h1
          generalize ns[j] = x at *
          unfold Ino.cells at hrX
          have hj9 : decide ((j : Int) < (ns.length : Int)) = true := (by first | (simp; done) | (simp; omega))
          cases r0
          · rw [Bool.false_or] at HS

            go_wp2_with (first
              | ((with_reducible refine gIndex rfl rfl ?_); refine ev_indexL rfl rfl rfl rfl hlj ?_)
              | ((with_reducible refine gate (N := 26) rfl ?_); refine ev_loadR rfl rfl rfl hrX (by rfl) ?_)
              | ((with_reducible refine gAlloc rfl rfl ?_); (refine ev_allocL rfl hL rfl (by first | exact CellsC.of | exact cells_one (by assumption) (by assumption) | exact cells_agg _ rfl) ?_; clear hL; intro gq wq hL)) | ((with_reducible refine gBox rfl rfl ?_); (refine ev_boxL rfl hL rfl rfl (by first | exact CellsC.of | exact cells_one (by assumption) (by assumption) | exact cells_agg _ rfl) ?_; clear hL; intro gq wq hL)) | ((with_reducible refine gLoad rfl rfl ?_); (first | (refine ev_load1L rfl hL rfl rfl HasV.mem (by rfl) ?_) | (refine ev_loadAllL rfl hL rfl rfl HasV.mem (by rfl) ?_) | (refine ev_loadL rfl hL rfl rfl HasV.mem SegC.seg ?_))) | ((with_reducible refine gStore rfl rfl ?_); (first | (refine ev_storeC rfl hL rfl rfl rfl (by first | exact CellsC.of | exact cells_one (by assumption) (by assumption) | exact cells_agg _ rfl) (by rfl) ?_) | (refine ev_storeAllC rfl hL rfl rfl rfl (by first | exact CellsC.of | exact cells_one (by assumption) (by assumption) | exact cells_agg _ rfl) (by rfl) (by rfl) ?_)); clear hL; intro wq hL) | ((with_reducible refine gLoadG rfl rfl ?_ ?_); (exact wanted_some rfl rfl rfl (by with_reducible rfl)); (first | (refine ev_load1G (wanted_some rfl rfl rfl rfl) hL rfl rfl HasV.mem (by rfl) ?_) | (refine ev_loadAllG (wanted_some rfl rfl rfl rfl) hL rfl rfl HasV.mem (by rfl) ?_) | (refine ev_loadG_ (wanted_some rfl rfl rfl rfl) hL rfl rfl HasV.mem SegC.seg ?_))))
            go_roundw
            case rel => exact ⟨j + 1, by omega, by rw [HS.out], by go_num, hL.sub (by repeat (first | exact List.nil_sublist _ | with_reducible apply List.Sublist.cons_cons | with_reducible apply List.Sublist.cons))⟩
            case measure => simp [intOf]; omega
          · rw [Bool.true_or] at HS
            clear hE
            go_wp2_with (first
              | ((with_reducible refine gIndex rfl rfl ?_); refine ev_indexL rfl rfl rfl rfl hlj ?_)
              | ((with_reducible refine gate (N := 26) rfl ?_); refine ev_loadR rfl rfl rfl hrX (by rfl) ?_)
              | ((with_reducible refine gAlloc rfl rfl ?_); (refine ev_allocL rfl hL rfl (by first | exact CellsC.of | exact cells_one (by assumption) (by assumption) | exact cells_agg _ rfl) ?_; clear hL; intro gq wq hL)) | ((with_reducible refine gBox rfl rfl ?_); (refine ev_boxL rfl hL rfl rfl (by first | exact CellsC.of | exact cells_one (by assumption) (by assumption) | exact cells_agg _ rfl) ?_; clear hL; intro gq wq hL)) | ((with_reducible refine gLoad rfl rfl ?_); (first | (refine ev_load1L rfl hL rfl rfl HasV.mem (by rfl) ?_) | (refine ev_loadAllL rfl hL rfl rfl HasV.mem (by rfl) ?_) | (refine ev_loadL rfl hL rfl rfl HasV.mem SegC.seg ?_))) | ((with_reducible refine gStore rfl rfl ?_); (first | (refine ev_storeC rfl hL rfl rfl rfl (by first | exact CellsC.of | exact cells_one (by assumption) (by assumption) | exact cells_agg _ rfl) (by rfl) ?_) | (refine ev_storeAllC rfl hL rfl rfl rfl (by first | exact CellsC.of | exact cells_one (by assumption) (by assumption) | exact cells_agg _ rfl) (by rfl) (by rfl) ?_)); clear hL; intro wq hL) | ((with_reducible refine gLoadG rfl rfl ?_ ?_); (exact wanted_some rfl rfl rfl (by with_reducible rfl)); (first | (refine ev_load1G (wanted_some rfl rfl rfl rfl) hL rfl rfl HasV.mem (by rfl) ?_) | (refine ev_loadAllG (wanted_some rfl rfl rfl rfl) hL rfl rfl HasV.mem (by rfl) ?_) | (refine ev_loadG_ (wanted_some rfl rfl rfl rfl) hL rfl rfl HasV.mem SegC.seg ?_))))
            go_roundw
            case rel => exact ⟨j + 1, by omega, by rw [HS.out], by go_num, hL.sub (by repeat (first | exact List.nil_sublist _ | with_reducible apply List.Sublist.cons_cons | with_reducible apply List.Sublist.cons))⟩
            case measure => simp [intOf]; omega

        · obtain rfl : j = ns.length := by omega
          rw [show ns.take ns.length = ns from List.take_length]
          obtain ⟨rN, hrN⟩ : ∃ r, ns.any (fun n => decide (n.s.hd.id = id)) = r := ⟨_, rfl⟩
          rw [hrN] at HA
          rw [hrN]
          clear hrN hj hlj
          go_wp2_with (first | ((with_reducible refine gAlloc rfl rfl ?_); (refine ev_allocL rfl hL rfl (by first | exact CellsC.of | exact cells_one (by assumption) (by assumption) | exact cells_agg _ rfl) ?_; clear hL; intro gq wq hL)) | ((with_reducible refine gBox rfl rfl ?_); (refine ev_boxL rfl hL rfl rfl (by first | exact CellsC.of | exact cells_one (by assumption) (by assumption) | exact cells_agg _ rfl) ?_; clear hL; intro gq wq hL)) | ((with_reducible refine gLoad rfl rfl ?_); (first | (refine ev_load1L rfl hL rfl rfl HasV.mem (by rfl) ?_) | (refine ev_loadAllL rfl hL rfl rfl HasV.mem (by rfl) ?_) | (refine ev_loadL rfl hL rfl rfl HasV.mem SegC.seg ?_))) | ((with_reducible refine gStore rfl rfl ?_); (first | (refine ev_storeC rfl hL rfl rfl rfl (by first | exact CellsC.of | exact cells_one (by assumption) (by assumption) | exact cells_agg _ rfl) (by rfl) ?_) | (refine ev_storeAllC rfl hL rfl rfl rfl (by first | exact CellsC.of | exact cells_one (by assumption) (by assumption) | exact cells_agg _ rfl) (by rfl) (by rfl) ?_)); clear hL; intro wq hL) | ((with_reducible refine gLoadG rfl rfl ?_ ?_); (exact wanted_some rfl rfl rfl (by with_reducible rfl)); (first | (refine ev_load1G (wanted_some rfl rfl rfl rfl) hL rfl rfl HasV.mem (by rfl) ?_) | (refine ev_loadAllG (wanted_some rfl rfl rfl rfl) hL rfl rfl HasV.mem (by rfl) ?_) | (refine ev_loadG_ (wanted_some rfl rfl rfl rfl) hL rfl rfl HasV.mem SegC.seg ?_))))
          go_loopw [8, 39] (fun b i wr => ∃ (j : Nat), j ≤ ls.length ∧ b = .bool (rN || (ls.take j).any (Lnk.about id)) ∧ i = .int .i64 j ∧ Loc w NoM wr [var g7 [.int .i64 qa.boot, .int .i64 qa.n, .int .i64 qv, .int .i64 qk.a0, .int .i64 qk.a1, .int .i64 qk.a2, .int .i64 qk.a3, .int .i64 qk.a4, .int .i64 qk.a5, .int .i64 qk.a6, .int .i64 qk.a7, .int .i64 qs.a0, .int .i64 qs.a1, .int .i64 qs.a2, .int .i64 qs.a3, .int .i64 qs.a4, .int .i64 qs.a5, .int .i64 qs.a6, .int .i64 qs.a7, .slice an ns.length cn, .slice al ls.length cl] 31, var g3 [.int .i64 id.boot, .int .i64 id.n] 23, row encEp w.heap.size 31 u5 L]) (fun _ i _ => ls.length - (intOf i).toNat)
          case atStart => exact ⟨0, by omega, by simp, rfl, hL.sub (by repeat (first | exact List.nil_sublist _ | with_reducible apply List.Sublist.cons_cons | with_reducible apply List.Sublist.cons))⟩
          case round =>
            clear hL
            obtain ⟨j, hj, rfl, rfl, hL⟩ := hrel
            by_cases hlj : j < ls.length
            · obtain ⟨g2, off2, rfl, hrx⟩ := hell j hlj
              have hrX : World.rangeAt _ g2 (off2 + j * encK.sz) (Lnk.cells ls[j]) := range_below hrx hL.below
              clear hrx
              obtain ⟨r0, h0⟩ : ∃ r, (ls.take j).any (Lnk.about id) = r := ⟨_, rfl⟩
              obtain ⟨r1, h1⟩ : ∃ r, decide (ls[j].id = id) = r := ⟨_, rfl⟩
              obtain ⟨r2, h2⟩ : ∃ r, decide (ls[j].node = id) = r := ⟨_, rfl⟩
              have h3 := stamp_nz ls[j].at_
              obtain ⟨r3, h4⟩ : ∃ r, decide (ls[j].at_ = Mk.zero) = r := ⟨_, rfl⟩
              have HS := Lib.hid (any_succ (Lnk.about id) ls j hlj h0 (r1 := r1 || (r2 && !r3)) (by unfold Lnk.about; rw [h1, h2, h4]))
              have hE := stamp_eql ls[j].id id h1
              have hE2 := stamp_eql ls[j].node id h2
              rw [h0]
              rw [h4] at h3
              clear h0 h1 h2 h4
              generalize ls[j] = x at *
              unfold Lnk.cells at hrX
              obtain ⟨r5, h5⟩ : ∃ r, (rN || r0) = r := ⟨_, rfl⟩
              replace HS := Lib.hid (show (rN || (ls.take (j + 1)).any (Lnk.about id)) = (r5 || (r1 || (r2 && !r3))) by rw [HS.out, ← h5, Bool.or_assoc])
              rw [h5]
              clear h5
              have hj9 : decide ((j : Int) < (ls.length : Int)) = true := (by first | (simp; done) | (simp; omega))
              cases r5
              · rw [Bool.false_or] at HS
                cases r1
                · rw [Bool.false_or] at HS
                  cases r2
                  · rw [Bool.false_and] at HS

                    go_wp2_with (first
                      | ((with_reducible refine gIndex rfl rfl ?_); refine ev_indexL rfl rfl rfl rfl hlj ?_)
                      | ((with_reducible refine gate (N := 42) rfl ?_); refine ev_loadR rfl rfl rfl hrX (by rfl) ?_)
                      | ((with_reducible refine gAlloc rfl rfl ?_); (refine ev_allocL rfl hL rfl (by first | exact CellsC.of | exact cells_one (by assumption) (by assumption) | exact cells_agg _ rfl) ?_; clear hL; intro gq wq hL)) | ((with_reducible refine gBox rfl rfl ?_); (refine ev_boxL rfl hL rfl rfl (by first | exact CellsC.of | exact cells_one (by assumption) (by assumption) | exact cells_agg _ rfl) ?_; clear hL; intro gq wq hL)) | ((with_reducible refine gLoad rfl rfl ?_); (first | (refine ev_load1L rfl hL rfl rfl HasV.mem (by rfl) ?_) | (refine ev_loadAllL rfl hL rfl rfl HasV.mem (by rfl) ?_) | (refine ev_loadL rfl hL rfl rfl HasV.mem SegC.seg ?_))) | ((with_reducible refine gStore rfl rfl ?_); (first | (refine ev_storeC rfl hL rfl rfl rfl (by first | exact CellsC.of | exact cells_one (by assumption) (by assumption) | exact cells_agg _ rfl) (by rfl) ?_) | (refine ev_storeAllC rfl hL rfl rfl rfl (by first | exact CellsC.of | exact cells_one (by assumption) (by assumption) | exact cells_agg _ rfl) (by rfl) (by rfl) ?_)); clear hL; intro wq hL) | ((with_reducible refine gLoadG rfl rfl ?_ ?_); (exact wanted_some rfl rfl rfl (by with_reducible rfl)); (first | (refine ev_load1G (wanted_some rfl rfl rfl rfl) hL rfl rfl HasV.mem (by rfl) ?_) | (refine ev_loadAllG (wanted_some rfl rfl rfl rfl) hL rfl rfl HasV.mem (by rfl) ?_) | (refine ev_loadG_ (wanted_some rfl rfl rfl rfl) hL rfl rfl HasV.mem SegC.seg ?_))))
                    go_roundw
                    case rel => exact ⟨j + 1, by omega, by rw [HS.out], by go_num, hL.sub (by repeat (first | exact List.nil_sublist _ | with_reducible apply List.Sublist.cons_cons | with_reducible apply List.Sublist.cons))⟩
                    case measure => simp [intOf]; omega
                  · rw [Bool.true_and] at HS
                    go_wp2_with (first
                      | ((with_reducible refine gIndex rfl rfl ?_); refine ev_indexL rfl rfl rfl rfl hlj ?_)
                      | ((with_reducible refine gate (N := 42) rfl ?_); refine ev_loadR rfl rfl rfl hrX (by rfl) ?_)
                      | ((with_reducible refine gAlloc rfl rfl ?_); (refine ev_allocL rfl hL rfl (by first | exact CellsC.of | exact cells_one (by assumption) (by assumption) | exact cells_agg _ rfl) ?_; clear hL; intro gq wq hL)) | ((with_reducible refine gBox rfl rfl ?_); (refine ev_boxL rfl hL rfl rfl (by first | exact CellsC.of | exact cells_one (by assumption) (by assumption) | exact cells_agg _ rfl) ?_; clear hL; intro gq wq hL)) | ((with_reducible refine gLoad rfl rfl ?_); (first | (refine ev_load1L rfl hL rfl rfl HasV.mem (by rfl) ?_) | (refine ev_loadAllL rfl hL rfl rfl HasV.mem (by rfl) ?_) | (refine ev_loadL rfl hL rfl rfl HasV.mem SegC.seg ?_))) | ((with_reducible refine gStore rfl rfl ?_); (first | (refine ev_storeC rfl hL rfl rfl rfl (by first | exact CellsC.of | exact cells_one (by assumption) (by assumption) | exact cells_agg _ rfl) (by rfl) ?_) | (refine ev_storeAllC rfl hL rfl rfl rfl (by first | exact CellsC.of | exact cells_one (by assumption) (by assumption) | exact cells_agg _ rfl) (by rfl) (by rfl) ?_)); clear hL; intro wq hL) | ((with_reducible refine gLoadG rfl rfl ?_ ?_); (exact wanted_some rfl rfl rfl (by with_reducible rfl)); (first | (refine ev_load1G (wanted_some rfl rfl rfl rfl) hL rfl rfl HasV.mem (by rfl) ?_) | (refine ev_loadAllG (wanted_some rfl rfl rfl rfl) hL rfl rfl HasV.mem (by rfl) ?_) | (refine ev_loadG_ (wanted_some rfl rfl rfl rfl) hL rfl rfl HasV.mem SegC.seg ?_))))
                    go_roundw
                    case rel => exact ⟨j + 1, by omega, by rw [HS.out], by go_num, hL.sub (by repeat (first | exact List.nil_sublist _ | with_reducible apply List.Sublist.cons_cons | with_reducible apply List.Sublist.cons))⟩
                    case measure => simp [intOf]; omega
                · rw [Bool.true_or] at HS
                  go_wp2_with (first
                    | ((with_reducible refine gIndex rfl rfl ?_); refine ev_indexL rfl rfl rfl rfl hlj ?_)
                    | ((with_reducible refine gate (N := 42) rfl ?_); refine ev_loadR rfl rfl rfl hrX (by rfl) ?_)
                    | ((with_reducible refine gAlloc rfl rfl ?_); (refine ev_allocL rfl hL rfl (by first | exact CellsC.of | exact cells_one (by assumption) (by assumption) | exact cells_agg _ rfl) ?_; clear hL; intro gq wq hL)) | ((with_reducible refine gBox rfl rfl ?_); (refine ev_boxL rfl hL rfl rfl (by first | exact CellsC.of | exact cells_one (by assumption) (by assumption) | exact cells_agg _ rfl) ?_; clear hL; intro gq wq hL)) | ((with_reducible refine gLoad rfl rfl ?_); (first | (refine ev_load1L rfl hL rfl rfl HasV.mem (by rfl) ?_) | (refine ev_loadAllL rfl hL rfl rfl HasV.mem (by rfl) ?_) | (refine ev_loadL rfl hL rfl rfl HasV.mem SegC.seg ?_))) | ((with_reducible refine gStore rfl rfl ?_); (first | (refine ev_storeC rfl hL rfl rfl rfl (by first | exact CellsC.of | exact cells_one (by assumption) (by assumption) | exact cells_agg _ rfl) (by rfl) ?_) | (refine ev_storeAllC rfl hL rfl rfl rfl (by first | exact CellsC.of | exact cells_one (by assumption) (by assumption) | exact cells_agg _ rfl) (by rfl) (by rfl) ?_)); clear hL; intro wq hL) | ((with_reducible refine gLoadG rfl rfl ?_ ?_); (exact wanted_some rfl rfl rfl (by with_reducible rfl)); (first | (refine ev_load1G (wanted_some rfl rfl rfl rfl) hL rfl rfl HasV.mem (by rfl) ?_) | (refine ev_loadAllG (wanted_some rfl rfl rfl rfl) hL rfl rfl HasV.mem (by rfl) ?_) | (refine ev_loadG_ (wanted_some rfl rfl rfl rfl) hL rfl rfl HasV.mem SegC.seg ?_))))
                  go_roundw
                  case rel => exact ⟨j + 1, by omega, by rw [HS.out], by go_num, hL.sub (by repeat (first | exact List.nil_sublist _ | with_reducible apply List.Sublist.cons_cons | with_reducible apply List.Sublist.cons))⟩
                  case measure => simp [intOf]; omega
              · rw [Bool.true_or] at HS
                go_wp2_with (first
                  | ((with_reducible refine gIndex rfl rfl ?_); refine ev_indexL rfl rfl rfl rfl hlj ?_)
                  | ((with_reducible refine gate (N := 42) rfl ?_); refine ev_loadR rfl rfl rfl hrX (by rfl) ?_)
                  | ((with_reducible refine gAlloc rfl rfl ?_); (refine ev_allocL rfl hL rfl (by first | exact CellsC.of | exact cells_one (by assumption) (by assumption) | exact cells_agg _ rfl) ?_; clear hL; intro gq wq hL)) | ((with_reducible refine gBox rfl rfl ?_); (refine ev_boxL rfl hL rfl rfl (by first | exact CellsC.of | exact cells_one (by assumption) (by assumption) | exact cells_agg _ rfl) ?_; clear hL; intro gq wq hL)) | ((with_reducible refine gLoad rfl rfl ?_); (first | (refine ev_load1L rfl hL rfl rfl HasV.mem (by rfl) ?_) | (refine ev_loadAllL rfl hL rfl rfl HasV.mem (by rfl) ?_) | (refine ev_loadL rfl hL rfl rfl HasV.mem SegC.seg ?_))) | ((with_reducible refine gStore rfl rfl ?_); (first | (refine ev_storeC rfl hL rfl rfl rfl (by first | exact CellsC.of | exact cells_one (by assumption) (by assumption) | exact cells_agg _ rfl) (by rfl) ?_) | (refine ev_storeAllC rfl hL rfl rfl rfl (by first | exact CellsC.of | exact cells_one (by assumption) (by assumption) | exact cells_agg _ rfl) (by rfl) (by rfl) ?_)); clear hL; intro wq hL) | ((with_reducible refine gLoadG rfl rfl ?_ ?_); (exact wanted_some rfl rfl rfl (by with_reducible rfl)); (first | (refine ev_load1G (wanted_some rfl rfl rfl rfl) hL rfl rfl HasV.mem (by rfl) ?_) | (refine ev_loadAllG (wanted_some rfl rfl rfl rfl) hL rfl rfl HasV.mem (by rfl) ?_) | (refine ev_loadG_ (wanted_some rfl rfl rfl rfl) hL rfl rfl HasV.mem SegC.seg ?_))))
                go_roundw
                case rel => exact ⟨j + 1, by omega, by rw [HS.out], by go_num, hL.sub (by repeat (first | exact List.nil_sublist _ | with_reducible apply List.Sublist.cons_cons | with_reducible apply List.Sublist.cons))⟩
                case measure => simp [intOf]; omega

            · obtain rfl : j = ls.length := by omega
              rw [show ls.take ls.length = ls from List.take_length]
              obtain ⟨rL, hrL⟩ : ∃ r, (rN || ls.any (Lnk.about id)) = r := ⟨_, rfl⟩
              rw [hrL] at HA
              rw [hrL]
              clear hrL hj hlj
              rw [HA.out] at HT
              cases rL
              · have HT2 := Lib.hid (HT.out.trans (List.append_nil L))
                clear HT
                go_wp2_with (first | ((with_reducible refine gAlloc rfl rfl ?_); (refine ev_allocL rfl hL rfl (by first | exact CellsC.of | exact cells_one (by assumption) (by assumption) | exact cells_agg _ rfl) ?_; clear hL; intro gq wq hL)) | ((with_reducible refine gBox rfl rfl ?_); (refine ev_boxL rfl hL rfl rfl (by first | exact CellsC.of | exact cells_one (by assumption) (by assumption) | exact cells_agg _ rfl) ?_; clear hL; intro gq wq hL)) | ((with_reducible refine gLoad rfl rfl ?_); (first | (refine ev_load1L rfl hL rfl rfl HasV.mem (by rfl) ?_) | (refine ev_loadAllL rfl hL rfl rfl HasV.mem (by rfl) ?_) | (refine ev_loadL rfl hL rfl rfl HasV.mem SegC.seg ?_))) | ((with_reducible refine gStore rfl rfl ?_); (first | (refine ev_storeC rfl hL rfl rfl rfl (by first | exact CellsC.of | exact cells_one (by assumption) (by assumption) | exact cells_agg _ rfl) (by rfl) ?_) | (refine ev_storeAllC rfl hL rfl rfl rfl (by first | exact CellsC.of | exact cells_one (by assumption) (by assumption) | exact cells_agg _ rfl) (by rfl) (by rfl) ?_)); clear hL; intro wq hL) | ((with_reducible refine gLoadG rfl rfl ?_ ?_); (exact wanted_some rfl rfl rfl (by with_reducible rfl)); (first | (refine ev_load1G (wanted_some rfl rfl rfl rfl) hL rfl rfl HasV.mem (by rfl) ?_) | (refine ev_loadAllG (wanted_some rfl rfl rfl rfl) hL rfl rfl HasV.mem (by rfl) ?_) | (refine ev_loadG_ (wanted_some rfl rfl rfl rfl) hL rfl rfl HasV.mem SegC.seg ?_))))
                go_roundw
                case rel => exact ⟨k + 1, _, by omega, by go_num, rfl, by rw [HT2.out]; exact hL.sub (by repeat (first | exact List.nil_sublist _ | with_reducible apply List.Sublist.cons_cons | with_reducible apply List.Sublist.cons))⟩
                case measure => simp [intOf]; omega
              · have HT2 : Hid ((ps.take (k + 1)).filter (fun p => p.d.about id) = L ++ [q]) := HT
                clear HT
                go_wp2_with (first
                  | ((with_reducible refine gAlloc rfl rfl ?_); (refine ev_allocL rfl hL rfl (by first | exact CellsC.of | exact cells_one (by assumption) (by assumption) | exact cells_agg _ rfl) ?_; clear hL; intro gq wq hL)) | ((with_reducible refine gBox rfl rfl ?_); (refine ev_boxL rfl hL rfl rfl (by first | exact CellsC.of | exact cells_one (by assumption) (by assumption) | exact cells_agg _ rfl) ?_; clear hL; intro gq wq hL)) | ((with_reducible refine gLoad rfl rfl ?_); (first | (refine ev_load1L rfl hL rfl rfl HasV.mem (by rfl) ?_) | (refine ev_loadAllL rfl hL rfl rfl HasV.mem (by rfl) ?_) | (refine ev_loadL rfl hL rfl rfl HasV.mem SegC.seg ?_))) | ((with_reducible refine gStore rfl rfl ?_); (first | (refine ev_storeC rfl hL rfl rfl rfl (by first | exact CellsC.of | exact cells_one (by assumption) (by assumption) | exact cells_agg _ rfl) (by rfl) ?_) | (refine ev_storeAllC rfl hL rfl rfl rfl (by first | exact CellsC.of | exact cells_one (by assumption) (by assumption) | exact cells_agg _ rfl) (by rfl) (by rfl) ?_)); clear hL; intro wq hL) | ((with_reducible refine gLoadG rfl rfl ?_ ?_); (exact wanted_some rfl rfl rfl (by with_reducible rfl)); (first | (refine ev_load1G (wanted_some rfl rfl rfl rfl) hL rfl rfl HasV.mem (by rfl) ?_) | (refine ev_loadAllG (wanted_some rfl rfl rfl rfl) hL rfl rfl HasV.mem (by rfl) ?_) | (refine ev_loadG_ (wanted_some rfl rfl rfl rfl) hL rfl rfl HasV.mem SegC.seg ?_)))
                  | ((with_reducible refine gLit rfl rfl ?_); refine ev_litL (cs := [.int .i64 qa.boot, .int .i64 qa.n, .int .i64 qv, .int .i64 qk.a0, .int .i64 qk.a1, .int .i64 qk.a2, .int .i64 qk.a3, .int .i64 qk.a4, .int .i64 qk.a5, .int .i64 qk.a6, .int .i64 qk.a7, .int .i64 qs.a0, .int .i64 qs.a1, .int .i64 qs.a2, .int .i64 qs.a3, .int .i64 qs.a4, .int .i64 qs.a5, .int .i64 qs.a6, .int .i64 qs.a7, .slice an ns.length cn, .slice al ls.length cl]) rfl hL rfl rfl rfl (by kernel_rfl) ?_; clear hL; intro gq wq hL; rw [← HQ.out] at hL)
                  | (at_builtin; refine ev_app1L (E := encEp) q rfl hL rfl rfl rfl (by first | exact mm0 | exact mm1 | exact mm2 | exact mm3 | exact mm4 | exact mm5 | exact mm6 | exact mm7 | exact mm8) (by first | exact fun _ => ss0 | exact fun _ => ss1 | exact fun _ => ss2 | exact fun _ => ss3 | exact fun _ => ss4 | exact fun _ => ss5 | exact fun _ => ss6) rfl rfl rfl (by omega) hL.size ?_; clear hL; intro ao' c' wq hL))
                go_roundw
                case rel => exact ⟨k + 1, _, by omega, by go_num, rfl, by rw [HT2.out]; exact hL.sub (by repeat (first | exact List.nil_sublist _ | with_reducible apply List.Sublist.cons_cons | with_reducible apply List.Sublist.cons))⟩
                case measure => simp [intOf]; omega
    · obtain rfl : k = ps.length := by omega
      have HT0 := Lib.hid (show ps.take ps.length = ps from List.take_length)
      rw [HT0.out] at hL
      go_wp2_with (first | ((with_reducible refine gAlloc rfl rfl ?_); (refine ev_allocL rfl hL rfl (by first | exact CellsC.of | exact cells_one (by assumption) (by assumption) | exact cells_agg _ rfl) ?_; clear hL; intro gq wq hL)) | ((with_reducible refine gBox rfl rfl ?_); (refine ev_boxL rfl hL rfl rfl (by first | exact CellsC.of | exact cells_one (by assumption) (by assumption) | exact cells_agg _ rfl) ?_; clear hL; intro gq wq hL)) | ((with_reducible refine gLoad rfl rfl ?_); (first | (refine ev_load1L rfl hL rfl rfl HasV.mem (by rfl) ?_) | (refine ev_loadAllL rfl hL rfl rfl HasV.mem (by rfl) ?_) | (refine ev_loadL rfl hL rfl rfl HasV.mem SegC.seg ?_))) | ((with_reducible refine gStore rfl rfl ?_); (first | (refine ev_storeC rfl hL rfl rfl rfl (by first | exact CellsC.of | exact cells_one (by assumption) (by assumption) | exact cells_agg _ rfl) (by rfl) ?_) | (refine ev_storeAllC rfl hL rfl rfl rfl (by first | exact CellsC.of | exact cells_one (by assumption) (by assumption) | exact cells_agg _ rfl) (by rfl) (by rfl) ?_)); clear hL; intro wq hL) | ((with_reducible refine gLoadG rfl rfl ?_ ?_); (exact wanted_some rfl rfl rfl (by with_reducible rfl)); (first | (refine ev_load1G (wanted_some rfl rfl rfl rfl) hL rfl rfl HasV.mem (by rfl) ?_) | (refine ev_loadAllG (wanted_some rfl rfl rfl rfl) hL rfl rfl HasV.mem (by rfl) ?_) | (refine ev_loadG_ (wanted_some rfl rfl rfl rfl) hL rfl rfl HasV.mem SegC.seg ?_))))
      go_ret
      exact ⟨_, rfl, hL.drop⟩
end Go.Proofs.YtebpacmhdkgfeaaDoor
