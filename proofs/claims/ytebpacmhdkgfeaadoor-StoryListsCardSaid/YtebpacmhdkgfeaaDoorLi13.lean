/- Texts laid together: ApaR, Cnt, Held. -/
import Derived.Test.YtebpacmhdkgfeaaDoorLi12
import Derived.OrdersHeld
/- Chapter 29: crannog/crannogref29.Apart, walked. -/
namespace Go.Proofs.YtebpacmhdkgfeaaDoor
open Go.RowKit
set_option maxHeartbeats 4000000
set_option maxRecDepth 100000 in
theorem ref29_apart (v : Value) (ps : List Ep) (w : World) (h : encEp.R w v ps) (hn : ps.length ≤ 1000) :
    Calls Tryd.prog 20 #[v] w fun e w' => ∃ u, e = .returned u ∧ Loc w NoM w' [row encPr w.heap.size 47 u (aplist ps ps.length)] := by
  have hL := (Loc.nil w NoM).rowOff encPr w.heap.size 47
  have hcap : ∀ a c, v = .slice a ps.length c → ps.length ≤ c := fun a c e => by
    obtain ⟨_, _, c8, e8, hc8, _⟩ := h
    rw [e8] at e
    injection e with e1 e2 e3
    omega
  obtain ⟨ao, c, rfl, hel⟩ := R_elem h
  replace hcap := hcap ao c rfl
  clear h
  go_enter Tryd.func20, Tryd.ntmps20
  go_wp2_with (first | ((with_reducible refine gAlloc rfl rfl ?_); (refine ev_allocL rfl hL rfl (by first | exact CellsC.of | exact cells_one (by assumption) (by assumption) | exact cells_agg _ rfl) ?_; clear hL; intro gq wq hL)) | ((with_reducible refine gBox rfl rfl ?_); (refine ev_boxL rfl hL rfl rfl (by first | exact CellsC.of | exact cells_one (by assumption) (by assumption) | exact cells_agg _ rfl) ?_; clear hL; intro gq wq hL)) | ((with_reducible refine gLoad rfl rfl ?_); (first | (refine ev_load1L rfl hL rfl rfl HasV.mem (by rfl) ?_) | (refine ev_loadAllL rfl hL rfl rfl HasV.mem (by rfl) ?_) | (refine ev_loadL rfl hL rfl rfl HasV.mem SegC.seg ?_))) | ((with_reducible refine gStore rfl rfl ?_); (first | (refine ev_storeC rfl hL rfl rfl rfl (by first | exact CellsC.of | exact cells_one (by assumption) (by assumption) | exact cells_agg _ rfl) (by rfl) ?_) | (refine ev_storeAllC rfl hL rfl rfl rfl (by first | exact CellsC.of | exact cells_one (by assumption) (by assumption) | exact cells_agg _ rfl) (by rfl) (by rfl) ?_)); clear hL; intro wq hL) | ((with_reducible refine gLoadG rfl rfl ?_ ?_); (exact wanted_some rfl rfl rfl (by with_reducible rfl)); (first | (refine ev_load1G (wanted_some rfl rfl rfl rfl) hL rfl rfl HasV.mem (by rfl) ?_) | (refine ev_loadAllG (wanted_some rfl rfl rfl rfl) hL rfl rfl HasV.mem (by rfl) ?_) | (refine ev_loadG_ (wanted_some rfl rfl rfl rfl) hL rfl rfl HasV.mem SegC.seg ?_))))
  go_loopw [3, 10] (fun s i wr => ∃ (k : Nat) (vs : Value), k ≤ ps.length ∧ i = .int .i64 k ∧ s = vs ∧ Loc w NoM wr [row encPr w.heap.size 47 vs (aplist ps k)]) (fun _ i _ => ps.length - (intOf i).toNat)
  case atStart => exact ⟨0, _, by omega, rfl, rfl, hL⟩
  case round =>
    clear hL
    obtain ⟨i, vs, hk, rfl, rfl, hL⟩ := hrel
    by_cases hlt : i < ps.length
    · obtain ⟨g, off, rfl, hr⟩ := hel i hlt
      have hrW : World.rangeAt _ g (off + i * 21) (Evt.cells ps[i].e) := range_below hr hL.below
      clear hr
      have HT := Lib.hid (aplist_succ (List.getElem?_eq_getElem hlt))
      have hln : (aplist ps i).length ≤ 1000000 := by have := aplist_len ps i (by omega); omega
      obtain ⟨a, ha⟩ : ∃ a, a = ps[i] := ⟨_, rfl⟩
      rw [← ha] at HT hrW
      clear ha
      unfold Evt.cells at hrW
      obtain ⟨L, hLL⟩ : ∃ L, L = aplist ps i := ⟨_, rfl⟩
      rw [← hLL] at hL hln HT
      clear hLL
      have hr1 : (i : Int) ≤ (ps.length : Int) := by omega
      have hr2 : (ps.length : Int) ≤ (c : Int) := by omega
      have hr3 : (i : Int) ≤ (c : Int) := by omega
      have hr0 : (0 : Int) ≤ (i : Int) := by omega
      go_wp2_with (first | ((with_reducible refine gIndex rfl rfl ?_); refine ev_indexL rfl rfl rfl rfl hlt ?_) | ((with_reducible refine gate (N := 14) rfl ?_); refine ev_loadR rfl rfl rfl hrW (by rfl) ?_) | ((with_reducible refine gate (N := 5) rfl ?_); (refine ev_allocL rfl hL rfl (by first | exact CellsC.of | exact cells_one (by assumption) (by assumption) | exact cells_agg _ rfl) ?_; clear hL; intro g5 w5 hL)) | ((with_reducible refine gAlloc rfl rfl ?_); (refine ev_allocL rfl hL rfl (by first | exact CellsC.of | exact cells_one (by assumption) (by assumption) | exact cells_agg _ rfl) ?_; clear hL; intro gq wq hL)) | ((with_reducible refine gBox rfl rfl ?_); (refine ev_boxL rfl hL rfl rfl (by first | exact CellsC.of | exact cells_one (by assumption) (by assumption) | exact cells_agg _ rfl) ?_; clear hL; intro gq wq hL)) | ((with_reducible refine gLoad rfl rfl ?_); (first | (refine ev_load1L rfl hL rfl rfl HasV.mem (by rfl) ?_) | (refine ev_loadAllL rfl hL rfl rfl HasV.mem (by rfl) ?_) | (refine ev_loadL rfl hL rfl rfl HasV.mem SegC.seg ?_))) | ((with_reducible refine gStore rfl rfl ?_); (first | (refine ev_storeC rfl hL rfl rfl rfl (by first | exact CellsC.of | exact cells_one (by assumption) (by assumption) | exact cells_agg _ rfl) (by rfl) ?_) | (refine ev_storeAllC rfl hL rfl rfl rfl (by first | exact CellsC.of | exact cells_one (by assumption) (by assumption) | exact cells_agg _ rfl) (by rfl) (by rfl) ?_)); clear hL; intro wq hL) | ((with_reducible refine gLoadG rfl rfl ?_ ?_); (exact wanted_some rfl rfl rfl (by with_reducible rfl)); (first | (refine ev_load1G (wanted_some rfl rfl rfl rfl) hL rfl rfl HasV.mem (by rfl) ?_) | (refine ev_loadAllG (wanted_some rfl rfl rfl rfl) hL rfl rfl HasV.mem (by rfl) ?_) | (refine ev_loadG_ (wanted_some rfl rfl rfl rfl) hL rfl rfl HasV.mem SegC.seg ?_))))
      go_loopw [3, 17] (fun s x wr => ∃ (j : Nat) (vs : Value), j ≤ ps.length ∧ s = vs ∧ x = .int .i64 j ∧ Loc w NoM wr [var g5 [.int .i64 a.e.at_.boot, .int .i64 a.e.at_.n, .int .i64 a.e.vol, .int .i64 a.e.knew.a0, .int .i64 a.e.knew.a1, .int .i64 a.e.knew.a2, .int .i64 a.e.knew.a3, .int .i64 a.e.knew.a4, .int .i64 a.e.knew.a5, .int .i64 a.e.knew.a6, .int .i64 a.e.knew.a7, .int .i64 a.e.seen.a0, .int .i64 a.e.seen.a1, .int .i64 a.e.seen.a2, .int .i64 a.e.seen.a3, .int .i64 a.e.seen.a4, .int .i64 a.e.seen.a5, .int .i64 a.e.seen.a6, .int .i64 a.e.seen.a7, .slice a.e.na a.e.nn a.e.nc, .slice a.e.la a.e.ln a.e.lc] 31, row encPr w.heap.size 47 vs (L ++ aprow ps a i (min j i))]) (fun _ x _ => ps.length - (intOf x).toNat)
      case atStart => exact ⟨0, _, by omega, rfl, rfl, by simpa [aprow] using hL.sub (l' := [var g5 [.int .i64 a.e.at_.boot, .int .i64 a.e.at_.n, .int .i64 a.e.vol, .int .i64 a.e.knew.a0, .int .i64 a.e.knew.a1, .int .i64 a.e.knew.a2, .int .i64 a.e.knew.a3, .int .i64 a.e.knew.a4, .int .i64 a.e.knew.a5, .int .i64 a.e.knew.a6, .int .i64 a.e.knew.a7, .int .i64 a.e.seen.a0, .int .i64 a.e.seen.a1, .int .i64 a.e.seen.a2, .int .i64 a.e.seen.a3, .int .i64 a.e.seen.a4, .int .i64 a.e.seen.a5, .int .i64 a.e.seen.a6, .int .i64 a.e.seen.a7, .slice a.e.na a.e.nn a.e.nc, .slice a.e.la a.e.ln a.e.lc] 31, row encPr w.heap.size 47 u3 L]) (by repeat (first | exact List.nil_sublist _ | with_reducible apply List.Sublist.cons_cons | with_reducible apply List.Sublist.cons))⟩
      case round =>
        clear hL hrW
        obtain ⟨j, vs, hj, rfl, rfl, hL⟩ := hrel
        by_cases hlj : j < ps.length
        · obtain ⟨g3, off3, he3, hrx⟩ := hel j (by omega)
          injection he3 with he3
          injection he3 with he31 he32
          subst he31 he32
          have hrX : World.rangeAt _ g (off + j * 21) (Evt.cells ps[j].e) := range_below hrx hL.below
          clear hrx
          have hb9 : ps[j]? = some ps[j] := List.getElem?_eq_getElem (by omega)
          obtain ⟨b, hb⟩ : ∃ b, b = ps[j] := ⟨_, rfl⟩
          rw [← hb] at hrX hb9
          clear hb
          unfold Evt.cells at hrX
          have hln2 : (L ++ aprow ps a i (min j i)).length ≤ 2000000 := by
            have := aprow_len ps a i (min j i)
            rw [List.length_append]; omega
          have hap : apart a b = ((a.e.vol == b.e.vol) && (!decide (a.e.at_ = b.e.at_) && (!(a.e.knew.has b.e.at_) && !(b.e.knew.has a.e.at_)))) := rfl
          obtain ⟨r1, h1⟩ : ∃ r, (a.e.vol == b.e.vol) = r := ⟨_, rfl⟩
          obtain ⟨r2, h2⟩ : ∃ r, decide (a.e.at_ = b.e.at_) = r := ⟨_, rfl⟩
          obtain ⟨r3, h3⟩ : ∃ r, a.e.knew.has b.e.at_ = r := ⟨_, rfl⟩
          obtain ⟨r4, h4⟩ : ∃ r, b.e.knew.has a.e.at_ = r := ⟨_, rfl⟩
          have hE := stamp_neql a.e.at_ b.e.at_ h2
          have hq1 := fun wx => ref09_has a.e.knew b.e.at_ wx
          have hq2 := fun wx => ref09_has b.e.knew a.e.at_ wx
          rw [h1, h2, h3, h4] at hap
          rw [h3] at hq1
          rw [h4] at hq2
          replace hq1 := Lib.hid hq1
          replace hq2 := Lib.hid hq2
          clear h2 h3 h4
          have hj9 : decide ((j : Int) < (ps.length : Int)) = true := (by first | (simp; done) | (simp; omega))
          by_cases hji : j < i
          · have hji2 : decide ((j : Int) < (i : Int)) = true := (by first | (simp; done) | (simp; omega))
            cases r1
            · have HS := Lib.hid (aprow_succ (i := i) hb9 hap)
              simp only [Bool.false_and, Bool.true_and, Bool.and_false, Bool.and_true, Bool.not_true, Bool.not_false, Bool.false_eq_true, if_false, if_true, List.append_nil] at HS
              clear hap hb9
              have HS2 := HS.out
              clear HS
              have HS : Hid (L ++ aprow ps a i (min (j + 1) i) = L ++ aprow ps a i (min j i)) := Lib.hid (by rw [Nat.min_eq_left (show j + 1 ≤ i by omega), HS2, Nat.min_eq_left (show j ≤ i by omega)])
              clear HS2
              generalize L ++ aprow ps a i (min j i) = L2 at *
              go_wp2_with (first
                | ((with_reducible refine gIndex rfl rfl ?_); refine ev_indexL rfl rfl rfl rfl hlj ?_)
                | ((with_reducible refine gate (N := 21) rfl ?_); refine ev_loadR rfl rfl rfl hrX (by rfl) ?_)
                | ((with_reducible refine gate (N := 7) rfl ?_); (refine ev_allocL rfl hL rfl (by first | exact CellsC.of | exact cells_one (by assumption) (by assumption) | exact cells_agg _ rfl) ?_; clear hL; intro g7 w7 hL))
                | (go_at_call 43; (with_reducible refine (hq1.out _).mono ?_); rintro e1 w8 ⟨rfl, hb8⟩; have hL := hL.call hb8; clear hb8)
                | (go_at_call 43; (with_reducible refine (hq2.out _).mono ?_); rintro e1 w8 ⟨rfl, hb8⟩; have hL := hL.call hb8; clear hb8)
                | ((with_reducible refine gAlloc rfl rfl ?_); (refine ev_allocL rfl hL rfl (by first | exact CellsC.of | exact cells_one (by assumption) (by assumption) | exact cells_agg _ rfl) ?_; clear hL; intro gq wq hL)) | ((with_reducible refine gBox rfl rfl ?_); (refine ev_boxL rfl hL rfl rfl (by first | exact CellsC.of | exact cells_one (by assumption) (by assumption) | exact cells_agg _ rfl) ?_; clear hL; intro gq wq hL)) | ((with_reducible refine gLoad rfl rfl ?_); (first | (refine ev_load1L rfl hL rfl rfl HasV.mem (by rfl) ?_) | (refine ev_loadAllL rfl hL rfl rfl HasV.mem (by rfl) ?_) | (refine ev_loadL rfl hL rfl rfl HasV.mem SegC.seg ?_))) | ((with_reducible refine gStore rfl rfl ?_); (first | (refine ev_storeC rfl hL rfl rfl rfl (by first | exact CellsC.of | exact cells_one (by assumption) (by assumption) | exact cells_agg _ rfl) (by rfl) ?_) | (refine ev_storeAllC rfl hL rfl rfl rfl (by first | exact CellsC.of | exact cells_one (by assumption) (by assumption) | exact cells_agg _ rfl) (by rfl) (by rfl) ?_)); clear hL; intro wq hL) | ((with_reducible refine gLoadG rfl rfl ?_ ?_); (exact wanted_some rfl rfl rfl (by with_reducible rfl)); (first | (refine ev_load1G (wanted_some rfl rfl rfl rfl) hL rfl rfl HasV.mem (by rfl) ?_) | (refine ev_loadAllG (wanted_some rfl rfl rfl rfl) hL rfl rfl HasV.mem (by rfl) ?_) | (refine ev_loadG_ (wanted_some rfl rfl rfl rfl) hL rfl rfl HasV.mem SegC.seg ?_))))
              go_roundw
              case rel => exact ⟨j + 1, _, by omega, rfl, by go_num, by rw [HS.out]; exact hL.sub (by repeat (first | exact List.nil_sublist _ | with_reducible apply List.Sublist.cons_cons | with_reducible apply List.Sublist.cons))⟩
              case measure => simp [intOf]; omega
            · cases r2
              · cases r3
                · cases r4
                  · have HS := Lib.hid (aprow_succ (i := i) hb9 hap)
                    simp only [Bool.true_and, Bool.and_true, Bool.not_false, if_true] at HS
                    clear hap hb9
                    have HS2 := HS.out
                    clear HS
                    have HS : Hid (L ++ aprow ps a i (min (j + 1) i) = (L ++ aprow ps a i (min j i)) ++ [(j, i)]) := Lib.hid (by rw [Nat.min_eq_left (show j + 1 ≤ i by omega), HS2, Nat.min_eq_left (show j ≤ i by omega), List.append_assoc])
                    clear HS2
                    generalize L ++ aprow ps a i (min j i) = L2 at *
                    go_wp2_with (first
                      | ((with_reducible refine gIndex rfl rfl ?_); refine ev_indexL rfl rfl rfl rfl hlj ?_)
                      | ((with_reducible refine gate (N := 21) rfl ?_); refine ev_loadR rfl rfl rfl hrX (by rfl) ?_)
                      | ((with_reducible refine gate (N := 7) rfl ?_); (refine ev_allocL rfl hL rfl (by first | exact CellsC.of | exact cells_one (by assumption) (by assumption) | exact cells_agg _ rfl) ?_; clear hL; intro g7 w7 hL))
                      | (go_at_call 43; (with_reducible refine (hq1.out _).mono ?_); rintro e1 w8 ⟨rfl, hb8⟩; have hL := hL.call hb8; clear hb8)
                      | (go_at_call 43; (with_reducible refine (hq2.out _).mono ?_); rintro e1 w8 ⟨rfl, hb8⟩; have hL := hL.call hb8; clear hb8)
                      | ((with_reducible refine gAlloc rfl rfl ?_); (refine ev_allocL rfl hL rfl (by first | exact CellsC.of | exact cells_one (by assumption) (by assumption) | exact cells_agg _ rfl) ?_; clear hL; intro gq wq hL)) | ((with_reducible refine gBox rfl rfl ?_); (refine ev_boxL rfl hL rfl rfl (by first | exact CellsC.of | exact cells_one (by assumption) (by assumption) | exact cells_agg _ rfl) ?_; clear hL; intro gq wq hL)) | ((with_reducible refine gLoad rfl rfl ?_); (first | (refine ev_load1L rfl hL rfl rfl HasV.mem (by rfl) ?_) | (refine ev_loadAllL rfl hL rfl rfl HasV.mem (by rfl) ?_) | (refine ev_loadL rfl hL rfl rfl HasV.mem SegC.seg ?_))) | ((with_reducible refine gStore rfl rfl ?_); (first | (refine ev_storeC rfl hL rfl rfl rfl (by first | exact CellsC.of | exact cells_one (by assumption) (by assumption) | exact cells_agg _ rfl) (by rfl) ?_) | (refine ev_storeAllC rfl hL rfl rfl rfl (by first | exact CellsC.of | exact cells_one (by assumption) (by assumption) | exact cells_agg _ rfl) (by rfl) (by rfl) ?_)); clear hL; intro wq hL) | ((with_reducible refine gLoadG rfl rfl ?_ ?_); (exact wanted_some rfl rfl rfl (by with_reducible rfl)); (first | (refine ev_load1G (wanted_some rfl rfl rfl rfl) hL rfl rfl HasV.mem (by rfl) ?_) | (refine ev_loadAllG (wanted_some rfl rfl rfl rfl) hL rfl rfl HasV.mem (by rfl) ?_) | (refine ev_loadG_ (wanted_some rfl rfl rfl rfl) hL rfl rfl HasV.mem SegC.seg ?_)))
                      | ((with_reducible refine gLit rfl rfl ?_); refine ev_litL (cs := [.int .i64 (j : Int), .int .i64 (i : Int)]) rfl hL rfl rfl rfl (by kernel_rfl) ?_; clear hL; intro gq wq hL)
                      | (at_builtin; refine ev_app1L (E := encPr) (j, i) rfl hL rfl rfl rfl (by first | exact mm0 | exact mm1 | exact mm2 | exact mm3 | exact mm4 | exact mm5 | exact mm6 | exact mm7 | exact mm8) (by first | exact fun _ => ss0 | exact fun _ => ss1 | exact fun _ => ss2 | exact fun _ => ss3 | exact fun _ => ss4 | exact fun _ => ss5 | exact fun _ => ss6) rfl rfl rfl (by omega) hL.size ?_; clear hL; intro ao' c' wq hL))
                    go_roundw
                    case rel => exact ⟨j + 1, _, by omega, rfl, by go_num, by rw [HS.out]; exact hL.sub (by repeat (first | exact List.nil_sublist _ | with_reducible apply List.Sublist.cons_cons | with_reducible apply List.Sublist.cons))⟩
                    case measure => simp [intOf]; omega
                  · have HS := Lib.hid (aprow_succ (i := i) hb9 hap)
                    simp only [Bool.false_and, Bool.true_and, Bool.and_false, Bool.and_true, Bool.not_true, Bool.not_false, Bool.false_eq_true, if_false, if_true, List.append_nil] at HS
                    clear hap hb9
                    have HS2 := HS.out
                    clear HS
                    have HS : Hid (L ++ aprow ps a i (min (j + 1) i) = L ++ aprow ps a i (min j i)) := Lib.hid (by rw [Nat.min_eq_left (show j + 1 ≤ i by omega), HS2, Nat.min_eq_left (show j ≤ i by omega)])
                    clear HS2
                    generalize L ++ aprow ps a i (min j i) = L2 at *
                    go_wp2_with (first
                      | ((with_reducible refine gIndex rfl rfl ?_); refine ev_indexL rfl rfl rfl rfl hlj ?_)
                      | ((with_reducible refine gate (N := 21) rfl ?_); refine ev_loadR rfl rfl rfl hrX (by rfl) ?_)
                      | ((with_reducible refine gate (N := 7) rfl ?_); (refine ev_allocL rfl hL rfl (by first | exact CellsC.of | exact cells_one (by assumption) (by assumption) | exact cells_agg _ rfl) ?_; clear hL; intro g7 w7 hL))
                      | (go_at_call 43; (with_reducible refine (hq1.out _).mono ?_); rintro e1 w8 ⟨rfl, hb8⟩; have hL := hL.call hb8; clear hb8)
                      | (go_at_call 43; (with_reducible refine (hq2.out _).mono ?_); rintro e1 w8 ⟨rfl, hb8⟩; have hL := hL.call hb8; clear hb8)
                      | ((with_reducible refine gAlloc rfl rfl ?_); (refine ev_allocL rfl hL rfl (by first | exact CellsC.of | exact cells_one (by assumption) (by assumption) | exact cells_agg _ rfl) ?_; clear hL; intro gq wq hL)) | ((with_reducible refine gBox rfl rfl ?_); (refine ev_boxL rfl hL rfl rfl (by first | exact CellsC.of | exact cells_one (by assumption) (by assumption) | exact cells_agg _ rfl) ?_; clear hL; intro gq wq hL)) | ((with_reducible refine gLoad rfl rfl ?_); (first | (refine ev_load1L rfl hL rfl rfl HasV.mem (by rfl) ?_) | (refine ev_loadAllL rfl hL rfl rfl HasV.mem (by rfl) ?_) | (refine ev_loadL rfl hL rfl rfl HasV.mem SegC.seg ?_))) | ((with_reducible refine gStore rfl rfl ?_); (first | (refine ev_storeC rfl hL rfl rfl rfl (by first | exact CellsC.of | exact cells_one (by assumption) (by assumption) | exact cells_agg _ rfl) (by rfl) ?_) | (refine ev_storeAllC rfl hL rfl rfl rfl (by first | exact CellsC.of | exact cells_one (by assumption) (by assumption) | exact cells_agg _ rfl) (by rfl) (by rfl) ?_)); clear hL; intro wq hL) | ((with_reducible refine gLoadG rfl rfl ?_ ?_); (exact wanted_some rfl rfl rfl (by with_reducible rfl)); (first | (refine ev_load1G (wanted_some rfl rfl rfl rfl) hL rfl rfl HasV.mem (by rfl) ?_) | (refine ev_loadAllG (wanted_some rfl rfl rfl rfl) hL rfl rfl HasV.mem (by rfl) ?_) | (refine ev_loadG_ (wanted_some rfl rfl rfl rfl) hL rfl rfl HasV.mem SegC.seg ?_))))
                    go_roundw
                    case rel => exact ⟨j + 1, _, by omega, rfl, by go_num, by rw [HS.out]; exact hL.sub (by repeat (first | exact List.nil_sublist _ | with_reducible apply List.Sublist.cons_cons | with_reducible apply List.Sublist.cons))⟩
                    case measure => simp [intOf]; omega
                · have HS := Lib.hid (aprow_succ (i := i) hb9 hap)
                  simp only [Bool.false_and, Bool.true_and, Bool.and_false, Bool.and_true, Bool.not_true, Bool.not_false, Bool.false_eq_true, if_false, if_true, List.append_nil] at HS
                  clear hap hb9
                  have HS2 := HS.out
                  clear HS
                  have HS : Hid (L ++ aprow ps a i (min (j + 1) i) = L ++ aprow ps a i (min j i)) := Lib.hid (by rw [Nat.min_eq_left (show j + 1 ≤ i by omega), HS2, Nat.min_eq_left (show j ≤ i by omega)])
                  clear HS2
                  generalize L ++ aprow ps a i (min j i) = L2 at *
                  go_wp2_with (first
                    | ((with_reducible refine gIndex rfl rfl ?_); refine ev_indexL rfl rfl rfl rfl hlj ?_)
                    | ((with_reducible refine gate (N := 21) rfl ?_); refine ev_loadR rfl rfl rfl hrX (by rfl) ?_)
                    | ((with_reducible refine gate (N := 7) rfl ?_); (refine ev_allocL rfl hL rfl (by first | exact CellsC.of | exact cells_one (by assumption) (by assumption) | exact cells_agg _ rfl) ?_; clear hL; intro g7 w7 hL))
                    | (go_at_call 43; (with_reducible refine (hq1.out _).mono ?_); rintro e1 w8 ⟨rfl, hb8⟩; have hL := hL.call hb8; clear hb8)
                    | (go_at_call 43; (with_reducible refine (hq2.out _).mono ?_); rintro e1 w8 ⟨rfl, hb8⟩; have hL := hL.call hb8; clear hb8)
                    | ((with_reducible refine gAlloc rfl rfl ?_); (refine ev_allocL rfl hL rfl (by first | exact CellsC.of | exact cells_one (by assumption) (by assumption) | exact cells_agg _ rfl) ?_; clear hL; intro gq wq hL)) | ((with_reducible refine gBox rfl rfl ?_); (refine ev_boxL rfl hL rfl rfl (by first | exact CellsC.of | exact cells_one (by assumption) (by assumption) | exact cells_agg _ rfl) ?_; clear hL; intro gq wq hL)) | ((with_reducible refine gLoad rfl rfl ?_); (first | (refine ev_load1L rfl hL rfl rfl HasV.mem (by rfl) ?_) | (refine ev_loadAllL rfl hL rfl rfl HasV.mem (by rfl) ?_) | (refine ev_loadL rfl hL rfl rfl HasV.mem SegC.seg ?_))) | ((with_reducible refine gStore rfl rfl ?_); (first | (refine ev_storeC rfl hL rfl rfl rfl (by first | exact CellsC.of | exact cells_one (by assumption) (by assumption) | exact cells_agg _ rfl) (by rfl) ?_) | (refine ev_storeAllC rfl hL rfl rfl rfl (by first | exact CellsC.of | exact cells_one (by assumption) (by assumption) | exact cells_agg _ rfl) (by rfl) (by rfl) ?_)); clear hL; intro wq hL) | ((with_reducible refine gLoadG rfl rfl ?_ ?_); (exact wanted_some rfl rfl rfl (by with_reducible rfl)); (first | (refine ev_load1G (wanted_some rfl rfl rfl rfl) hL rfl rfl HasV.mem (by rfl) ?_) | (refine ev_loadAllG (wanted_some rfl rfl rfl rfl) hL rfl rfl HasV.mem (by rfl) ?_) | (refine ev_loadG_ (wanted_some rfl rfl rfl rfl) hL rfl rfl HasV.mem SegC.seg ?_))))
                  go_roundw
                  case rel => exact ⟨j + 1, _, by omega, rfl, by go_num, by rw [HS.out]; exact hL.sub (by repeat (first | exact List.nil_sublist _ | with_reducible apply List.Sublist.cons_cons | with_reducible apply List.Sublist.cons))⟩
                  case measure => simp [intOf]; omega
              · have HS := Lib.hid (aprow_succ (i := i) hb9 hap)
                simp only [Bool.false_and, Bool.true_and, Bool.and_false, Bool.and_true, Bool.not_true, Bool.not_false, Bool.false_eq_true, if_false, if_true, List.append_nil] at HS
                clear hap hb9
                have HS2 := HS.out
                clear HS
                have HS : Hid (L ++ aprow ps a i (min (j + 1) i) = L ++ aprow ps a i (min j i)) := Lib.hid (by rw [Nat.min_eq_left (show j + 1 ≤ i by omega), HS2, Nat.min_eq_left (show j ≤ i by omega)])
                clear HS2
                generalize L ++ aprow ps a i (min j i) = L2 at *
                go_wp2_with (first
                  | ((with_reducible refine gIndex rfl rfl ?_); refine ev_indexL rfl rfl rfl rfl hlj ?_)
                  | ((with_reducible refine gate (N := 21) rfl ?_); refine ev_loadR rfl rfl rfl hrX (by rfl) ?_)
                  | ((with_reducible refine gate (N := 7) rfl ?_); (refine ev_allocL rfl hL rfl (by first | exact CellsC.of | exact cells_one (by assumption) (by assumption) | exact cells_agg _ rfl) ?_; clear hL; intro g7 w7 hL))
                  | (go_at_call 43; (with_reducible refine (hq1.out _).mono ?_); rintro e1 w8 ⟨rfl, hb8⟩; have hL := hL.call hb8; clear hb8)
                  | (go_at_call 43; (with_reducible refine (hq2.out _).mono ?_); rintro e1 w8 ⟨rfl, hb8⟩; have hL := hL.call hb8; clear hb8)
                  | ((with_reducible refine gAlloc rfl rfl ?_); (refine ev_allocL rfl hL rfl (by first | exact CellsC.of | exact cells_one (by assumption) (by assumption) | exact cells_agg _ rfl) ?_; clear hL; intro gq wq hL)) | ((with_reducible refine gBox rfl rfl ?_); (refine ev_boxL rfl hL rfl rfl (by first | exact CellsC.of | exact cells_one (by assumption) (by assumption) | exact cells_agg _ rfl) ?_; clear hL; intro gq wq hL)) | ((with_reducible refine gLoad rfl rfl ?_); (first | (refine ev_load1L rfl hL rfl rfl HasV.mem (by rfl) ?_) | (refine ev_loadAllL rfl hL rfl rfl HasV.mem (by rfl) ?_) | (refine ev_loadL rfl hL rfl rfl HasV.mem SegC.seg ?_))) | ((with_reducible refine gStore rfl rfl ?_); (first | (refine ev_storeC rfl hL rfl rfl rfl (by first | exact CellsC.of | exact cells_one (by assumption) (by assumption) | exact cells_agg _ rfl) (by rfl) ?_) | (refine ev_storeAllC rfl hL rfl rfl rfl (by first | exact CellsC.of | exact cells_one (by assumption) (by assumption) | exact cells_agg _ rfl) (by rfl) (by rfl) ?_)); clear hL; intro wq hL) | ((with_reducible refine gLoadG rfl rfl ?_ ?_); (exact wanted_some rfl rfl rfl (by with_reducible rfl)); (first | (refine ev_load1G (wanted_some rfl rfl rfl rfl) hL rfl rfl HasV.mem (by rfl) ?_) | (refine ev_loadAllG (wanted_some rfl rfl rfl rfl) hL rfl rfl HasV.mem (by rfl) ?_) | (refine ev_loadG_ (wanted_some rfl rfl rfl rfl) hL rfl rfl HasV.mem SegC.seg ?_))))
                go_roundw
                case rel => exact ⟨j + 1, _, by omega, rfl, by go_num, by rw [HS.out]; exact hL.sub (by repeat (first | exact List.nil_sublist _ | with_reducible apply List.Sublist.cons_cons | with_reducible apply List.Sublist.cons))⟩
                case measure => simp [intOf]; omega
          · have hji2 : decide ((j : Int) < (i : Int)) = false := (by first | (simp; done) | (simp; omega))
            have HS : Hid (L ++ aprow ps a i (min (j + 1) i) = L ++ aprow ps a i (min j i)) := Lib.hid (by rw [Nat.min_eq_right (show i ≤ j + 1 by omega), Nat.min_eq_right (show i ≤ j by omega)])
            clear hap hb9
            generalize L ++ aprow ps a i (min j i) = L2 at *
            go_wp2_with (first
              | ((with_reducible refine gIndex rfl rfl ?_); refine ev_indexL rfl rfl rfl rfl hlj ?_)
              | ((with_reducible refine gate (N := 21) rfl ?_); refine ev_loadR rfl rfl rfl hrX (by rfl) ?_)
              | ((with_reducible refine gate (N := 7) rfl ?_); (refine ev_allocL rfl hL rfl (by first | exact CellsC.of | exact cells_one (by assumption) (by assumption) | exact cells_agg _ rfl) ?_; clear hL; intro g7 w7 hL))
              | (go_at_call 43; (with_reducible refine (hq1.out _).mono ?_); rintro e1 w8 ⟨rfl, hb8⟩; have hL := hL.call hb8; clear hb8)
              | (go_at_call 43; (with_reducible refine (hq2.out _).mono ?_); rintro e1 w8 ⟨rfl, hb8⟩; have hL := hL.call hb8; clear hb8)
              | ((with_reducible refine gAlloc rfl rfl ?_); (refine ev_allocL rfl hL rfl (by first | exact CellsC.of | exact cells_one (by assumption) (by assumption) | exact cells_agg _ rfl) ?_; clear hL; intro gq wq hL)) | ((with_reducible refine gBox rfl rfl ?_); (refine ev_boxL rfl hL rfl rfl (by first | exact CellsC.of | exact cells_one (by assumption) (by assumption) | exact cells_agg _ rfl) ?_; clear hL; intro gq wq hL)) | ((with_reducible refine gLoad rfl rfl ?_); (first | (refine ev_load1L rfl hL rfl rfl HasV.mem (by rfl) ?_) | (refine ev_loadAllL rfl hL rfl rfl HasV.mem (by rfl) ?_) | (refine ev_loadL rfl hL rfl rfl HasV.mem SegC.seg ?_))) | ((with_reducible refine gStore rfl rfl ?_); (first | (refine ev_storeC rfl hL rfl rfl rfl (by first | exact CellsC.of | exact cells_one (by assumption) (by assumption) | exact cells_agg _ rfl) (by rfl) ?_) | (refine ev_storeAllC rfl hL rfl rfl rfl (by first | exact CellsC.of | exact cells_one (by assumption) (by assumption) | exact cells_agg _ rfl) (by rfl) (by rfl) ?_)); clear hL; intro wq hL) | ((with_reducible refine gLoadG rfl rfl ?_ ?_); (exact wanted_some rfl rfl rfl (by with_reducible rfl)); (first | (refine ev_load1G (wanted_some rfl rfl rfl rfl) hL rfl rfl HasV.mem (by rfl) ?_) | (refine ev_loadAllG (wanted_some rfl rfl rfl rfl) hL rfl rfl HasV.mem (by rfl) ?_) | (refine ev_loadG_ (wanted_some rfl rfl rfl rfl) hL rfl rfl HasV.mem SegC.seg ?_))))
            go_roundw
            case rel => exact ⟨j + 1, _, by omega, rfl, by go_num, by rw [HS.out]; exact hL.sub (by repeat (first | exact List.nil_sublist _ | with_reducible apply List.Sublist.cons_cons | with_reducible apply List.Sublist.cons))⟩
            case measure => simp [intOf]; omega
        · obtain rfl : j = ps.length := by omega
          rw [Nat.min_eq_right hk] at hL
          rw [← HT.out] at hL
          clear hlj
          go_wp2_with (first | ((with_reducible refine gAlloc rfl rfl ?_); (refine ev_allocL rfl hL rfl (by first | exact CellsC.of | exact cells_one (by assumption) (by assumption) | exact cells_agg _ rfl) ?_; clear hL; intro gq wq hL)) | ((with_reducible refine gBox rfl rfl ?_); (refine ev_boxL rfl hL rfl rfl (by first | exact CellsC.of | exact cells_one (by assumption) (by assumption) | exact cells_agg _ rfl) ?_; clear hL; intro gq wq hL)) | ((with_reducible refine gLoad rfl rfl ?_); (first | (refine ev_load1L rfl hL rfl rfl HasV.mem (by rfl) ?_) | (refine ev_loadAllL rfl hL rfl rfl HasV.mem (by rfl) ?_) | (refine ev_loadL rfl hL rfl rfl HasV.mem SegC.seg ?_))) | ((with_reducible refine gStore rfl rfl ?_); (first | (refine ev_storeC rfl hL rfl rfl rfl (by first | exact CellsC.of | exact cells_one (by assumption) (by assumption) | exact cells_agg _ rfl) (by rfl) ?_) | (refine ev_storeAllC rfl hL rfl rfl rfl (by first | exact CellsC.of | exact cells_one (by assumption) (by assumption) | exact cells_agg _ rfl) (by rfl) (by rfl) ?_)); clear hL; intro wq hL) | ((with_reducible refine gLoadG rfl rfl ?_ ?_); (exact wanted_some rfl rfl rfl (by with_reducible rfl)); (first | (refine ev_load1G (wanted_some rfl rfl rfl rfl) hL rfl rfl HasV.mem (by rfl) ?_) | (refine ev_loadAllG (wanted_some rfl rfl rfl rfl) hL rfl rfl HasV.mem (by rfl) ?_) | (refine ev_loadG_ (wanted_some rfl rfl rfl rfl) hL rfl rfl HasV.mem SegC.seg ?_))))
          go_roundw
          case rel => exact ⟨i + 1, _, by omega, by go_num, rfl, hL.sub (by repeat (first | exact List.nil_sublist _ | with_reducible apply List.Sublist.cons_cons | with_reducible apply List.Sublist.cons))⟩
          case measure => simp [intOf]; omega
    · obtain rfl : i = ps.length := by omega
      go_wp2_with (first | ((with_reducible refine gAlloc rfl rfl ?_); (refine ev_allocL rfl hL rfl (by first | exact CellsC.of | exact cells_one (by assumption) (by assumption) | exact cells_agg _ rfl) ?_; clear hL; intro gq wq hL)) | ((with_reducible refine gBox rfl rfl ?_); (refine ev_boxL rfl hL rfl rfl (by first | exact CellsC.of | exact cells_one (by assumption) (by assumption) | exact cells_agg _ rfl) ?_; clear hL; intro gq wq hL)) | ((with_reducible refine gLoad rfl rfl ?_); (first | (refine ev_load1L rfl hL rfl rfl HasV.mem (by rfl) ?_) | (refine ev_loadAllL rfl hL rfl rfl HasV.mem (by rfl) ?_) | (refine ev_loadL rfl hL rfl rfl HasV.mem SegC.seg ?_))) | ((with_reducible refine gStore rfl rfl ?_); (first | (refine ev_storeC rfl hL rfl rfl rfl (by first | exact CellsC.of | exact cells_one (by assumption) (by assumption) | exact cells_agg _ rfl) (by rfl) ?_) | (refine ev_storeAllC rfl hL rfl rfl rfl (by first | exact CellsC.of | exact cells_one (by assumption) (by assumption) | exact cells_agg _ rfl) (by rfl) (by rfl) ?_)); clear hL; intro wq hL) | ((with_reducible refine gLoadG rfl rfl ?_ ?_); (exact wanted_some rfl rfl rfl (by with_reducible rfl)); (first | (refine ev_load1G (wanted_some rfl rfl rfl rfl) hL rfl rfl HasV.mem (by rfl) ?_) | (refine ev_loadAllG (wanted_some rfl rfl rfl rfl) hL rfl rfl HasV.mem (by rfl) ?_) | (refine ev_loadG_ (wanted_some rfl rfl rfl rfl) hL rfl rfl HasV.mem SegC.seg ?_))))
      go_ret
      exact ⟨_, rfl, hL⟩
end Go.Proofs.YtebpacmhdkgfeaaDoor

/- Chapter 29: how many events there are of each replica. -/
namespace Go.Proofs.YtebpacmhdkgfeaaDoor
open Go.RowKit
set_option maxHeartbeats 4000000
def C8 (f : Nat → Nat) : List Value := [.int .i64 (f 0 : Int), .int .i64 (f 1 : Int), .int .i64 (f 2 : Int), .int .i64 (f 3 : Int), .int .i64 (f 4 : Int), .int .i64 (f 5 : Int), .int .i64 (f 6 : Int), .int .i64 (f 7 : Int)]
def cn (l : List Ep) (i : Nat) : Nat := l.countP fun p => decide (p.e.at_.n = (i : Int))
theorem cn_le (l : List Ep) (i : Nat) : cn l i ≤ l.length := List.countP_le_length
theorem cn_snoc (l : List Ep) (a : Ep) (i : Nat) : cn (l ++ [a]) i = cn l i + (if a.e.at_.n = (i : Int) then 1 else 0) := by
  unfold cn
  rw [List.countP_append, List.countP_singleton]
  simp
theorem C8_nil : C8 (cn []) = [.int .i64 0, .int .i64 0, .int .i64 0, .int .i64 0, .int .i64 0, .int .i64 0, .int .i64 0, .int .i64 0] := rfl
theorem C8_out (l : List Ep) (a : Ep) (h : a.e.at_.n < 0 ∨ 8 ≤ a.e.at_.n) : C8 (cn (l ++ [a])) = C8 (cn l) := by
  unfold C8
  simp only [cn_snoc]
  rw [if_neg (show ¬ a.e.at_.n = ((0 : Nat) : Int) by omega)]
  rw [if_neg (show ¬ a.e.at_.n = ((1 : Nat) : Int) by omega)]
  rw [if_neg (show ¬ a.e.at_.n = ((2 : Nat) : Int) by omega)]
  rw [if_neg (show ¬ a.e.at_.n = ((3 : Nat) : Int) by omega)]
  rw [if_neg (show ¬ a.e.at_.n = ((4 : Nat) : Int) by omega)]
  rw [if_neg (show ¬ a.e.at_.n = ((5 : Nat) : Int) by omega)]
  rw [if_neg (show ¬ a.e.at_.n = ((6 : Nat) : Int) by omega)]
  rw [if_neg (show ¬ a.e.at_.n = ((7 : Nat) : Int) by omega)]
  rfl
theorem C8_at0 (l : List Ep) (a : Ep) (h : a.e.at_.n = 0) {c0 c1 c2 c3 c4 c5 c6 c7 : Nat} (h0 : cn l 0 = c0) (h1 : cn l 1 = c1) (h2 : cn l 2 = c2) (h3 : cn l 3 = c3) (h4 : cn l 4 = c4) (h5 : cn l 5 = c5) (h6 : cn l 6 = c6) (h7 : cn l 7 = c7) : C8 (cn (l ++ [a])) = [.int .i64 ((c0 : Int) + 1), .int .i64 (c1 : Int), .int .i64 (c2 : Int), .int .i64 (c3 : Int), .int .i64 (c4 : Int), .int .i64 (c5 : Int), .int .i64 (c6 : Int), .int .i64 (c7 : Int)] := by
  unfold C8
  simp only [cn_snoc, h]
  subst h0 h1 h2 h3 h4 h5 h6 h7
  simp
theorem C8_at1 (l : List Ep) (a : Ep) (h : a.e.at_.n = 1) {c0 c1 c2 c3 c4 c5 c6 c7 : Nat} (h0 : cn l 0 = c0) (h1 : cn l 1 = c1) (h2 : cn l 2 = c2) (h3 : cn l 3 = c3) (h4 : cn l 4 = c4) (h5 : cn l 5 = c5) (h6 : cn l 6 = c6) (h7 : cn l 7 = c7) : C8 (cn (l ++ [a])) = [.int .i64 (c0 : Int), .int .i64 ((c1 : Int) + 1), .int .i64 (c2 : Int), .int .i64 (c3 : Int), .int .i64 (c4 : Int), .int .i64 (c5 : Int), .int .i64 (c6 : Int), .int .i64 (c7 : Int)] := by
  unfold C8
  simp only [cn_snoc, h]
  subst h0 h1 h2 h3 h4 h5 h6 h7
  simp
theorem C8_at2 (l : List Ep) (a : Ep) (h : a.e.at_.n = 2) {c0 c1 c2 c3 c4 c5 c6 c7 : Nat} (h0 : cn l 0 = c0) (h1 : cn l 1 = c1) (h2 : cn l 2 = c2) (h3 : cn l 3 = c3) (h4 : cn l 4 = c4) (h5 : cn l 5 = c5) (h6 : cn l 6 = c6) (h7 : cn l 7 = c7) : C8 (cn (l ++ [a])) = [.int .i64 (c0 : Int), .int .i64 (c1 : Int), .int .i64 ((c2 : Int) + 1), .int .i64 (c3 : Int), .int .i64 (c4 : Int), .int .i64 (c5 : Int), .int .i64 (c6 : Int), .int .i64 (c7 : Int)] := by
  unfold C8
  simp only [cn_snoc, h]
  subst h0 h1 h2 h3 h4 h5 h6 h7
  simp
theorem C8_at3 (l : List Ep) (a : Ep) (h : a.e.at_.n = 3) {c0 c1 c2 c3 c4 c5 c6 c7 : Nat} (h0 : cn l 0 = c0) (h1 : cn l 1 = c1) (h2 : cn l 2 = c2) (h3 : cn l 3 = c3) (h4 : cn l 4 = c4) (h5 : cn l 5 = c5) (h6 : cn l 6 = c6) (h7 : cn l 7 = c7) : C8 (cn (l ++ [a])) = [.int .i64 (c0 : Int), .int .i64 (c1 : Int), .int .i64 (c2 : Int), .int .i64 ((c3 : Int) + 1), .int .i64 (c4 : Int), .int .i64 (c5 : Int), .int .i64 (c6 : Int), .int .i64 (c7 : Int)] := by
  unfold C8
  simp only [cn_snoc, h]
  subst h0 h1 h2 h3 h4 h5 h6 h7
  simp
theorem C8_at4 (l : List Ep) (a : Ep) (h : a.e.at_.n = 4) {c0 c1 c2 c3 c4 c5 c6 c7 : Nat} (h0 : cn l 0 = c0) (h1 : cn l 1 = c1) (h2 : cn l 2 = c2) (h3 : cn l 3 = c3) (h4 : cn l 4 = c4) (h5 : cn l 5 = c5) (h6 : cn l 6 = c6) (h7 : cn l 7 = c7) : C8 (cn (l ++ [a])) = [.int .i64 (c0 : Int), .int .i64 (c1 : Int), .int .i64 (c2 : Int), .int .i64 (c3 : Int), .int .i64 ((c4 : Int) + 1), .int .i64 (c5 : Int), .int .i64 (c6 : Int), .int .i64 (c7 : Int)] := by
  unfold C8
  simp only [cn_snoc, h]
  subst h0 h1 h2 h3 h4 h5 h6 h7
  simp
theorem C8_at5 (l : List Ep) (a : Ep) (h : a.e.at_.n = 5) {c0 c1 c2 c3 c4 c5 c6 c7 : Nat} (h0 : cn l 0 = c0) (h1 : cn l 1 = c1) (h2 : cn l 2 = c2) (h3 : cn l 3 = c3) (h4 : cn l 4 = c4) (h5 : cn l 5 = c5) (h6 : cn l 6 = c6) (h7 : cn l 7 = c7) : C8 (cn (l ++ [a])) = [.int .i64 (c0 : Int), .int .i64 (c1 : Int), .int .i64 (c2 : Int), .int .i64 (c3 : Int), .int .i64 (c4 : Int), .int .i64 ((c5 : Int) + 1), .int .i64 (c6 : Int), .int .i64 (c7 : Int)] := by
  unfold C8
  simp only [cn_snoc, h]
  subst h0 h1 h2 h3 h4 h5 h6 h7
  simp
theorem C8_at6 (l : List Ep) (a : Ep) (h : a.e.at_.n = 6) {c0 c1 c2 c3 c4 c5 c6 c7 : Nat} (h0 : cn l 0 = c0) (h1 : cn l 1 = c1) (h2 : cn l 2 = c2) (h3 : cn l 3 = c3) (h4 : cn l 4 = c4) (h5 : cn l 5 = c5) (h6 : cn l 6 = c6) (h7 : cn l 7 = c7) : C8 (cn (l ++ [a])) = [.int .i64 (c0 : Int), .int .i64 (c1 : Int), .int .i64 (c2 : Int), .int .i64 (c3 : Int), .int .i64 (c4 : Int), .int .i64 (c5 : Int), .int .i64 ((c6 : Int) + 1), .int .i64 (c7 : Int)] := by
  unfold C8
  simp only [cn_snoc, h]
  subst h0 h1 h2 h3 h4 h5 h6 h7
  simp
theorem C8_at7 (l : List Ep) (a : Ep) (h : a.e.at_.n = 7) {c0 c1 c2 c3 c4 c5 c6 c7 : Nat} (h0 : cn l 0 = c0) (h1 : cn l 1 = c1) (h2 : cn l 2 = c2) (h3 : cn l 3 = c3) (h4 : cn l 4 = c4) (h5 : cn l 5 = c5) (h6 : cn l 6 = c6) (h7 : cn l 7 = c7) : C8 (cn (l ++ [a])) = [.int .i64 (c0 : Int), .int .i64 (c1 : Int), .int .i64 (c2 : Int), .int .i64 (c3 : Int), .int .i64 (c4 : Int), .int .i64 (c5 : Int), .int .i64 (c6 : Int), .int .i64 ((c7 : Int) + 1)] := by
  unfold C8
  simp only [cn_snoc, h]
  subst h0 h1 h2 h3 h4 h5 h6 h7
  simp
set_option maxRecDepth 100000 in
theorem story_counts (v : Value) (ps : List Ep) (w : World) (h : encEp.R w v ps) (hn : ps.length ≤ 1000) :
    Calls Tryd.prog 21 #[v] w fun e w' => e = .returned (.agg (C8 (cn ps)).toArray) ∧ Below w.heap.size w w' := by
  have hL := Loc.nil w NoM
  obtain ⟨ao, c, rfl, hel⟩ := R_elem h
  clear h
  go_enter Tryd.func21, Tryd.ntmps21
  go_wp2_with (first | ((with_reducible refine gate (N := 2) rfl ?_); (refine ev_allocL rfl hL rfl (by first | exact cells_agg _ rfl | exact cells_int _ _ | exact cells_str _ | exact cells_bool _ | exact cells_slice _ _ _ | exact cells_ptr _ | exact cells_map _ | exact cells_func _ _ _ | exact cells_nilFunc | exact cells_one (by assumption) (by assumption)) ?_; clear hL; intro g2 w2 hL)) | ((with_reducible refine gate (N := 3) rfl ?_); (refine ev_allocL rfl hL rfl (by first | exact cells_agg _ rfl | exact cells_int _ _ | exact cells_str _ | exact cells_bool _ | exact cells_slice _ _ _ | exact cells_ptr _ | exact cells_map _ | exact cells_func _ _ _ | exact cells_nilFunc | exact cells_one (by assumption) (by assumption)) ?_; clear hL; intro g3 w3 hL)) | ((with_reducible refine gAlloc rfl rfl ?_); (refine ev_allocL rfl hL rfl (by first | exact cells_agg _ rfl | exact cells_int _ _ | exact cells_str _ | exact cells_bool _ | exact cells_slice _ _ _ | exact cells_ptr _ | exact cells_map _ | exact cells_func _ _ _ | exact cells_nilFunc | exact cells_one (by assumption) (by assumption)) ?_; clear hL; intro gq wq hL)) | ((with_reducible refine gBox rfl rfl ?_); (refine ev_boxL rfl hL rfl rfl (by first | exact cells_agg _ rfl | exact cells_int _ _ | exact cells_str _ | exact cells_bool _ | exact cells_slice _ _ _ | exact cells_ptr _ | exact cells_map _ | exact cells_func _ _ _ | exact cells_nilFunc | exact cells_one (by assumption) (by assumption)) ?_; clear hL; intro gq wq hL)) | ((with_reducible refine gLoad rfl rfl ?_); (first | (refine ev_load1L rfl hL rfl rfl HasV.mem (by rfl) ?_) | (refine ev_loadAllL rfl hL rfl rfl HasV.mem (by rfl) ?_) | (refine ev_loadL rfl hL rfl rfl HasV.mem SegC.seg ?_))) | ((with_reducible refine gStore rfl rfl ?_); (first | (refine ev_storeC rfl hL rfl rfl rfl (by first | exact cells_agg _ rfl | exact cells_int _ _ | exact cells_str _ | exact cells_bool _ | exact cells_slice _ _ _ | exact cells_ptr _ | exact cells_map _ | exact cells_func _ _ _ | exact cells_nilFunc | exact cells_one (by assumption) (by assumption)) (by rfl) ?_) | (refine ev_storeAllC rfl hL rfl rfl rfl (by first | exact cells_agg _ rfl | exact cells_int _ _ | exact cells_str _ | exact cells_bool _ | exact cells_slice _ _ _ | exact cells_ptr _ | exact cells_map _ | exact cells_func _ _ _ | exact cells_nilFunc | exact cells_one (by assumption) (by assumption)) (by rfl) (by rfl) ?_)); clear hL; intro wq hL) | ((with_reducible refine gLoadG rfl rfl ?_ ?_); (exact wanted_some rfl rfl rfl (by with_reducible rfl)); (first | (refine ev_load1G (wanted_some rfl rfl rfl rfl) hL rfl rfl HasV.mem (by rfl) ?_) | (refine ev_loadAllG (wanted_some rfl rfl rfl rfl) hL rfl rfl HasV.mem (by rfl) ?_) | (refine ev_loadG_ (wanted_some rfl rfl rfl rfl) hL rfl rfl HasV.mem SegC.seg ?_))))
  go_loopw [8] (fun i wr => ∃ (k : Nat), k ≤ ps.length ∧ i = .int .i64 k ∧ Loc w NoM wr [var g3 (C8 (cn (ps.take k))) 24, var g2 [.int .i64 0, .int .i64 0, .int .i64 0, .int .i64 0, .int .i64 0, .int .i64 0, .int .i64 0, .int .i64 0] 24]) (fun i _ => ps.length - (intOf i).toNat)
  case atStart => exact ⟨0, by omega, rfl, by rw [List.take_zero, C8_nil]; exact hL⟩
  case round =>
    clear hL
    obtain ⟨k, hk, rfl, hL⟩ := hrel
    by_cases hlt : k < ps.length
    · obtain ⟨g, off, rfl, hr⟩ := hel k hlt
      have hrW : World.rangeAt _ g (off + k * 21) (Evt.cells ps[k].e) := range_below hr hL.below
      clear hr
      have HT := Lib.hid (List.take_append_getElem hlt).symm
      obtain ⟨a, ha⟩ : ∃ a, a = ps[k] := ⟨_, rfl⟩
      rw [← ha] at HT hrW
      clear ha
      have hb : ∀ i, cn (ps.take k) i ≤ 1000 := fun i => Nat.le_trans (cn_le _ _) (by rw [List.length_take]; omega)
      have HT2 := Lib.hid (show C8 (cn (ps.take (k + 1))) = C8 (cn (ps.take k ++ [a])) by rw [HT.out])
      have hTl : True := trivial
      clear HT
      generalize ps.take k = T at *
      unfold Evt.cells at hrW
      by_cases hx : a.e.at_.n < 0 ∨ 8 ≤ a.e.at_.n
      · have HS := Lib.hid (C8_out T a hx)
        generalize a.e.at_.n = n at *
        rcases hx with hx | hx
        · have t1 : decide (0 ≤ n) = false := (by first | (simp; done) | (simp; omega))
          go_wp2_with (first | ((with_reducible refine gIndex rfl rfl ?_); refine ev_indexL rfl rfl rfl rfl hlt ?_) | ((with_reducible refine gate (N := 11) rfl ?_); refine ev_loadR rfl rfl rfl hrW (by rfl) ?_) | ((with_reducible refine gate (N := 5) rfl ?_); (refine ev_allocL rfl hL rfl (by first | exact cells_agg _ rfl | exact cells_int _ _ | exact cells_str _ | exact cells_bool _ | exact cells_slice _ _ _ | exact cells_ptr _ | exact cells_map _ | exact cells_func _ _ _ | exact cells_nilFunc | exact cells_one (by assumption) (by assumption)) ?_; clear hL; intro g5 w5 hL)) | ((with_reducible refine gAlloc rfl rfl ?_); (refine ev_allocL rfl hL rfl (by first | exact cells_agg _ rfl | exact cells_int _ _ | exact cells_str _ | exact cells_bool _ | exact cells_slice _ _ _ | exact cells_ptr _ | exact cells_map _ | exact cells_func _ _ _ | exact cells_nilFunc | exact cells_one (by assumption) (by assumption)) ?_; clear hL; intro gq wq hL)) | ((with_reducible refine gBox rfl rfl ?_); (refine ev_boxL rfl hL rfl rfl (by first | exact cells_agg _ rfl | exact cells_int _ _ | exact cells_str _ | exact cells_bool _ | exact cells_slice _ _ _ | exact cells_ptr _ | exact cells_map _ | exact cells_func _ _ _ | exact cells_nilFunc | exact cells_one (by assumption) (by assumption)) ?_; clear hL; intro gq wq hL)) | ((with_reducible refine gLoad rfl rfl ?_); (first | (refine ev_load1L rfl hL rfl rfl HasV.mem (by rfl) ?_) | (refine ev_loadAllL rfl hL rfl rfl HasV.mem (by rfl) ?_) | (refine ev_loadL rfl hL rfl rfl HasV.mem SegC.seg ?_))) | ((with_reducible refine gStore rfl rfl ?_); (first | (refine ev_storeC rfl hL rfl rfl rfl (by first | exact cells_agg _ rfl | exact cells_int _ _ | exact cells_str _ | exact cells_bool _ | exact cells_slice _ _ _ | exact cells_ptr _ | exact cells_map _ | exact cells_func _ _ _ | exact cells_nilFunc | exact cells_one (by assumption) (by assumption)) (by rfl) ?_) | (refine ev_storeAllC rfl hL rfl rfl rfl (by first | exact cells_agg _ rfl | exact cells_int _ _ | exact cells_str _ | exact cells_bool _ | exact cells_slice _ _ _ | exact cells_ptr _ | exact cells_map _ | exact cells_func _ _ _ | exact cells_nilFunc | exact cells_one (by assumption) (by assumption)) (by rfl) (by rfl) ?_)); clear hL; intro wq hL) | ((with_reducible refine gLoadG rfl rfl ?_ ?_); (exact wanted_some rfl rfl rfl (by with_reducible rfl)); (first | (refine ev_load1G (wanted_some rfl rfl rfl rfl) hL rfl rfl HasV.mem (by rfl) ?_) | (refine ev_loadAllG (wanted_some rfl rfl rfl rfl) hL rfl rfl HasV.mem (by rfl) ?_) | (refine ev_loadG_ (wanted_some rfl rfl rfl rfl) hL rfl rfl HasV.mem SegC.seg ?_))))
          go_roundw
          case rel => exact ⟨k + 1, by omega, by go_num, by rw [HT2.out, HS.out]; exact hL.sub (by repeat (first | exact List.nil_sublist _ | with_reducible apply List.Sublist.cons_cons | with_reducible apply List.Sublist.cons))⟩
          case measure => simp [intOf]; omega
        · have t1 : decide (0 ≤ n) = true := (by first | (simp; done) | (simp; omega))
          have t2 : decide (n < 8) = false := (by first | (simp; done) | (simp; omega))
          go_wp2_with (first | ((with_reducible refine gIndex rfl rfl ?_); refine ev_indexL rfl rfl rfl rfl hlt ?_) | ((with_reducible refine gate (N := 11) rfl ?_); refine ev_loadR rfl rfl rfl hrW (by rfl) ?_) | ((with_reducible refine gate (N := 5) rfl ?_); (refine ev_allocL rfl hL rfl (by first | exact cells_agg _ rfl | exact cells_int _ _ | exact cells_str _ | exact cells_bool _ | exact cells_slice _ _ _ | exact cells_ptr _ | exact cells_map _ | exact cells_func _ _ _ | exact cells_nilFunc | exact cells_one (by assumption) (by assumption)) ?_; clear hL; intro g5 w5 hL)) | ((with_reducible refine gAlloc rfl rfl ?_); (refine ev_allocL rfl hL rfl (by first | exact cells_agg _ rfl | exact cells_int _ _ | exact cells_str _ | exact cells_bool _ | exact cells_slice _ _ _ | exact cells_ptr _ | exact cells_map _ | exact cells_func _ _ _ | exact cells_nilFunc | exact cells_one (by assumption) (by assumption)) ?_; clear hL; intro gq wq hL)) | ((with_reducible refine gBox rfl rfl ?_); (refine ev_boxL rfl hL rfl rfl (by first | exact cells_agg _ rfl | exact cells_int _ _ | exact cells_str _ | exact cells_bool _ | exact cells_slice _ _ _ | exact cells_ptr _ | exact cells_map _ | exact cells_func _ _ _ | exact cells_nilFunc | exact cells_one (by assumption) (by assumption)) ?_; clear hL; intro gq wq hL)) | ((with_reducible refine gLoad rfl rfl ?_); (first | (refine ev_load1L rfl hL rfl rfl HasV.mem (by rfl) ?_) | (refine ev_loadAllL rfl hL rfl rfl HasV.mem (by rfl) ?_) | (refine ev_loadL rfl hL rfl rfl HasV.mem SegC.seg ?_))) | ((with_reducible refine gStore rfl rfl ?_); (first | (refine ev_storeC rfl hL rfl rfl rfl (by first | exact cells_agg _ rfl | exact cells_int _ _ | exact cells_str _ | exact cells_bool _ | exact cells_slice _ _ _ | exact cells_ptr _ | exact cells_map _ | exact cells_func _ _ _ | exact cells_nilFunc | exact cells_one (by assumption) (by assumption)) (by rfl) ?_) | (refine ev_storeAllC rfl hL rfl rfl rfl (by first | exact cells_agg _ rfl | exact cells_int _ _ | exact cells_str _ | exact cells_bool _ | exact cells_slice _ _ _ | exact cells_ptr _ | exact cells_map _ | exact cells_func _ _ _ | exact cells_nilFunc | exact cells_one (by assumption) (by assumption)) (by rfl) (by rfl) ?_)); clear hL; intro wq hL) | ((with_reducible refine gLoadG rfl rfl ?_ ?_); (exact wanted_some rfl rfl rfl (by with_reducible rfl)); (first | (refine ev_load1G (wanted_some rfl rfl rfl rfl) hL rfl rfl HasV.mem (by rfl) ?_) | (refine ev_loadAllG (wanted_some rfl rfl rfl rfl) hL rfl rfl HasV.mem (by rfl) ?_) | (refine ev_loadG_ (wanted_some rfl rfl rfl rfl) hL rfl rfl HasV.mem SegC.seg ?_))))
          go_roundw
          case rel => exact ⟨k + 1, by omega, by go_num, by rw [HT2.out, HS.out]; exact hL.sub (by repeat (first | exact List.nil_sublist _ | with_reducible apply List.Sublist.cons_cons | with_reducible apply List.Sublist.cons))⟩
          case measure => simp [intOf]; omega
      · have hx2 : a.e.at_.n = 0 ∨ a.e.at_.n = 1 ∨ a.e.at_.n = 2 ∨ a.e.at_.n = 3 ∨ a.e.at_.n = 4 ∨ a.e.at_.n = 5 ∨ a.e.at_.n = 6 ∨ a.e.at_.n = 7 := by omega
        clear hx
        obtain ⟨c0, h0⟩ : ∃ c, cn T 0 = c := ⟨_, rfl⟩
        obtain ⟨c1, h1⟩ : ∃ c, cn T 1 = c := ⟨_, rfl⟩
        obtain ⟨c2, h2⟩ : ∃ c, cn T 2 = c := ⟨_, rfl⟩
        obtain ⟨c3, h3⟩ : ∃ c, cn T 3 = c := ⟨_, rfl⟩
        obtain ⟨c4, h4⟩ : ∃ c, cn T 4 = c := ⟨_, rfl⟩
        obtain ⟨c5, h5⟩ : ∃ c, cn T 5 = c := ⟨_, rfl⟩
        obtain ⟨c6, h6⟩ : ∃ c, cn T 6 = c := ⟨_, rfl⟩
        obtain ⟨c7, h7⟩ : ∃ c, cn T 7 = c := ⟨_, rfl⟩
        have b0 : (c0 : Int) ≤ 1000 := by have := hb 0; rw [h0] at this; omega
        have b1 : (c1 : Int) ≤ 1000 := by have := hb 1; rw [h1] at this; omega
        have b2 : (c2 : Int) ≤ 1000 := by have := hb 2; rw [h2] at this; omega
        have b3 : (c3 : Int) ≤ 1000 := by have := hb 3; rw [h3] at this; omega
        have b4 : (c4 : Int) ≤ 1000 := by have := hb 4; rw [h4] at this; omega
        have b5 : (c5 : Int) ≤ 1000 := by have := hb 5; rw [h5] at this; omega
        have b6 : (c6 : Int) ≤ 1000 := by have := hb 6; rw [h6] at this; omega
        have b7 : (c7 : Int) ≤ 1000 := by have := hb 7; rw [h7] at this; omega
        have HL8 : C8 (cn T) = [.int .i64 (c0 : Int), .int .i64 (c1 : Int), .int .i64 (c2 : Int), .int .i64 (c3 : Int), .int .i64 (c4 : Int), .int .i64 (c5 : Int), .int .i64 (c6 : Int), .int .i64 (c7 : Int)] := by unfold C8; rw [h0, h1, h2, h3, h4, h5, h6, h7]
        rw [HL8] at hL
        clear HL8 hb
        rcases hx2 with hx | hx | hx | hx | hx | hx | hx | hx
        · have HS := Lib.hid (C8_at0 T a hx h0 h1 h2 h3 h4 h5 h6 h7)
          rw [hx] at hrW
          clear hx h0 h1 h2 h3 h4 h5 h6 h7
          go_wp2_with (first | ((with_reducible refine gIndex rfl rfl ?_); refine ev_indexL rfl rfl rfl rfl hlt ?_) | ((with_reducible refine gate (N := 11) rfl ?_); refine ev_loadR rfl rfl rfl hrW (by rfl) ?_) | ((with_reducible refine gate (N := 5) rfl ?_); (refine ev_allocL rfl hL rfl (by first | exact cells_agg _ rfl | exact cells_int _ _ | exact cells_str _ | exact cells_bool _ | exact cells_slice _ _ _ | exact cells_ptr _ | exact cells_map _ | exact cells_func _ _ _ | exact cells_nilFunc | exact cells_one (by assumption) (by assumption)) ?_; clear hL; intro g5 w5 hL)) | ((with_reducible refine gAlloc rfl rfl ?_); (refine ev_allocL rfl hL rfl (by first | exact cells_agg _ rfl | exact cells_int _ _ | exact cells_str _ | exact cells_bool _ | exact cells_slice _ _ _ | exact cells_ptr _ | exact cells_map _ | exact cells_func _ _ _ | exact cells_nilFunc | exact cells_one (by assumption) (by assumption)) ?_; clear hL; intro gq wq hL)) | ((with_reducible refine gBox rfl rfl ?_); (refine ev_boxL rfl hL rfl rfl (by first | exact cells_agg _ rfl | exact cells_int _ _ | exact cells_str _ | exact cells_bool _ | exact cells_slice _ _ _ | exact cells_ptr _ | exact cells_map _ | exact cells_func _ _ _ | exact cells_nilFunc | exact cells_one (by assumption) (by assumption)) ?_; clear hL; intro gq wq hL)) | ((with_reducible refine gLoad rfl rfl ?_); (first | (refine ev_load1L rfl hL rfl rfl HasV.mem (by rfl) ?_) | (refine ev_loadAllL rfl hL rfl rfl HasV.mem (by rfl) ?_) | (refine ev_loadL rfl hL rfl rfl HasV.mem SegC.seg ?_))) | ((with_reducible refine gStore rfl rfl ?_); (first | (refine ev_storeC rfl hL rfl rfl rfl (by first | exact cells_agg _ rfl | exact cells_int _ _ | exact cells_str _ | exact cells_bool _ | exact cells_slice _ _ _ | exact cells_ptr _ | exact cells_map _ | exact cells_func _ _ _ | exact cells_nilFunc | exact cells_one (by assumption) (by assumption)) (by rfl) ?_) | (refine ev_storeAllC rfl hL rfl rfl rfl (by first | exact cells_agg _ rfl | exact cells_int _ _ | exact cells_str _ | exact cells_bool _ | exact cells_slice _ _ _ | exact cells_ptr _ | exact cells_map _ | exact cells_func _ _ _ | exact cells_nilFunc | exact cells_one (by assumption) (by assumption)) (by rfl) (by rfl) ?_)); clear hL; intro wq hL) | ((with_reducible refine gLoadG rfl rfl ?_ ?_); (exact wanted_some rfl rfl rfl (by with_reducible rfl)); (first | (refine ev_load1G (wanted_some rfl rfl rfl rfl) hL rfl rfl HasV.mem (by rfl) ?_) | (refine ev_loadAllG (wanted_some rfl rfl rfl rfl) hL rfl rfl HasV.mem (by rfl) ?_) | (refine ev_loadG_ (wanted_some rfl rfl rfl rfl) hL rfl rfl HasV.mem SegC.seg ?_))))
          go_roundw
          case rel => exact ⟨k + 1, by omega, by go_num, by rw [HT2.out, HS.out]; exact hL.sub (by repeat (first | exact List.nil_sublist _ | with_reducible apply List.Sublist.cons_cons | with_reducible apply List.Sublist.cons))⟩
          case measure => simp [intOf]; omega
        · have HS := Lib.hid (C8_at1 T a hx h0 h1 h2 h3 h4 h5 h6 h7)
          rw [hx] at hrW
          clear hx h0 h1 h2 h3 h4 h5 h6 h7
          go_wp2_with (first | ((with_reducible refine gIndex rfl rfl ?_); refine ev_indexL rfl rfl rfl rfl hlt ?_) | ((with_reducible refine gate (N := 11) rfl ?_); refine ev_loadR rfl rfl rfl hrW (by rfl) ?_) | ((with_reducible refine gate (N := 5) rfl ?_); (refine ev_allocL rfl hL rfl (by first | exact cells_agg _ rfl | exact cells_int _ _ | exact cells_str _ | exact cells_bool _ | exact cells_slice _ _ _ | exact cells_ptr _ | exact cells_map _ | exact cells_func _ _ _ | exact cells_nilFunc | exact cells_one (by assumption) (by assumption)) ?_; clear hL; intro g5 w5 hL)) | ((with_reducible refine gAlloc rfl rfl ?_); (refine ev_allocL rfl hL rfl (by first | exact cells_agg _ rfl | exact cells_int _ _ | exact cells_str _ | exact cells_bool _ | exact cells_slice _ _ _ | exact cells_ptr _ | exact cells_map _ | exact cells_func _ _ _ | exact cells_nilFunc | exact cells_one (by assumption) (by assumption)) ?_; clear hL; intro gq wq hL)) | ((with_reducible refine gBox rfl rfl ?_); (refine ev_boxL rfl hL rfl rfl (by first | exact cells_agg _ rfl | exact cells_int _ _ | exact cells_str _ | exact cells_bool _ | exact cells_slice _ _ _ | exact cells_ptr _ | exact cells_map _ | exact cells_func _ _ _ | exact cells_nilFunc | exact cells_one (by assumption) (by assumption)) ?_; clear hL; intro gq wq hL)) | ((with_reducible refine gLoad rfl rfl ?_); (first | (refine ev_load1L rfl hL rfl rfl HasV.mem (by rfl) ?_) | (refine ev_loadAllL rfl hL rfl rfl HasV.mem (by rfl) ?_) | (refine ev_loadL rfl hL rfl rfl HasV.mem SegC.seg ?_))) | ((with_reducible refine gStore rfl rfl ?_); (first | (refine ev_storeC rfl hL rfl rfl rfl (by first | exact cells_agg _ rfl | exact cells_int _ _ | exact cells_str _ | exact cells_bool _ | exact cells_slice _ _ _ | exact cells_ptr _ | exact cells_map _ | exact cells_func _ _ _ | exact cells_nilFunc | exact cells_one (by assumption) (by assumption)) (by rfl) ?_) | (refine ev_storeAllC rfl hL rfl rfl rfl (by first | exact cells_agg _ rfl | exact cells_int _ _ | exact cells_str _ | exact cells_bool _ | exact cells_slice _ _ _ | exact cells_ptr _ | exact cells_map _ | exact cells_func _ _ _ | exact cells_nilFunc | exact cells_one (by assumption) (by assumption)) (by rfl) (by rfl) ?_)); clear hL; intro wq hL) | ((with_reducible refine gLoadG rfl rfl ?_ ?_); (exact wanted_some rfl rfl rfl (by with_reducible rfl)); (first | (refine ev_load1G (wanted_some rfl rfl rfl rfl) hL rfl rfl HasV.mem (by rfl) ?_) | (refine ev_loadAllG (wanted_some rfl rfl rfl rfl) hL rfl rfl HasV.mem (by rfl) ?_) | (refine ev_loadG_ (wanted_some rfl rfl rfl rfl) hL rfl rfl HasV.mem SegC.seg ?_))))
          go_roundw
          case rel => exact ⟨k + 1, by omega, by go_num, by rw [HT2.out, HS.out]; exact hL.sub (by repeat (first | exact List.nil_sublist _ | with_reducible apply List.Sublist.cons_cons | with_reducible apply List.Sublist.cons))⟩
          case measure => simp [intOf]; omega
        · have HS := Lib.hid (C8_at2 T a hx h0 h1 h2 h3 h4 h5 h6 h7)
          rw [hx] at hrW
          clear hx h0 h1 h2 h3 h4 h5 h6 h7
          go_wp2_with (first | ((with_reducible refine gIndex rfl rfl ?_); refine ev_indexL rfl rfl rfl rfl hlt ?_) | ((with_reducible refine gate (N := 11) rfl ?_); refine ev_loadR rfl rfl rfl hrW (by rfl) ?_) | ((with_reducible refine gate (N := 5) rfl ?_); (refine ev_allocL rfl hL rfl (by first | exact cells_agg _ rfl | exact cells_int _ _ | exact cells_str _ | exact cells_bool _ | exact cells_slice _ _ _ | exact cells_ptr _ | exact cells_map _ | exact cells_func _ _ _ | exact cells_nilFunc | exact cells_one (by assumption) (by assumption)) ?_; clear hL; intro g5 w5 hL)) | ((with_reducible refine gAlloc rfl rfl ?_); (refine ev_allocL rfl hL rfl (by first | exact cells_agg _ rfl | exact cells_int _ _ | exact cells_str _ | exact cells_bool _ | exact cells_slice _ _ _ | exact cells_ptr _ | exact cells_map _ | exact cells_func _ _ _ | exact cells_nilFunc | exact cells_one (by assumption) (by assumption)) ?_; clear hL; intro gq wq hL)) | ((with_reducible refine gBox rfl rfl ?_); (refine ev_boxL rfl hL rfl rfl (by first | exact cells_agg _ rfl | exact cells_int _ _ | exact cells_str _ | exact cells_bool _ | exact cells_slice _ _ _ | exact cells_ptr _ | exact cells_map _ | exact cells_func _ _ _ | exact cells_nilFunc | exact cells_one (by assumption) (by assumption)) ?_; clear hL; intro gq wq hL)) | ((with_reducible refine gLoad rfl rfl ?_); (first | (refine ev_load1L rfl hL rfl rfl HasV.mem (by rfl) ?_) | (refine ev_loadAllL rfl hL rfl rfl HasV.mem (by rfl) ?_) | (refine ev_loadL rfl hL rfl rfl HasV.mem SegC.seg ?_))) | ((with_reducible refine gStore rfl rfl ?_); (first | (refine ev_storeC rfl hL rfl rfl rfl (by first | exact cells_agg _ rfl | exact cells_int _ _ | exact cells_str _ | exact cells_bool _ | exact cells_slice _ _ _ | exact cells_ptr _ | exact cells_map _ | exact cells_func _ _ _ | exact cells_nilFunc | exact cells_one (by assumption) (by assumption)) (by rfl) ?_) | (refine ev_storeAllC rfl hL rfl rfl rfl (by first | exact cells_agg _ rfl | exact cells_int _ _ | exact cells_str _ | exact cells_bool _ | exact cells_slice _ _ _ | exact cells_ptr _ | exact cells_map _ | exact cells_func _ _ _ | exact cells_nilFunc | exact cells_one (by assumption) (by assumption)) (by rfl) (by rfl) ?_)); clear hL; intro wq hL) | ((with_reducible refine gLoadG rfl rfl ?_ ?_); (exact wanted_some rfl rfl rfl (by with_reducible rfl)); (first | (refine ev_load1G (wanted_some rfl rfl rfl rfl) hL rfl rfl HasV.mem (by rfl) ?_) | (refine ev_loadAllG (wanted_some rfl rfl rfl rfl) hL rfl rfl HasV.mem (by rfl) ?_) | (refine ev_loadG_ (wanted_some rfl rfl rfl rfl) hL rfl rfl HasV.mem SegC.seg ?_))))
          go_roundw
          case rel => exact ⟨k + 1, by omega, by go_num, by rw [HT2.out, HS.out]; exact hL.sub (by repeat (first | exact List.nil_sublist _ | with_reducible apply List.Sublist.cons_cons | with_reducible apply List.Sublist.cons))⟩
          case measure => simp [intOf]; omega
        · have HS := Lib.hid (C8_at3 T a hx h0 h1 h2 h3 h4 h5 h6 h7)
          rw [hx] at hrW
          clear hx h0 h1 h2 h3 h4 h5 h6 h7
          go_wp2_with (first | ((with_reducible refine gIndex rfl rfl ?_); refine ev_indexL rfl rfl rfl rfl hlt ?_) | ((with_reducible refine gate (N := 11) rfl ?_); refine ev_loadR rfl rfl rfl hrW (by rfl) ?_) | ((with_reducible refine gate (N := 5) rfl ?_); (refine ev_allocL rfl hL rfl (by first | exact cells_agg _ rfl | exact cells_int _ _ | exact cells_str _ | exact cells_bool _ | exact cells_slice _ _ _ | exact cells_ptr _ | exact cells_map _ | exact cells_func _ _ _ | exact cells_nilFunc | exact cells_one (by assumption) (by assumption)) ?_; clear hL; intro g5 w5 hL)) | ((with_reducible refine gAlloc rfl rfl ?_); (refine ev_allocL rfl hL rfl (by first | exact cells_agg _ rfl | exact cells_int _ _ | exact cells_str _ | exact cells_bool _ | exact cells_slice _ _ _ | exact cells_ptr _ | exact cells_map _ | exact cells_func _ _ _ | exact cells_nilFunc | exact cells_one (by assumption) (by assumption)) ?_; clear hL; intro gq wq hL)) | ((with_reducible refine gBox rfl rfl ?_); (refine ev_boxL rfl hL rfl rfl (by first | exact cells_agg _ rfl | exact cells_int _ _ | exact cells_str _ | exact cells_bool _ | exact cells_slice _ _ _ | exact cells_ptr _ | exact cells_map _ | exact cells_func _ _ _ | exact cells_nilFunc | exact cells_one (by assumption) (by assumption)) ?_; clear hL; intro gq wq hL)) | ((with_reducible refine gLoad rfl rfl ?_); (first | (refine ev_load1L rfl hL rfl rfl HasV.mem (by rfl) ?_) | (refine ev_loadAllL rfl hL rfl rfl HasV.mem (by rfl) ?_) | (refine ev_loadL rfl hL rfl rfl HasV.mem SegC.seg ?_))) | ((with_reducible refine gStore rfl rfl ?_); (first | (refine ev_storeC rfl hL rfl rfl rfl (by first | exact cells_agg _ rfl | exact cells_int _ _ | exact cells_str _ | exact cells_bool _ | exact cells_slice _ _ _ | exact cells_ptr _ | exact cells_map _ | exact cells_func _ _ _ | exact cells_nilFunc | exact cells_one (by assumption) (by assumption)) (by rfl) ?_) | (refine ev_storeAllC rfl hL rfl rfl rfl (by first | exact cells_agg _ rfl | exact cells_int _ _ | exact cells_str _ | exact cells_bool _ | exact cells_slice _ _ _ | exact cells_ptr _ | exact cells_map _ | exact cells_func _ _ _ | exact cells_nilFunc | exact cells_one (by assumption) (by assumption)) (by rfl) (by rfl) ?_)); clear hL; intro wq hL) | ((with_reducible refine gLoadG rfl rfl ?_ ?_); (exact wanted_some rfl rfl rfl (by with_reducible rfl)); (first | (refine ev_load1G (wanted_some rfl rfl rfl rfl) hL rfl rfl HasV.mem (by rfl) ?_) | (refine ev_loadAllG (wanted_some rfl rfl rfl rfl) hL rfl rfl HasV.mem (by rfl) ?_) | (refine ev_loadG_ (wanted_some rfl rfl rfl rfl) hL rfl rfl HasV.mem SegC.seg ?_))))
          go_roundw
          case rel => exact ⟨k + 1, by omega, by go_num, by rw [HT2.out, HS.out]; exact hL.sub (by repeat (first | exact List.nil_sublist _ | with_reducible apply List.Sublist.cons_cons | with_reducible apply List.Sublist.cons))⟩
          case measure => simp [intOf]; omega
        · have HS := Lib.hid (C8_at4 T a hx h0 h1 h2 h3 h4 h5 h6 h7)
          rw [hx] at hrW
          clear hx h0 h1 h2 h3 h4 h5 h6 h7
          go_wp2_with (first | ((with_reducible refine gIndex rfl rfl ?_); refine ev_indexL rfl rfl rfl rfl hlt ?_) | ((with_reducible refine gate (N := 11) rfl ?_); refine ev_loadR rfl rfl rfl hrW (by rfl) ?_) | ((with_reducible refine gate (N := 5) rfl ?_); (refine ev_allocL rfl hL rfl (by first | exact cells_agg _ rfl | exact cells_int _ _ | exact cells_str _ | exact cells_bool _ | exact cells_slice _ _ _ | exact cells_ptr _ | exact cells_map _ | exact cells_func _ _ _ | exact cells_nilFunc | exact cells_one (by assumption) (by assumption)) ?_; clear hL; intro g5 w5 hL)) | ((with_reducible refine gAlloc rfl rfl ?_); (refine ev_allocL rfl hL rfl (by first | exact cells_agg _ rfl | exact cells_int _ _ | exact cells_str _ | exact cells_bool _ | exact cells_slice _ _ _ | exact cells_ptr _ | exact cells_map _ | exact cells_func _ _ _ | exact cells_nilFunc | exact cells_one (by assumption) (by assumption)) ?_; clear hL; intro gq wq hL)) | ((with_reducible refine gBox rfl rfl ?_); (refine ev_boxL rfl hL rfl rfl (by first | exact cells_agg _ rfl | exact cells_int _ _ | exact cells_str _ | exact cells_bool _ | exact cells_slice _ _ _ | exact cells_ptr _ | exact cells_map _ | exact cells_func _ _ _ | exact cells_nilFunc | exact cells_one (by assumption) (by assumption)) ?_; clear hL; intro gq wq hL)) | ((with_reducible refine gLoad rfl rfl ?_); (first | (refine ev_load1L rfl hL rfl rfl HasV.mem (by rfl) ?_) | (refine ev_loadAllL rfl hL rfl rfl HasV.mem (by rfl) ?_) | (refine ev_loadL rfl hL rfl rfl HasV.mem SegC.seg ?_))) | ((with_reducible refine gStore rfl rfl ?_); (first | (refine ev_storeC rfl hL rfl rfl rfl (by first | exact cells_agg _ rfl | exact cells_int _ _ | exact cells_str _ | exact cells_bool _ | exact cells_slice _ _ _ | exact cells_ptr _ | exact cells_map _ | exact cells_func _ _ _ | exact cells_nilFunc | exact cells_one (by assumption) (by assumption)) (by rfl) ?_) | (refine ev_storeAllC rfl hL rfl rfl rfl (by first | exact cells_agg _ rfl | exact cells_int _ _ | exact cells_str _ | exact cells_bool _ | exact cells_slice _ _ _ | exact cells_ptr _ | exact cells_map _ | exact cells_func _ _ _ | exact cells_nilFunc | exact cells_one (by assumption) (by assumption)) (by rfl) (by rfl) ?_)); clear hL; intro wq hL) | ((with_reducible refine gLoadG rfl rfl ?_ ?_); (exact wanted_some rfl rfl rfl (by with_reducible rfl)); (first | (refine ev_load1G (wanted_some rfl rfl rfl rfl) hL rfl rfl HasV.mem (by rfl) ?_) | (refine ev_loadAllG (wanted_some rfl rfl rfl rfl) hL rfl rfl HasV.mem (by rfl) ?_) | (refine ev_loadG_ (wanted_some rfl rfl rfl rfl) hL rfl rfl HasV.mem SegC.seg ?_))))
          go_roundw
          case rel => exact ⟨k + 1, by omega, by go_num, by rw [HT2.out, HS.out]; exact hL.sub (by repeat (first | exact List.nil_sublist _ | with_reducible apply List.Sublist.cons_cons | with_reducible apply List.Sublist.cons))⟩
          case measure => simp [intOf]; omega
        · have HS := Lib.hid (C8_at5 T a hx h0 h1 h2 h3 h4 h5 h6 h7)
          rw [hx] at hrW
          clear hx h0 h1 h2 h3 h4 h5 h6 h7
          go_wp2_with (first | ((with_reducible refine gIndex rfl rfl ?_); refine ev_indexL rfl rfl rfl rfl hlt ?_) | ((with_reducible refine gate (N := 11) rfl ?_); refine ev_loadR rfl rfl rfl hrW (by rfl) ?_) | ((with_reducible refine gate (N := 5) rfl ?_); (refine ev_allocL rfl hL rfl (by first | exact cells_agg _ rfl | exact cells_int _ _ | exact cells_str _ | exact cells_bool _ | exact cells_slice _ _ _ | exact cells_ptr _ | exact cells_map _ | exact cells_func _ _ _ | exact cells_nilFunc | exact cells_one (by assumption) (by assumption)) ?_; clear hL; intro g5 w5 hL)) | ((with_reducible refine gAlloc rfl rfl ?_); (refine ev_allocL rfl hL rfl (by first | exact cells_agg _ rfl | exact cells_int _ _ | exact cells_str _ | exact cells_bool _ | exact cells_slice _ _ _ | exact cells_ptr _ | exact cells_map _ | exact cells_func _ _ _ | exact cells_nilFunc | exact cells_one (by assumption) (by assumption)) ?_; clear hL; intro gq wq hL)) | ((with_reducible refine gBox rfl rfl ?_); (refine ev_boxL rfl hL rfl rfl (by first | exact cells_agg _ rfl | exact cells_int _ _ | exact cells_str _ | exact cells_bool _ | exact cells_slice _ _ _ | exact cells_ptr _ | exact cells_map _ | exact cells_func _ _ _ | exact cells_nilFunc | exact cells_one (by assumption) (by assumption)) ?_; clear hL; intro gq wq hL)) | ((with_reducible refine gLoad rfl rfl ?_); (first | (refine ev_load1L rfl hL rfl rfl HasV.mem (by rfl) ?_) | (refine ev_loadAllL rfl hL rfl rfl HasV.mem (by rfl) ?_) | (refine ev_loadL rfl hL rfl rfl HasV.mem SegC.seg ?_))) | ((with_reducible refine gStore rfl rfl ?_); (first | (refine ev_storeC rfl hL rfl rfl rfl (by first | exact cells_agg _ rfl | exact cells_int _ _ | exact cells_str _ | exact cells_bool _ | exact cells_slice _ _ _ | exact cells_ptr _ | exact cells_map _ | exact cells_func _ _ _ | exact cells_nilFunc | exact cells_one (by assumption) (by assumption)) (by rfl) ?_) | (refine ev_storeAllC rfl hL rfl rfl rfl (by first | exact cells_agg _ rfl | exact cells_int _ _ | exact cells_str _ | exact cells_bool _ | exact cells_slice _ _ _ | exact cells_ptr _ | exact cells_map _ | exact cells_func _ _ _ | exact cells_nilFunc | exact cells_one (by assumption) (by assumption)) (by rfl) (by rfl) ?_)); clear hL; intro wq hL) | ((with_reducible refine gLoadG rfl rfl ?_ ?_); (exact wanted_some rfl rfl rfl (by with_reducible rfl)); (first | (refine ev_load1G (wanted_some rfl rfl rfl rfl) hL rfl rfl HasV.mem (by rfl) ?_) | (refine ev_loadAllG (wanted_some rfl rfl rfl rfl) hL rfl rfl HasV.mem (by rfl) ?_) | (refine ev_loadG_ (wanted_some rfl rfl rfl rfl) hL rfl rfl HasV.mem SegC.seg ?_))))
          go_roundw
          case rel => exact ⟨k + 1, by omega, by go_num, by rw [HT2.out, HS.out]; exact hL.sub (by repeat (first | exact List.nil_sublist _ | with_reducible apply List.Sublist.cons_cons | with_reducible apply List.Sublist.cons))⟩
          case measure => simp [intOf]; omega
        · have HS := Lib.hid (C8_at6 T a hx h0 h1 h2 h3 h4 h5 h6 h7)
          rw [hx] at hrW
          clear hx h0 h1 h2 h3 h4 h5 h6 h7
          go_wp2_with (first | ((with_reducible refine gIndex rfl rfl ?_); refine ev_indexL rfl rfl rfl rfl hlt ?_) | ((with_reducible refine gate (N := 11) rfl ?_); refine ev_loadR rfl rfl rfl hrW (by rfl) ?_) | ((with_reducible refine gate (N := 5) rfl ?_); (refine ev_allocL rfl hL rfl (by first | exact cells_agg _ rfl | exact cells_int _ _ | exact cells_str _ | exact cells_bool _ | exact cells_slice _ _ _ | exact cells_ptr _ | exact cells_map _ | exact cells_func _ _ _ | exact cells_nilFunc | exact cells_one (by assumption) (by assumption)) ?_; clear hL; intro g5 w5 hL)) | ((with_reducible refine gAlloc rfl rfl ?_); (refine ev_allocL rfl hL rfl (by first | exact cells_agg _ rfl | exact cells_int _ _ | exact cells_str _ | exact cells_bool _ | exact cells_slice _ _ _ | exact cells_ptr _ | exact cells_map _ | exact cells_func _ _ _ | exact cells_nilFunc | exact cells_one (by assumption) (by assumption)) ?_; clear hL; intro gq wq hL)) | ((with_reducible refine gBox rfl rfl ?_); (refine ev_boxL rfl hL rfl rfl (by first | exact cells_agg _ rfl | exact cells_int _ _ | exact cells_str _ | exact cells_bool _ | exact cells_slice _ _ _ | exact cells_ptr _ | exact cells_map _ | exact cells_func _ _ _ | exact cells_nilFunc | exact cells_one (by assumption) (by assumption)) ?_; clear hL; intro gq wq hL)) | ((with_reducible refine gLoad rfl rfl ?_); (first | (refine ev_load1L rfl hL rfl rfl HasV.mem (by rfl) ?_) | (refine ev_loadAllL rfl hL rfl rfl HasV.mem (by rfl) ?_) | (refine ev_loadL rfl hL rfl rfl HasV.mem SegC.seg ?_))) | ((with_reducible refine gStore rfl rfl ?_); (first | (refine ev_storeC rfl hL rfl rfl rfl (by first | exact cells_agg _ rfl | exact cells_int _ _ | exact cells_str _ | exact cells_bool _ | exact cells_slice _ _ _ | exact cells_ptr _ | exact cells_map _ | exact cells_func _ _ _ | exact cells_nilFunc | exact cells_one (by assumption) (by assumption)) (by rfl) ?_) | (refine ev_storeAllC rfl hL rfl rfl rfl (by first | exact cells_agg _ rfl | exact cells_int _ _ | exact cells_str _ | exact cells_bool _ | exact cells_slice _ _ _ | exact cells_ptr _ | exact cells_map _ | exact cells_func _ _ _ | exact cells_nilFunc | exact cells_one (by assumption) (by assumption)) (by rfl) (by rfl) ?_)); clear hL; intro wq hL) | ((with_reducible refine gLoadG rfl rfl ?_ ?_); (exact wanted_some rfl rfl rfl (by with_reducible rfl)); (first | (refine ev_load1G (wanted_some rfl rfl rfl rfl) hL rfl rfl HasV.mem (by rfl) ?_) | (refine ev_loadAllG (wanted_some rfl rfl rfl rfl) hL rfl rfl HasV.mem (by rfl) ?_) | (refine ev_loadG_ (wanted_some rfl rfl rfl rfl) hL rfl rfl HasV.mem SegC.seg ?_))))
          go_roundw
          case rel => exact ⟨k + 1, by omega, by go_num, by rw [HT2.out, HS.out]; exact hL.sub (by repeat (first | exact List.nil_sublist _ | with_reducible apply List.Sublist.cons_cons | with_reducible apply List.Sublist.cons))⟩
          case measure => simp [intOf]; omega
        · have HS := Lib.hid (C8_at7 T a hx h0 h1 h2 h3 h4 h5 h6 h7)
          rw [hx] at hrW
          clear hx h0 h1 h2 h3 h4 h5 h6 h7
          go_wp2_with (first | ((with_reducible refine gIndex rfl rfl ?_); refine ev_indexL rfl rfl rfl rfl hlt ?_) | ((with_reducible refine gate (N := 11) rfl ?_); refine ev_loadR rfl rfl rfl hrW (by rfl) ?_) | ((with_reducible refine gate (N := 5) rfl ?_); (refine ev_allocL rfl hL rfl (by first | exact cells_agg _ rfl | exact cells_int _ _ | exact cells_str _ | exact cells_bool _ | exact cells_slice _ _ _ | exact cells_ptr _ | exact cells_map _ | exact cells_func _ _ _ | exact cells_nilFunc | exact cells_one (by assumption) (by assumption)) ?_; clear hL; intro g5 w5 hL)) | ((with_reducible refine gAlloc rfl rfl ?_); (refine ev_allocL rfl hL rfl (by first | exact cells_agg _ rfl | exact cells_int _ _ | exact cells_str _ | exact cells_bool _ | exact cells_slice _ _ _ | exact cells_ptr _ | exact cells_map _ | exact cells_func _ _ _ | exact cells_nilFunc | exact cells_one (by assumption) (by assumption)) ?_; clear hL; intro gq wq hL)) | ((with_reducible refine gBox rfl rfl ?_); (refine ev_boxL rfl hL rfl rfl (by first | exact cells_agg _ rfl | exact cells_int _ _ | exact cells_str _ | exact cells_bool _ | exact cells_slice _ _ _ | exact cells_ptr _ | exact cells_map _ | exact cells_func _ _ _ | exact cells_nilFunc | exact cells_one (by assumption) (by assumption)) ?_; clear hL; intro gq wq hL)) | ((with_reducible refine gLoad rfl rfl ?_); (first | (refine ev_load1L rfl hL rfl rfl HasV.mem (by rfl) ?_) | (refine ev_loadAllL rfl hL rfl rfl HasV.mem (by rfl) ?_) | (refine ev_loadL rfl hL rfl rfl HasV.mem SegC.seg ?_))) | ((with_reducible refine gStore rfl rfl ?_); (first | (refine ev_storeC rfl hL rfl rfl rfl (by first | exact cells_agg _ rfl | exact cells_int _ _ | exact cells_str _ | exact cells_bool _ | exact cells_slice _ _ _ | exact cells_ptr _ | exact cells_map _ | exact cells_func _ _ _ | exact cells_nilFunc | exact cells_one (by assumption) (by assumption)) (by rfl) ?_) | (refine ev_storeAllC rfl hL rfl rfl rfl (by first | exact cells_agg _ rfl | exact cells_int _ _ | exact cells_str _ | exact cells_bool _ | exact cells_slice _ _ _ | exact cells_ptr _ | exact cells_map _ | exact cells_func _ _ _ | exact cells_nilFunc | exact cells_one (by assumption) (by assumption)) (by rfl) (by rfl) ?_)); clear hL; intro wq hL) | ((with_reducible refine gLoadG rfl rfl ?_ ?_); (exact wanted_some rfl rfl rfl (by with_reducible rfl)); (first | (refine ev_load1G (wanted_some rfl rfl rfl rfl) hL rfl rfl HasV.mem (by rfl) ?_) | (refine ev_loadAllG (wanted_some rfl rfl rfl rfl) hL rfl rfl HasV.mem (by rfl) ?_) | (refine ev_loadG_ (wanted_some rfl rfl rfl rfl) hL rfl rfl HasV.mem SegC.seg ?_))))
          go_roundw
          case rel => exact ⟨k + 1, by omega, by go_num, by rw [HT2.out, HS.out]; exact hL.sub (by repeat (first | exact List.nil_sublist _ | with_reducible apply List.Sublist.cons_cons | with_reducible apply List.Sublist.cons))⟩
          case measure => simp [intOf]; omega
    · obtain rfl : k = ps.length := by omega
      rw [List.take_length] at hL
      unfold C8 at hL ⊢
      go_wp2_with (first | ((with_reducible refine gAlloc rfl rfl ?_); (refine ev_allocL rfl hL rfl (by first | exact cells_agg _ rfl | exact cells_int _ _ | exact cells_str _ | exact cells_bool _ | exact cells_slice _ _ _ | exact cells_ptr _ | exact cells_map _ | exact cells_func _ _ _ | exact cells_nilFunc | exact cells_one (by assumption) (by assumption)) ?_; clear hL; intro gq wq hL)) | ((with_reducible refine gBox rfl rfl ?_); (refine ev_boxL rfl hL rfl rfl (by first | exact cells_agg _ rfl | exact cells_int _ _ | exact cells_str _ | exact cells_bool _ | exact cells_slice _ _ _ | exact cells_ptr _ | exact cells_map _ | exact cells_func _ _ _ | exact cells_nilFunc | exact cells_one (by assumption) (by assumption)) ?_; clear hL; intro gq wq hL)) | ((with_reducible refine gLoad rfl rfl ?_); (first | (refine ev_load1L rfl hL rfl rfl HasV.mem (by rfl) ?_) | (refine ev_loadAllL rfl hL rfl rfl HasV.mem (by rfl) ?_) | (refine ev_loadL rfl hL rfl rfl HasV.mem SegC.seg ?_))) | ((with_reducible refine gStore rfl rfl ?_); (first | (refine ev_storeC rfl hL rfl rfl rfl (by first | exact cells_agg _ rfl | exact cells_int _ _ | exact cells_str _ | exact cells_bool _ | exact cells_slice _ _ _ | exact cells_ptr _ | exact cells_map _ | exact cells_func _ _ _ | exact cells_nilFunc | exact cells_one (by assumption) (by assumption)) (by rfl) ?_) | (refine ev_storeAllC rfl hL rfl rfl rfl (by first | exact cells_agg _ rfl | exact cells_int _ _ | exact cells_str _ | exact cells_bool _ | exact cells_slice _ _ _ | exact cells_ptr _ | exact cells_map _ | exact cells_func _ _ _ | exact cells_nilFunc | exact cells_one (by assumption) (by assumption)) (by rfl) (by rfl) ?_)); clear hL; intro wq hL) | ((with_reducible refine gLoadG rfl rfl ?_ ?_); (exact wanted_some rfl rfl rfl (by with_reducible rfl)); (first | (refine ev_load1G (wanted_some rfl rfl rfl rfl) hL rfl rfl HasV.mem (by rfl) ?_) | (refine ev_loadAllG (wanted_some rfl rfl rfl rfl) hL rfl rfl HasV.mem (by rfl) ?_) | (refine ev_loadG_ (wanted_some rfl rfl rfl rfl) hL rfl rfl HasV.mem SegC.seg ?_))))
      exact bodyPost_ret (res_cell rfl hL _ rfl HasV.mem (by rfl)) rfl ⟨rfl, hL.below⟩
end Go.Proofs.YtebpacmhdkgfeaaDoor

/- Regions that draw their order, walked with one fact on the world that each operation keeps: loads of a variable may be taken first. Over any program. -/
namespace Go.Proofs.YtebpacmhdkgfeaaDoor
open Go.RowKit

section
variable {P : Program} {md : Region.Mode} {ops : Array Oper} {Q : Exit → Act → World → Prop} {S : World → Prop}
theorem region_held {id : Nat} {ol : List Oper} {Q : Exit → Act → World → Prop} {a : Act} {W w0 : World} {M : Nat → Prop} {l : List Item} (S : World → Prop) (hm : P.follows .mixedOrders = true) (hL : Loc w0 M W l)
    (h : ∀ w1, Loc w0 M w1 l → wpAnyH P .any ol.toArray Q S ol.toArray.size (Array.replicate ol.toArray.size false) a w1) : (Code.region id ol.toArray true).wp P Q a W :=
  wp_region_held (S := S) hm (h { W with drawn := W.drawn + 1 } ⟨⟨hL.mod.os, hL.mod.tape, hL.mod.output, hL.mod.size, hL.mod.block⟩, fun i hi => (hL.at_ i hi).keep (w' := { W with drawn := W.drawn + 1 }) (Nat.le_refl _) fun _ _ => rfl, hL.new, hL.apart⟩)
/-- One operation alone may come. -/
theorem heldOne {f i : Nat} {done : Array Bool} {a : Act} {w : World} (r : Region.ready md ops done = [i]) (h : wpOp P ops Q i (fun a' w' => S w' ∧ wpAnyH P md ops Q S f (done.setIfInBounds i true) a' w') a w) : wpAnyH P md ops Q S (f + 1) done a w :=
  wpAnyH_all r (by simp) fun x hx => by obtain rfl := List.mem_singleton.1 hx; exact h
theorem heldTake {ol : List Oper} {i : Nat} {oi : Oper} {v : Value} {fuel : Nat} {listed : Array Bool} {a : Act} {w : World} (hi : Nth ol i oi)
    (hs : Region.noSelect ol.toArray = true) (hf : Region.free md ol.toArray listed i = true) (hr : (Region.ready md ol.toArray listed).contains i = true)
    (hQ : ∀ c a w, Q (.panic c) (a.put oi.dst v) w → Q (.panic c) a w) (hy : YieldsIf P ol.toArray S oi v a) (hS : S w)
    (h : wpAnyH P md ol.toArray Q S fuel (listed.setIfInBounds i true) (a.put oi.dst v) w) : wpAnyH P md ol.toArray Q S (fuel + 1) listed a w := wpAnyH_take hi.get hs hf hr hQ hy hS h
theorem y_moveG {o : Oper} {a : Act} {x : Operand} (v : Value) (hw : Region.wanted o (yielded ops a.tmps) = true) (ho : o.op = .move x) (hx : a.eval x = v) : YieldsIf P ops S o v a :=
  .inl ⟨hw, fun w _ => by simp [execOp, ho, hx]⟩
theorem run_loadBox {o : Oper} {a : Act} {W : World} {ty : TypeId} {x : Operand} {n g : Nat} {cs : List Value} {t : TypeId} (ha : AggT P ty) (hn : SizeT P ty n) (hB : Box W g cs.toArray t) (ho : o.op = .load ty x) (hx : a.eval x = .pointer (some ⟨g, 0, none⟩))
    (hs : cs.length = n) : (execOp a.eval o).run P W = .ok (.value (.agg cs.toArray)) W := by
  obtain ⟨d, hu, hd⟩ := isRow_of ha.agg
  have hr : W.rangeAt g 0 cs := fun k v hv => by rw [hB.cell (0 + k)]; simpa using hv
  unfold execOp
  simp only [ho, hx, Instr.loadAt, Instr.sureAddr, Sem.run_bind, Sem.run_pure, Result.andThen_ok, run_loadVar_mid W g 0 ty cs d hr hu hd (by rw [hs]; exact hn.size)]
theorem y_loadG {o : Oper} {a : Act} {ty : TypeId} {x : Operand} {n g : Nat} {cs : List Value} {t : TypeId} (ha : AggT P ty) (hn : SizeT P ty n) (hB : ∀ w, S w → Box w g cs.toArray t) (hw : Region.wanted o (yielded ops a.tmps) = true) (ho : o.op = .load ty x) (hx : a.eval x = .pointer (some ⟨g, 0, none⟩))
    (hs : cs.length = n) : YieldsIf P ops S o (.agg cs.toArray) a := .inl ⟨hw, fun _ hS => run_loadBox ha hn (hB _ hS) ho hx hs⟩
theorem enter0 {o : Oper} {a : Act} {w : World} {f : FuncId} {fn : Func} {ats : Array TypeId} (hf : P.funcs[f]? = some fn) (hname : (fn.name == "runtime.NumGoroutine") = false) (hb : fn.body.isNone = false) (ho : o.op = .call { callee := .value (.func f), args := #[], argTypes := ats }) :
    (execOp a.eval o).run P w = .ok (.enter f #[]) w := by
  have e : a.eval (Operand.func f) = .func (.func f) #[] #[] := rfl
  simp [execOp, ho, resolve, invoke, e, Deferred.ofValue, enters hf hname hb]
theorem enter1 {o : Oper} {a : Act} {w : World} {x : Operand} {u : Value} {f : FuncId} {fn : Func} {ats : Array TypeId} (hf : P.funcs[f]? = some fn) (hname : (fn.name == "runtime.NumGoroutine") = false) (hb : fn.body.isNone = false) (ho : o.op = .call { callee := .value (.func f), args := #[x], argTypes := ats }) (hu : a.eval x = u) :
    (execOp a.eval o).run P w = .ok (.enter f #[u]) w := by
  have e : a.eval (Operand.func f) = .func (.func f) #[] #[] := rfl
  simp [execOp, ho, resolve, invoke, hu, e, Deferred.ofValue, enters hf hname hb]
theorem enter2 {o : Oper} {a : Act} {w : World} {x y : Operand} {u v : Value} {f : FuncId} {fn : Func} {ats : Array TypeId} (hf : P.funcs[f]? = some fn) (hname : (fn.name == "runtime.NumGoroutine") = false) (hb : fn.body.isNone = false) (ho : o.op = .call { callee := .value (.func f), args := #[x, y], argTypes := ats }) (hu : a.eval x = u) (hv : a.eval y = v) :
    (execOp a.eval o).run P w = .ok (.enter f #[u, v]) w := by
  have e : a.eval (Operand.func f) = .func (.func f) #[] #[] := rfl
  simp [execOp, ho, resolve, invoke, hu, hv, e, Deferred.ofValue, enters hf hname hb]
theorem heldCall {i : Nat} {o : Oper} {a : Act} {f : FuncId} {args : Array Value} {w : World} {R : Ending → World → Prop} {K : Act → World → Prop} (hi : ops[i]? = some o) (hw : Region.wanted o (yielded ops a.tmps) = true) (he : (execOp a.eval o).run P w = .ok (.enter f args) w)
    (hc : Calls P f args w R) (h : ∀ e w', R e w' → ∃ v, e = .returned v ∧ K (a.put o.dst v) w') : wpOp P ops Q i K a w := by
  unfold wpOp
  simp only [hi, hw, if_true]
  refine .inl ?_
  unfold Oper.wp
  rw [he]
  exact hc.mono fun e w' hr => by obtain ⟨v, e1, hk⟩ := h e w' hr; subst e1; exact hk
end
end Go.Proofs.YtebpacmhdkgfeaaDoor
