/- Texts laid together: Dig23, Sto1, Sto3, V8, Sto4, Loc5, Loc6, Grow, Ply, MkZ, Evd, Abo1, IndexN. -/
import Derived.Test.YtebpacmhdkgfeaaDoorLi2
import Derived.Test.YtebpacmhdkgfeaaDoorProg
import Derived.Lib.AppendZerosOnto
/- crannogref23.Digits: the same text as crannogref18.digits; XDig's walk turned to it. -/
namespace Go.Proofs.YtebpacmhdkgfeaaDoor
open Go.RowKit

set_option maxHeartbeats 1000000 in
/-- crannogref23.Digits of n, by the loop's rounds. -/
theorem ref23_digits_neg (n : Int) (w : World) (h0 : -9223372036854775808 ≤ n) (h1 : n ≤ 9223372036854775807) (hn : n < 0) :
    Calls Tryd.prog 28 #[.int .i64 n] w fun e w' => e = .returned (.string (itoaB n)) ∧ Below w.heap.size w w' := by
  have hL := Loc.nil w NoM
  have t0 : decide (n < 0) = true := (by first | (simp; done) | (simp; omega))
  obtain ⟨u, hu⟩ : ∃ u : Nat, u = n.natAbs := ⟨_, rfl⟩
  have e1 : IntKind.u64.wrap (-(IntKind.u64.wrap n)) = (u : Int) := by rw [IntKind.wrap_u64, IntKind.wrap_u64]; omega
  have hub : u < 18446744073709551616 := by omega
  have HU := Lib.hid hu
  clear hu
  go_enter Tryd.func28, Tryd.ntmps28
  go_wp2_with (first | ((with_reducible refine gAlloc rfl rfl ?_); (refine ev_allocL rfl hL rfl (by first | exact CellsC.of | exact cells_one (by assumption) (by assumption) | exact cells_agg _ rfl) ?_; clear hL; intro gq wq hL)) | ((with_reducible refine gBox rfl rfl ?_); (refine ev_boxL rfl hL rfl rfl (by first | exact CellsC.of | exact cells_one (by assumption) (by assumption) | exact cells_agg _ rfl) ?_; clear hL; intro gq wq hL)) | ((with_reducible refine gLoad rfl rfl ?_); (first | (refine ev_load1L rfl hL rfl rfl HasV.mem (by rfl) ?_) | (refine ev_loadAllL rfl hL rfl rfl HasV.mem (by rfl) ?_) | (refine ev_loadL rfl hL rfl rfl HasV.mem SegC.seg ?_))) | ((with_reducible refine gStore rfl rfl ?_); (first | (refine ev_storeC rfl hL rfl rfl rfl (by first | exact CellsC.of | exact cells_one (by assumption) (by assumption) | exact cells_agg _ rfl) (by rfl) ?_) | (refine ev_storeAllC rfl hL rfl rfl rfl (by first | exact CellsC.of | exact cells_one (by assumption) (by assumption) | exact cells_agg _ rfl) (by rfl) (by rfl) ?_)); clear hL; intro wq hL) | ((with_reducible refine gLoadG rfl rfl ?_ ?_); (exact wanted_some rfl rfl rfl (by with_reducible rfl)); (first | (refine ev_load1G (wanted_some rfl rfl rfl rfl) hL rfl rfl HasV.mem (by rfl) ?_) | (refine ev_loadAllG (wanted_some rfl rfl rfl rfl) hL rfl rfl HasV.mem (by rfl) ?_) | (refine ev_loadG_ (wanted_some rfl rfl rfl rfl) hL rfl rfl HasV.mem SegC.seg ?_))))
  clear e1
  go_loopw [3, 4, 11] (fun x y i wr => ∃ (k uk : Nat) (l : List UInt8), k ≤ 20 ∧ i = .int .i64 k ∧ x = .int .u64 uk ∧ y = .string ⟨l.toArray⟩ ∧ Hid (DigAt u k uk l) ∧ uk < 18446744073709551616 ∧ l.length ≤ k ∧ Loc w NoM wr []) (fun _ _ i _ => 20 - (intOf i).toNat)
  case atStart => exact ⟨0, u, [], by omega, rfl, rfl, rfl, Lib.hid (.start u), hub, by simp, hL⟩
  case round =>
    clear hL
    obtain ⟨k, uk, l, hk, rfl, rfl, rfl, HD, hb, hll, hL⟩ := hrel
    by_cases hlt : k < 20
    · by_cases hp : 0 < uk
      · have t1 : decide ((0 : Int) < (uk : Int)) = true := (by first | (simp; done) | (simp; omega))
        have hv : (48 : Int) + (uk : Int) % 10 = ((dch uk).toNat : Int) := (dch_val uk).symm
        have HD2 := Lib.hid (HD.out.put (.inl hp))
        go_wp2_with (first
          | ((with_reducible refine gLit rfl rfl ?_); refine ev_litL (cs := [.int .u8 (dch uk).toNat]) rfl hL rfl rfl rfl (by kernel_rfl) ?_; clear hL; intro gq wq hL)
          | ((with_reducible refine gate (N := 24) rfl ?_); refine ev_b2s (l := [dch uk]) rfl rfl rfl (one_byte (hL.box (by first | exact mm0 | exact mm1 | exact mm2 | exact mm3 | exact mm4 | exact mm5 | exact mm6 | exact mm7 | exact mm8))) Tryd.underlying5 Tryd.underlying9 ?_)
          | ((with_reducible refine gCat rfl rfl ?_); refine ev_cat (s := ⟨[dch uk].toArray⟩) (u := ⟨l.toArray⟩) rfl rfl rfl rfl (by simp [ByteArray.size]; omega) ?_; rw [ba_cons])
          | ((with_reducible refine gAlloc rfl rfl ?_); (refine ev_allocL rfl hL rfl (by first | exact CellsC.of | exact cells_one (by assumption) (by assumption) | exact cells_agg _ rfl) ?_; clear hL; intro gq wq hL)) | ((with_reducible refine gBox rfl rfl ?_); (refine ev_boxL rfl hL rfl rfl (by first | exact CellsC.of | exact cells_one (by assumption) (by assumption) | exact cells_agg _ rfl) ?_; clear hL; intro gq wq hL)) | ((with_reducible refine gLoad rfl rfl ?_); (first | (refine ev_load1L rfl hL rfl rfl HasV.mem (by rfl) ?_) | (refine ev_loadAllL rfl hL rfl rfl HasV.mem (by rfl) ?_) | (refine ev_loadL rfl hL rfl rfl HasV.mem SegC.seg ?_))) | ((with_reducible refine gStore rfl rfl ?_); (first | (refine ev_storeC rfl hL rfl rfl rfl (by first | exact CellsC.of | exact cells_one (by assumption) (by assumption) | exact cells_agg _ rfl) (by rfl) ?_) | (refine ev_storeAllC rfl hL rfl rfl rfl (by first | exact CellsC.of | exact cells_one (by assumption) (by assumption) | exact cells_agg _ rfl) (by rfl) (by rfl) ?_)); clear hL; intro wq hL) | ((with_reducible refine gLoadG rfl rfl ?_ ?_); (exact wanted_some rfl rfl rfl (by with_reducible rfl)); (first | (refine ev_load1G (wanted_some rfl rfl rfl rfl) hL rfl rfl HasV.mem (by rfl) ?_) | (refine ev_loadAllG (wanted_some rfl rfl rfl rfl) hL rfl rfl HasV.mem (by rfl) ?_) | (refine ev_loadG_ (wanted_some rfl rfl rfl rfl) hL rfl rfl HasV.mem SegC.seg ?_))))
        go_roundw
        case rel => exact ⟨k + 1, uk / 10, dch uk :: l, by omega, by go_num, by go_num, rfl, HD2, by omega, by first | (simp; done) | (simp; omega), hL.drop⟩
        case measure => simp [intOf]; omega
      · obtain rfl : uk = 0 := by omega
        have t1 : decide ((0 : Int) < ((0 : Nat) : Int)) = false := by simp
        cases l with
        | nil =>
          have hv : (48 : Int) + ((0 : Nat) : Int) % 10 = ((dch 0).toNat : Int) := (dch_val 0).symm
          have HD2 := Lib.hid (HD.out.put (.inr rfl))
          go_wp2_with (first
            | ((with_reducible refine gLit rfl rfl ?_); refine ev_litL (cs := [.int .u8 (dch 0).toNat]) rfl hL rfl rfl rfl (by kernel_rfl) ?_; clear hL; intro gq wq hL)
            | ((with_reducible refine gate (N := 24) rfl ?_); refine ev_b2s (l := [dch 0]) rfl rfl rfl (one_byte (hL.box (by first | exact mm0 | exact mm1 | exact mm2 | exact mm3 | exact mm4 | exact mm5 | exact mm6 | exact mm7 | exact mm8))) Tryd.underlying5 Tryd.underlying9 ?_)
            | ((with_reducible refine gCat rfl rfl ?_); refine ev_cat (s := ⟨[dch 0].toArray⟩) (u := ⟨([] : List UInt8).toArray⟩) rfl rfl rfl rfl (by simp [ByteArray.size]; omega) ?_; rw [ba_cons])
            | ((with_reducible refine gAlloc rfl rfl ?_); (refine ev_allocL rfl hL rfl (by first | exact CellsC.of | exact cells_one (by assumption) (by assumption) | exact cells_agg _ rfl) ?_; clear hL; intro gq wq hL)) | ((with_reducible refine gBox rfl rfl ?_); (refine ev_boxL rfl hL rfl rfl (by first | exact CellsC.of | exact cells_one (by assumption) (by assumption) | exact cells_agg _ rfl) ?_; clear hL; intro gq wq hL)) | ((with_reducible refine gLoad rfl rfl ?_); (first | (refine ev_load1L rfl hL rfl rfl HasV.mem (by rfl) ?_) | (refine ev_loadAllL rfl hL rfl rfl HasV.mem (by rfl) ?_) | (refine ev_loadL rfl hL rfl rfl HasV.mem SegC.seg ?_))) | ((with_reducible refine gStore rfl rfl ?_); (first | (refine ev_storeC rfl hL rfl rfl rfl (by first | exact CellsC.of | exact cells_one (by assumption) (by assumption) | exact cells_agg _ rfl) (by rfl) ?_) | (refine ev_storeAllC rfl hL rfl rfl rfl (by first | exact CellsC.of | exact cells_one (by assumption) (by assumption) | exact cells_agg _ rfl) (by rfl) (by rfl) ?_)); clear hL; intro wq hL) | ((with_reducible refine gLoadG rfl rfl ?_ ?_); (exact wanted_some rfl rfl rfl (by with_reducible rfl)); (first | (refine ev_load1G (wanted_some rfl rfl rfl rfl) hL rfl rfl HasV.mem (by rfl) ?_) | (refine ev_loadAllG (wanted_some rfl rfl rfl rfl) hL rfl rfl HasV.mem (by rfl) ?_) | (refine ev_loadG_ (wanted_some rfl rfl rfl rfl) hL rfl rfl HasV.mem SegC.seg ?_))))
          go_roundw
          case rel => exact ⟨k + 1, 0, dch 0 :: [], by omega, by go_num, by go_num, rfl, HD2, by omega, by first | (simp; done) | (simp; omega), hL.drop⟩
          case measure => simp [intOf]; omega
        | cons c l =>
          have HD2 := Lib.hid (HD.out.skip (by simp))
          go_wp2_with (first | ((with_reducible refine gAlloc rfl rfl ?_); (refine ev_allocL rfl hL rfl (by first | exact CellsC.of | exact cells_one (by assumption) (by assumption) | exact cells_agg _ rfl) ?_; clear hL; intro gq wq hL)) | ((with_reducible refine gBox rfl rfl ?_); (refine ev_boxL rfl hL rfl rfl (by first | exact CellsC.of | exact cells_one (by assumption) (by assumption) | exact cells_agg _ rfl) ?_; clear hL; intro gq wq hL)) | ((with_reducible refine gLoad rfl rfl ?_); (first | (refine ev_load1L rfl hL rfl rfl HasV.mem (by rfl) ?_) | (refine ev_loadAllL rfl hL rfl rfl HasV.mem (by rfl) ?_) | (refine ev_loadL rfl hL rfl rfl HasV.mem SegC.seg ?_))) | ((with_reducible refine gStore rfl rfl ?_); (first | (refine ev_storeC rfl hL rfl rfl rfl (by first | exact CellsC.of | exact cells_one (by assumption) (by assumption) | exact cells_agg _ rfl) (by rfl) ?_) | (refine ev_storeAllC rfl hL rfl rfl rfl (by first | exact CellsC.of | exact cells_one (by assumption) (by assumption) | exact cells_agg _ rfl) (by rfl) (by rfl) ?_)); clear hL; intro wq hL) | ((with_reducible refine gLoadG rfl rfl ?_ ?_); (exact wanted_some rfl rfl rfl (by with_reducible rfl)); (first | (refine ev_load1G (wanted_some rfl rfl rfl rfl) hL rfl rfl HasV.mem (by rfl) ?_) | (refine ev_loadAllG (wanted_some rfl rfl rfl rfl) hL rfl rfl HasV.mem (by rfl) ?_) | (refine ev_loadG_ (wanted_some rfl rfl rfl rfl) hL rfl rfl HasV.mem SegC.seg ?_))))
          go_roundw
          case rel => exact ⟨k + 1, 0, c :: l, by omega, by go_num, rfl, rfl, HD2, by omega, by simp at hll ⊢; omega, hL⟩
          case measure => simp [intOf]; omega
    · obtain rfl : k = 20 := by omega
      have HR := Lib.hid (HD.out.done hub)
      go_wp2_with (first
        | ((with_reducible refine gCat rfl rfl ?_); refine ev_cat (s := ⟨#[45]⟩) (u := ⟨l.toArray⟩) rfl rfl rfl rfl (by simp [ByteArray.size]; omega) ?_)
        | ((with_reducible refine gAlloc rfl rfl ?_); (refine ev_allocL rfl hL rfl (by first | exact CellsC.of | exact cells_one (by assumption) (by assumption) | exact cells_agg _ rfl) ?_; clear hL; intro gq wq hL)) | ((with_reducible refine gBox rfl rfl ?_); (refine ev_boxL rfl hL rfl rfl (by first | exact CellsC.of | exact cells_one (by assumption) (by assumption) | exact cells_agg _ rfl) ?_; clear hL; intro gq wq hL)) | ((with_reducible refine gLoad rfl rfl ?_); (first | (refine ev_load1L rfl hL rfl rfl HasV.mem (by rfl) ?_) | (refine ev_loadAllL rfl hL rfl rfl HasV.mem (by rfl) ?_) | (refine ev_loadL rfl hL rfl rfl HasV.mem SegC.seg ?_))) | ((with_reducible refine gStore rfl rfl ?_); (first | (refine ev_storeC rfl hL rfl rfl rfl (by first | exact CellsC.of | exact cells_one (by assumption) (by assumption) | exact cells_agg _ rfl) (by rfl) ?_) | (refine ev_storeAllC rfl hL rfl rfl rfl (by first | exact CellsC.of | exact cells_one (by assumption) (by assumption) | exact cells_agg _ rfl) (by rfl) (by rfl) ?_)); clear hL; intro wq hL) | ((with_reducible refine gLoadG rfl rfl ?_ ?_); (exact wanted_some rfl rfl rfl (by with_reducible rfl)); (first | (refine ev_load1G (wanted_some rfl rfl rfl rfl) hL rfl rfl HasV.mem (by rfl) ?_) | (refine ev_loadAllG (wanted_some rfl rfl rfl rfl) hL rfl rfl HasV.mem (by rfl) ?_) | (refine ev_loadG_ (wanted_some rfl rfl rfl rfl) hL rfl rfl HasV.mem SegC.seg ?_))))
      go_ret
      exact ⟨congrArg (fun s => Ending.returned (Value.string s)) (by have hu := HU.out; unfold itoaB Lib.itoa; rw [if_pos hn, ← hu, HR.out]; exact ba_cons 45 l), hL.below⟩
set_option maxHeartbeats 1000000 in
theorem ref23_digits_pos (n : Int) (w : World) (h0 : -9223372036854775808 ≤ n) (h1 : n ≤ 9223372036854775807) (hn : ¬ n < 0) :
    Calls Tryd.prog 28 #[.int .i64 n] w fun e w' => e = .returned (.string (itoaB n)) ∧ Below w.heap.size w w' := by
  have hL := Loc.nil w NoM
  have t0 : decide (n < 0) = false := (by first | (simp; done) | (simp; omega))
  obtain ⟨u, hu⟩ : ∃ u : Nat, u = n.toNat := ⟨_, rfl⟩
  have e1 : IntKind.u64.wrap n = (u : Int) := by rw [IntKind.wrap_u64]; omega
  have hub : u < 18446744073709551616 := by omega
  have HU := Lib.hid hu
  clear hu
  go_enter Tryd.func28, Tryd.ntmps28
  go_wp2_with (first | ((with_reducible refine gAlloc rfl rfl ?_); (refine ev_allocL rfl hL rfl (by first | exact CellsC.of | exact cells_one (by assumption) (by assumption) | exact cells_agg _ rfl) ?_; clear hL; intro gq wq hL)) | ((with_reducible refine gBox rfl rfl ?_); (refine ev_boxL rfl hL rfl rfl (by first | exact CellsC.of | exact cells_one (by assumption) (by assumption) | exact cells_agg _ rfl) ?_; clear hL; intro gq wq hL)) | ((with_reducible refine gLoad rfl rfl ?_); (first | (refine ev_load1L rfl hL rfl rfl HasV.mem (by rfl) ?_) | (refine ev_loadAllL rfl hL rfl rfl HasV.mem (by rfl) ?_) | (refine ev_loadL rfl hL rfl rfl HasV.mem SegC.seg ?_))) | ((with_reducible refine gStore rfl rfl ?_); (first | (refine ev_storeC rfl hL rfl rfl rfl (by first | exact CellsC.of | exact cells_one (by assumption) (by assumption) | exact cells_agg _ rfl) (by rfl) ?_) | (refine ev_storeAllC rfl hL rfl rfl rfl (by first | exact CellsC.of | exact cells_one (by assumption) (by assumption) | exact cells_agg _ rfl) (by rfl) (by rfl) ?_)); clear hL; intro wq hL) | ((with_reducible refine gLoadG rfl rfl ?_ ?_); (exact wanted_some rfl rfl rfl (by with_reducible rfl)); (first | (refine ev_load1G (wanted_some rfl rfl rfl rfl) hL rfl rfl HasV.mem (by rfl) ?_) | (refine ev_loadAllG (wanted_some rfl rfl rfl rfl) hL rfl rfl HasV.mem (by rfl) ?_) | (refine ev_loadG_ (wanted_some rfl rfl rfl rfl) hL rfl rfl HasV.mem SegC.seg ?_))))
  clear e1
  go_loopw [3, 4, 11] (fun x y i wr => ∃ (k uk : Nat) (l : List UInt8), k ≤ 20 ∧ i = .int .i64 k ∧ x = .int .u64 uk ∧ y = .string ⟨l.toArray⟩ ∧ Hid (DigAt u k uk l) ∧ uk < 18446744073709551616 ∧ l.length ≤ k ∧ Loc w NoM wr []) (fun _ _ i _ => 20 - (intOf i).toNat)
  case atStart => exact ⟨0, u, [], by omega, rfl, rfl, rfl, Lib.hid (.start u), hub, by simp, hL⟩
  case round =>
    clear hL
    obtain ⟨k, uk, l, hk, rfl, rfl, rfl, HD, hb, hll, hL⟩ := hrel
    by_cases hlt : k < 20
    · by_cases hp : 0 < uk
      · have t1 : decide ((0 : Int) < (uk : Int)) = true := (by first | (simp; done) | (simp; omega))
        have hv : (48 : Int) + (uk : Int) % 10 = ((dch uk).toNat : Int) := (dch_val uk).symm
        have HD2 := Lib.hid (HD.out.put (.inl hp))
        go_wp2_with (first
          | ((with_reducible refine gLit rfl rfl ?_); refine ev_litL (cs := [.int .u8 (dch uk).toNat]) rfl hL rfl rfl rfl (by kernel_rfl) ?_; clear hL; intro gq wq hL)
          | ((with_reducible refine gate (N := 24) rfl ?_); refine ev_b2s (l := [dch uk]) rfl rfl rfl (one_byte (hL.box (by first | exact mm0 | exact mm1 | exact mm2 | exact mm3 | exact mm4 | exact mm5 | exact mm6 | exact mm7 | exact mm8))) Tryd.underlying5 Tryd.underlying9 ?_)
          | ((with_reducible refine gCat rfl rfl ?_); refine ev_cat (s := ⟨[dch uk].toArray⟩) (u := ⟨l.toArray⟩) rfl rfl rfl rfl (by simp [ByteArray.size]; omega) ?_; rw [ba_cons])
          | ((with_reducible refine gAlloc rfl rfl ?_); (refine ev_allocL rfl hL rfl (by first | exact CellsC.of | exact cells_one (by assumption) (by assumption) | exact cells_agg _ rfl) ?_; clear hL; intro gq wq hL)) | ((with_reducible refine gBox rfl rfl ?_); (refine ev_boxL rfl hL rfl rfl (by first | exact CellsC.of | exact cells_one (by assumption) (by assumption) | exact cells_agg _ rfl) ?_; clear hL; intro gq wq hL)) | ((with_reducible refine gLoad rfl rfl ?_); (first | (refine ev_load1L rfl hL rfl rfl HasV.mem (by rfl) ?_) | (refine ev_loadAllL rfl hL rfl rfl HasV.mem (by rfl) ?_) | (refine ev_loadL rfl hL rfl rfl HasV.mem SegC.seg ?_))) | ((with_reducible refine gStore rfl rfl ?_); (first | (refine ev_storeC rfl hL rfl rfl rfl (by first | exact CellsC.of | exact cells_one (by assumption) (by assumption) | exact cells_agg _ rfl) (by rfl) ?_) | (refine ev_storeAllC rfl hL rfl rfl rfl (by first | exact CellsC.of | exact cells_one (by assumption) (by assumption) | exact cells_agg _ rfl) (by rfl) (by rfl) ?_)); clear hL; intro wq hL) | ((with_reducible refine gLoadG rfl rfl ?_ ?_); (exact wanted_some rfl rfl rfl (by with_reducible rfl)); (first | (refine ev_load1G (wanted_some rfl rfl rfl rfl) hL rfl rfl HasV.mem (by rfl) ?_) | (refine ev_loadAllG (wanted_some rfl rfl rfl rfl) hL rfl rfl HasV.mem (by rfl) ?_) | (refine ev_loadG_ (wanted_some rfl rfl rfl rfl) hL rfl rfl HasV.mem SegC.seg ?_))))
        go_roundw
        case rel => exact ⟨k + 1, uk / 10, dch uk :: l, by omega, by go_num, by go_num, rfl, HD2, by omega, by first | (simp; done) | (simp; omega), hL.drop⟩
        case measure => simp [intOf]; omega
      · obtain rfl : uk = 0 := by omega
        have t1 : decide ((0 : Int) < ((0 : Nat) : Int)) = false := by simp
        cases l with
        | nil =>
          have hv : (48 : Int) + ((0 : Nat) : Int) % 10 = ((dch 0).toNat : Int) := (dch_val 0).symm
          have HD2 := Lib.hid (HD.out.put (.inr rfl))
          go_wp2_with (first
            | ((with_reducible refine gLit rfl rfl ?_); refine ev_litL (cs := [.int .u8 (dch 0).toNat]) rfl hL rfl rfl rfl (by kernel_rfl) ?_; clear hL; intro gq wq hL)
            | ((with_reducible refine gate (N := 24) rfl ?_); refine ev_b2s (l := [dch 0]) rfl rfl rfl (one_byte (hL.box (by first | exact mm0 | exact mm1 | exact mm2 | exact mm3 | exact mm4 | exact mm5 | exact mm6 | exact mm7 | exact mm8))) Tryd.underlying5 Tryd.underlying9 ?_)
            | ((with_reducible refine gCat rfl rfl ?_); refine ev_cat (s := ⟨[dch 0].toArray⟩) (u := ⟨([] : List UInt8).toArray⟩) rfl rfl rfl rfl (by simp [ByteArray.size]; omega) ?_; rw [ba_cons])
            | ((with_reducible refine gAlloc rfl rfl ?_); (refine ev_allocL rfl hL rfl (by first | exact CellsC.of | exact cells_one (by assumption) (by assumption) | exact cells_agg _ rfl) ?_; clear hL; intro gq wq hL)) | ((with_reducible refine gBox rfl rfl ?_); (refine ev_boxL rfl hL rfl rfl (by first | exact CellsC.of | exact cells_one (by assumption) (by assumption) | exact cells_agg _ rfl) ?_; clear hL; intro gq wq hL)) | ((with_reducible refine gLoad rfl rfl ?_); (first | (refine ev_load1L rfl hL rfl rfl HasV.mem (by rfl) ?_) | (refine ev_loadAllL rfl hL rfl rfl HasV.mem (by rfl) ?_) | (refine ev_loadL rfl hL rfl rfl HasV.mem SegC.seg ?_))) | ((with_reducible refine gStore rfl rfl ?_); (first | (refine ev_storeC rfl hL rfl rfl rfl (by first | exact CellsC.of | exact cells_one (by assumption) (by assumption) | exact cells_agg _ rfl) (by rfl) ?_) | (refine ev_storeAllC rfl hL rfl rfl rfl (by first | exact CellsC.of | exact cells_one (by assumption) (by assumption) | exact cells_agg _ rfl) (by rfl) (by rfl) ?_)); clear hL; intro wq hL) | ((with_reducible refine gLoadG rfl rfl ?_ ?_); (exact wanted_some rfl rfl rfl (by with_reducible rfl)); (first | (refine ev_load1G (wanted_some rfl rfl rfl rfl) hL rfl rfl HasV.mem (by rfl) ?_) | (refine ev_loadAllG (wanted_some rfl rfl rfl rfl) hL rfl rfl HasV.mem (by rfl) ?_) | (refine ev_loadG_ (wanted_some rfl rfl rfl rfl) hL rfl rfl HasV.mem SegC.seg ?_))))
          go_roundw
          case rel => exact ⟨k + 1, 0, dch 0 :: [], by omega, by go_num, by go_num, rfl, HD2, by omega, by first | (simp; done) | (simp; omega), hL.drop⟩
          case measure => simp [intOf]; omega
        | cons c l =>
          have HD2 := Lib.hid (HD.out.skip (by simp))
          go_wp2_with (first | ((with_reducible refine gAlloc rfl rfl ?_); (refine ev_allocL rfl hL rfl (by first | exact CellsC.of | exact cells_one (by assumption) (by assumption) | exact cells_agg _ rfl) ?_; clear hL; intro gq wq hL)) | ((with_reducible refine gBox rfl rfl ?_); (refine ev_boxL rfl hL rfl rfl (by first | exact CellsC.of | exact cells_one (by assumption) (by assumption) | exact cells_agg _ rfl) ?_; clear hL; intro gq wq hL)) | ((with_reducible refine gLoad rfl rfl ?_); (first | (refine ev_load1L rfl hL rfl rfl HasV.mem (by rfl) ?_) | (refine ev_loadAllL rfl hL rfl rfl HasV.mem (by rfl) ?_) | (refine ev_loadL rfl hL rfl rfl HasV.mem SegC.seg ?_))) | ((with_reducible refine gStore rfl rfl ?_); (first | (refine ev_storeC rfl hL rfl rfl rfl (by first | exact CellsC.of | exact cells_one (by assumption) (by assumption) | exact cells_agg _ rfl) (by rfl) ?_) | (refine ev_storeAllC rfl hL rfl rfl rfl (by first | exact CellsC.of | exact cells_one (by assumption) (by assumption) | exact cells_agg _ rfl) (by rfl) (by rfl) ?_)); clear hL; intro wq hL) | ((with_reducible refine gLoadG rfl rfl ?_ ?_); (exact wanted_some rfl rfl rfl (by with_reducible rfl)); (first | (refine ev_load1G (wanted_some rfl rfl rfl rfl) hL rfl rfl HasV.mem (by rfl) ?_) | (refine ev_loadAllG (wanted_some rfl rfl rfl rfl) hL rfl rfl HasV.mem (by rfl) ?_) | (refine ev_loadG_ (wanted_some rfl rfl rfl rfl) hL rfl rfl HasV.mem SegC.seg ?_))))
          go_roundw
          case rel => exact ⟨k + 1, 0, c :: l, by omega, by go_num, rfl, rfl, HD2, by omega, by simp at hll ⊢; omega, hL⟩
          case measure => simp [intOf]; omega
    · obtain rfl : k = 20 := by omega
      have HR := Lib.hid (HD.out.done hub)
      go_wp2_with (first | ((with_reducible refine gAlloc rfl rfl ?_); (refine ev_allocL rfl hL rfl (by first | exact CellsC.of | exact cells_one (by assumption) (by assumption) | exact cells_agg _ rfl) ?_; clear hL; intro gq wq hL)) | ((with_reducible refine gBox rfl rfl ?_); (refine ev_boxL rfl hL rfl rfl (by first | exact CellsC.of | exact cells_one (by assumption) (by assumption) | exact cells_agg _ rfl) ?_; clear hL; intro gq wq hL)) | ((with_reducible refine gLoad rfl rfl ?_); (first | (refine ev_load1L rfl hL rfl rfl HasV.mem (by rfl) ?_) | (refine ev_loadAllL rfl hL rfl rfl HasV.mem (by rfl) ?_) | (refine ev_loadL rfl hL rfl rfl HasV.mem SegC.seg ?_))) | ((with_reducible refine gStore rfl rfl ?_); (first | (refine ev_storeC rfl hL rfl rfl rfl (by first | exact CellsC.of | exact cells_one (by assumption) (by assumption) | exact cells_agg _ rfl) (by rfl) ?_) | (refine ev_storeAllC rfl hL rfl rfl rfl (by first | exact CellsC.of | exact cells_one (by assumption) (by assumption) | exact cells_agg _ rfl) (by rfl) (by rfl) ?_)); clear hL; intro wq hL) | ((with_reducible refine gLoadG rfl rfl ?_ ?_); (exact wanted_some rfl rfl rfl (by with_reducible rfl)); (first | (refine ev_load1G (wanted_some rfl rfl rfl rfl) hL rfl rfl HasV.mem (by rfl) ?_) | (refine ev_loadAllG (wanted_some rfl rfl rfl rfl) hL rfl rfl HasV.mem (by rfl) ?_) | (refine ev_loadG_ (wanted_some rfl rfl rfl rfl) hL rfl rfl HasV.mem SegC.seg ?_))))
      go_ret
      exact ⟨congrArg (fun s => Ending.returned (Value.string s)) (by have hu := HU.out; unfold itoaB Lib.itoa; rw [if_neg (by omega), ← hu, HR.out]), hL.below⟩
theorem ref23_digits (n : Int) (w : World) (h0 : -9223372036854775808 ≤ n) (h1 : n ≤ 9223372036854775807) :
    Calls Tryd.prog 28 #[.int .i64 n] w fun e w' => e = .returned (.string (itoaB n)) ∧ Below w.heap.size w w' := by
  by_cases hn : n < 0
  · exact ref23_digits_neg n w h0 h1 hn
  · exact ref23_digits_pos n w h0 h1 hn
end Go.Proofs.YtebpacmhdkgfeaaDoor

/- Chapter 29: a stamp as text, on both sides. -/
namespace Go.Proofs.YtebpacmhdkgfeaaDoor
open Go.RowKit

theorem digits23_ext {W : World} {e : Ext W} (n : Int) (h : I64 n) : Calls Tryd.prog 28 #[.int .i64 n] e.w fun en w'' => en = .returned (.string (itoaB n)) ∧ ∃ m : Ext W, w'' = m.w :=
  calls_ext (ref23_digits n _ h.1 h.2)
theorem story_stamp (m : Mk) (w : World) (hb : I64 m.boot) (hn : I64 m.n) (ht : Tb w) :
    Calls Tryd.prog 23 #[m.val] w fun e w' => e = .returned (.string m.text) ∧ Below w.heap.size w w' := by
  have hL := Loc.nil w NoM
  have h1 := hb.size
  have h2 := hn.size
  go_enter Tryd.func23, Tryd.ntmps23
  go_wp2_with (first | ((with_reducible refine gAlloc rfl rfl ?_); (refine ev_allocL rfl hL rfl (by first | exact CellsC.of | exact cells_one (by assumption) (by assumption) | exact cells_agg _ rfl) ?_; clear hL; intro gq wq hL)) | ((with_reducible refine gBox rfl rfl ?_); (refine ev_boxL rfl hL rfl rfl (by first | exact CellsC.of | exact cells_one (by assumption) (by assumption) | exact cells_agg _ rfl) ?_; clear hL; intro gq wq hL)) | ((with_reducible refine gLoad rfl rfl ?_); (first | (refine ev_load1L rfl hL rfl rfl HasV.mem (by rfl) ?_) | (refine ev_loadAllL rfl hL rfl rfl HasV.mem (by rfl) ?_) | (refine ev_loadL rfl hL rfl rfl HasV.mem SegC.seg ?_))) | ((with_reducible refine gStore rfl rfl ?_); (first | (refine ev_storeC rfl hL rfl rfl rfl (by first | exact CellsC.of | exact cells_one (by assumption) (by assumption) | exact cells_agg _ rfl) (by rfl) ?_) | (refine ev_storeAllC rfl hL rfl rfl rfl (by first | exact CellsC.of | exact cells_one (by assumption) (by assumption) | exact cells_agg _ rfl) (by rfl) (by rfl) ?_)); clear hL; intro wq hL) | ((with_reducible refine gLoadG rfl rfl ?_ ?_); (exact wanted_some rfl rfl rfl (by with_reducible rfl)); (first | (refine ev_load1G (wanted_some rfl rfl rfl rfl) hL rfl rfl HasV.mem (by rfl) ?_) | (refine ev_loadAllG (wanted_some rfl rfl rfl rfl) hL rfl rfl HasV.mem (by rfl) ?_) | (refine ev_loadG_ (wanted_some rfl rfl rfl rfl) hL rfl rfl HasV.mem SegC.seg ?_))))
  have ht := ht.below hL.below
  refine wp_region_ext (by kernel_rfl) (by kernel_rfl) ?_
  repeat (first | (go_big_quiet_want; (first | refine quiet_load1L hL rfl rfl HasV.mem (by rfl) ?_ | refine quiet_loadAllL hL rfl rfl HasV.mem (by rfl) ?_ | refine quiet_loadL hL rfl rfl HasV.mem SegC.seg ?_); go_big_quiet_on; simp only [Act.put, List.setIfInBounds_toArray, List.set_cons_succ, List.set_cons_zero]) | (go_big_quiet_want; refine quiet_cat rfl rfl rfl (by simp only [ByteArray.size_append, ByteArray.size_mk']; simp; omega) ?_; go_big_quiet_on; simp only [Act.put, List.setIfInBounds_toArray, List.set_cons_succ, List.set_cons_zero]) | go_big_quiet_step (first
    | (go_at_call 24; with_reducible exact itoa_ext ht _ hb)
    | (go_at_call 24; with_reducible exact itoa_ext ht _ hn)))
  refine wpQuiet_nil ?_
  rintro _ ⟨⟨w2, hb2⟩, rfl⟩
  have hL := hL.call hb2
  go_wp2
  go_ret
  exact ⟨rfl, hL.below⟩
theorem ref29_stamp (m : Mk) (w : World) (hb : I64 m.boot) (hn : I64 m.n) :
    Calls Tryd.prog 27 #[m.val] w fun e w' => e = .returned (.string m.text) ∧ Below w.heap.size w w' := by
  have hL := Loc.nil w NoM
  have h1 := hb.size
  have h2 := hn.size
  go_enter Tryd.func27, Tryd.ntmps27
  go_wp2_with (first | ((with_reducible refine gAlloc rfl rfl ?_); (refine ev_allocL rfl hL rfl (by first | exact CellsC.of | exact cells_one (by assumption) (by assumption) | exact cells_agg _ rfl) ?_; clear hL; intro gq wq hL)) | ((with_reducible refine gBox rfl rfl ?_); (refine ev_boxL rfl hL rfl rfl (by first | exact CellsC.of | exact cells_one (by assumption) (by assumption) | exact cells_agg _ rfl) ?_; clear hL; intro gq wq hL)) | ((with_reducible refine gLoad rfl rfl ?_); (first | (refine ev_load1L rfl hL rfl rfl HasV.mem (by rfl) ?_) | (refine ev_loadAllL rfl hL rfl rfl HasV.mem (by rfl) ?_) | (refine ev_loadL rfl hL rfl rfl HasV.mem SegC.seg ?_))) | ((with_reducible refine gStore rfl rfl ?_); (first | (refine ev_storeC rfl hL rfl rfl rfl (by first | exact CellsC.of | exact cells_one (by assumption) (by assumption) | exact cells_agg _ rfl) (by rfl) ?_) | (refine ev_storeAllC rfl hL rfl rfl rfl (by first | exact CellsC.of | exact cells_one (by assumption) (by assumption) | exact cells_agg _ rfl) (by rfl) (by rfl) ?_)); clear hL; intro wq hL) | ((with_reducible refine gLoadG rfl rfl ?_ ?_); (exact wanted_some rfl rfl rfl (by with_reducible rfl)); (first | (refine ev_load1G (wanted_some rfl rfl rfl rfl) hL rfl rfl HasV.mem (by rfl) ?_) | (refine ev_loadAllG (wanted_some rfl rfl rfl rfl) hL rfl rfl HasV.mem (by rfl) ?_) | (refine ev_loadG_ (wanted_some rfl rfl rfl rfl) hL rfl rfl HasV.mem SegC.seg ?_))))
  refine wp_region_ext (by kernel_rfl) (by kernel_rfl) ?_
  repeat (first | (go_big_quiet_want; (first | refine quiet_load1L hL rfl rfl HasV.mem (by rfl) ?_ | refine quiet_loadAllL hL rfl rfl HasV.mem (by rfl) ?_ | refine quiet_loadL hL rfl rfl HasV.mem SegC.seg ?_); go_big_quiet_on; simp only [Act.put, List.setIfInBounds_toArray, List.set_cons_succ, List.set_cons_zero]) | (go_big_quiet_want; refine quiet_cat rfl rfl rfl (by simp only [ByteArray.size_append, ByteArray.size_mk']; simp; omega) ?_; go_big_quiet_on; simp only [Act.put, List.setIfInBounds_toArray, List.set_cons_succ, List.set_cons_zero]) | go_big_quiet_step (first
    | (go_at_call 28; with_reducible exact digits23_ext _ hb)
    | (go_at_call 28; with_reducible exact digits23_ext _ hn)))
  refine wpQuiet_nil ?_
  rintro _ ⟨⟨w2, hb2⟩, rfl⟩
  have hL := hL.call hb2
  go_wp2
  go_ret
  exact ⟨rfl, hL.below⟩
end Go.Proofs.YtebpacmhdkgfeaaDoor

/- Chapter 29: which stamp is less. -/
namespace Go.Proofs.YtebpacmhdkgfeaaDoor
open Go.RowKit

def Mk.less (a b : Mk) : Bool := if a.boot = b.boot then decide (a.n < b.n) else decide (a.boot < b.boot)
theorem vec_less (a b : Mk) (w : World) :
    Calls Tryd.prog 51 #[a.val, b.val] w fun e w' => e = .returned (.bool (a.less b)) ∧ Below w.heap.size w w' := by
  have hL := Loc.nil w NoM
  by_cases hb : a.boot = b.boot
  · have t0 : (a.boot != b.boot) = false := by simp [hb]
    have HB := Lib.hid hb
    clear hb
    go_enter Tryd.func51, Tryd.ntmps51
    go_wp2_with (first | ((with_reducible refine gAlloc rfl rfl ?_); (refine ev_allocL rfl hL rfl (by first | exact CellsC.of | exact cells_one (by assumption) (by assumption) | exact cells_agg _ rfl) ?_; clear hL; intro gq wq hL)) | ((with_reducible refine gBox rfl rfl ?_); (refine ev_boxL rfl hL rfl rfl (by first | exact CellsC.of | exact cells_one (by assumption) (by assumption) | exact cells_agg _ rfl) ?_; clear hL; intro gq wq hL)) | ((with_reducible refine gLoad rfl rfl ?_); (first | (refine ev_load1L rfl hL rfl rfl HasV.mem (by rfl) ?_) | (refine ev_loadAllL rfl hL rfl rfl HasV.mem (by rfl) ?_) | (refine ev_loadL rfl hL rfl rfl HasV.mem SegC.seg ?_))) | ((with_reducible refine gStore rfl rfl ?_); (first | (refine ev_storeC rfl hL rfl rfl rfl (by first | exact CellsC.of | exact cells_one (by assumption) (by assumption) | exact cells_agg _ rfl) (by rfl) ?_) | (refine ev_storeAllC rfl hL rfl rfl rfl (by first | exact CellsC.of | exact cells_one (by assumption) (by assumption) | exact cells_agg _ rfl) (by rfl) (by rfl) ?_)); clear hL; intro wq hL) | ((with_reducible refine gLoadG rfl rfl ?_ ?_); (exact wanted_some rfl rfl rfl (by with_reducible rfl)); (first | (refine ev_load1G (wanted_some rfl rfl rfl rfl) hL rfl rfl HasV.mem (by rfl) ?_) | (refine ev_loadAllG (wanted_some rfl rfl rfl rfl) hL rfl rfl HasV.mem (by rfl) ?_) | (refine ev_loadG_ (wanted_some rfl rfl rfl rfl) hL rfl rfl HasV.mem SegC.seg ?_))))
    go_ret
    exact ⟨ret_b (by unfold Mk.less; rw [if_pos HB.out]), hL.below⟩
  · have t0 : (a.boot != b.boot) = true := by simp [hb]
    have HB := Lib.hid hb
    clear hb
    go_enter Tryd.func51, Tryd.ntmps51
    go_wp2_with (first | ((with_reducible refine gAlloc rfl rfl ?_); (refine ev_allocL rfl hL rfl (by first | exact CellsC.of | exact cells_one (by assumption) (by assumption) | exact cells_agg _ rfl) ?_; clear hL; intro gq wq hL)) | ((with_reducible refine gBox rfl rfl ?_); (refine ev_boxL rfl hL rfl rfl (by first | exact CellsC.of | exact cells_one (by assumption) (by assumption) | exact cells_agg _ rfl) ?_; clear hL; intro gq wq hL)) | ((with_reducible refine gLoad rfl rfl ?_); (first | (refine ev_load1L rfl hL rfl rfl HasV.mem (by rfl) ?_) | (refine ev_loadAllL rfl hL rfl rfl HasV.mem (by rfl) ?_) | (refine ev_loadL rfl hL rfl rfl HasV.mem SegC.seg ?_))) | ((with_reducible refine gStore rfl rfl ?_); (first | (refine ev_storeC rfl hL rfl rfl rfl (by first | exact CellsC.of | exact cells_one (by assumption) (by assumption) | exact cells_agg _ rfl) (by rfl) ?_) | (refine ev_storeAllC rfl hL rfl rfl rfl (by first | exact CellsC.of | exact cells_one (by assumption) (by assumption) | exact cells_agg _ rfl) (by rfl) (by rfl) ?_)); clear hL; intro wq hL) | ((with_reducible refine gLoadG rfl rfl ?_ ?_); (exact wanted_some rfl rfl rfl (by with_reducible rfl)); (first | (refine ev_load1G (wanted_some rfl rfl rfl rfl) hL rfl rfl HasV.mem (by rfl) ?_) | (refine ev_loadAllG (wanted_some rfl rfl rfl rfl) hL rfl rfl HasV.mem (by rfl) ?_) | (refine ev_loadG_ (wanted_some rfl rfl rfl rfl) hL rfl rfl HasV.mem SegC.seg ?_))))
    go_ret
    exact ⟨ret_b (by unfold Mk.less; rw [if_neg HB.out]), hL.below⟩
theorem stamp_eq (a b : Mk) : ∀ w, (binOp .eql 23 a.val b.val).run Tryd.prog w = .ok (.bool (decide (a = b))) w := by
  have h : eqCells Tryd.prog 3 23 [.int .i64 a.boot, .int .i64 a.n] [.int .i64 b.boot, .int .i64 b.n] = some (a.boot == b.boot && (a.n == b.n && true)) := by kernel_rfl
  have e : (a.boot == b.boot && (a.n == b.n && true)) = decide (a = b) := by
    obtain ⟨a1, a2⟩ := a; obtain ⟨b1, b2⟩ := b
    rw [Bool.eq_iff_iff]; simp
  rw [e] at h
  exact run_eql_cells 3 (by decide) (by kernel_rfl) h
end Go.Proofs.YtebpacmhdkgfeaaDoor

/- Vectors: plain data. -/
namespace Go.Proofs.YtebpacmhdkgfeaaDoor
open Go.RowKit

structure V8 where
  (a0 a1 a2 a3 a4 a5 a6 a7 : Int)
  deriving DecidableEq
namespace V8
def list (v : V8) : List Int := [v.a0, v.a1, v.a2, v.a3, v.a4, v.a5, v.a6, v.a7]
def get (v : V8) (j : Nat) : Int := v.list.getD j 0
abbrev val (v : V8) : Value := .agg #[.int .i64 v.a0, .int .i64 v.a1, .int .i64 v.a2, .int .i64 v.a3, .int .i64 v.a4, .int .i64 v.a5, .int .i64 v.a6, .int .i64 v.a7]
def okN (n : Int) : Bool := decide (0 ≤ n ∧ n ≤ 1099511627776)
def good (v : V8) : Bool := v.list.all okN
theorem list_length (v : V8) : v.list.length = 8 := rfl
theorem take_succ (v : V8) (j : Nat) (h : j < 8) : v.list.take (j + 1) = v.list.take j ++ [v.get j] := by
  rw [List.take_succ_eq_append_getElem (by rw [list_length]; exact h)]
  congr 2
  unfold get
  rw [List.getD_eq_getElem?_getD, List.getElem?_eq_getElem (by rw [list_length]; exact h)]
  rfl
theorem take_all (v : V8) : v.list.take 8 = v.list := rfl
end V8

theorem idx8 (v : V8) (j : Nat) (hj : j < 8) : ∀ w, (Instr.index 25 v.val (.int .i64 (j : Int))).run Tryd.prog w = .ok (.int .i64 (v.get j)) w := by
  have h : j = 0 ∨ j = 1 ∨ j = 2 ∨ j = 3 ∨ j = 4 ∨ j = 5 ∨ j = 6 ∨ j = 7 := by omega
  rcases h with rfl | rfl | rfl | rfl | rfl | rfl | rfl | rfl <;> intro w <;> kernel_rfl

def V8.zero : V8 := ⟨0, 0, 0, 0, 0, 0, 0, 0⟩
def V8.cells (v : V8) : List Value := [.int .i64 v.a0, .int .i64 v.a1, .int .i64 v.a2, .int .i64 v.a3, .int .i64 v.a4, .int .i64 v.a5, .int .i64 v.a6, .int .i64 v.a7]
theorem V8.cells_get (v : V8) (k : Nat) (h : k < 8) : v.cells[k]? = some (.int .i64 (v.get k)) := by
  have e : k = 0 ∨ k = 1 ∨ k = 2 ∨ k = 3 ∨ k = 4 ∨ k = 5 ∨ k = 6 ∨ k = 7 := by omega
  rcases e with rfl | rfl | rfl | rfl | rfl | rfl | rfl | rfl <;> rfl
end Go.Proofs.YtebpacmhdkgfeaaDoor

/- Chapter 29: how two events stand. -/
namespace Go.Proofs.YtebpacmhdkgfeaaDoor
open Go.RowKit

structure Evt where
  at_ : Mk
  vol : Int
  (knew seen : V8)
  (na : Option Addr)
  (nn nc : Nat)
  (la : Option Addr)
  (ln lc : Nat)
def Evt.cells (e : Evt) : List Value := [.int .i64 e.at_.boot, .int .i64 e.at_.n, .int .i64 e.vol, .int .i64 e.knew.a0, .int .i64 e.knew.a1, .int .i64 e.knew.a2, .int .i64 e.knew.a3, .int .i64 e.knew.a4, .int .i64 e.knew.a5, .int .i64 e.knew.a6, .int .i64 e.knew.a7, .int .i64 e.seen.a0, .int .i64 e.seen.a1, .int .i64 e.seen.a2, .int .i64 e.seen.a3, .int .i64 e.seen.a4, .int .i64 e.seen.a5, .int .i64 e.seen.a6, .int .i64 e.seen.a7, .slice e.na e.nn e.nc, .slice e.la e.ln e.lc]
def Evt.cmp (a b : Evt) : Int := if a.at_.less b.at_ = true then -1 else if a.at_ = b.at_ then (if a.vol < b.vol then -1 else if a.vol = b.vol then 0 else 1) else 1
set_option maxHeartbeats 1000000
theorem order_less (a b : Evt) (w : World) (hl : a.at_.less b.at_ = true) (he : decide (a.at_ = b.at_) = false) :
    Calls Tryd.prog 32 #[.agg a.cells.toArray, .agg b.cells.toArray] w fun e w' => e = .returned (.int .i64 (-1)) ∧ Below w.heap.size w w' := by
  have hL := Loc.nil w NoM
  have hq : ∀ w, Hid (Calls Tryd.prog 51 #[.agg #[.int .i64 a.at_.boot, .int .i64 a.at_.n], .agg #[.int .i64 b.at_.boot, .int .i64 b.at_.n]] w fun e w' => e = .returned (.bool true) ∧ Below w.heap.size w w') := fun w => hide (by have q := vec_less a.at_ b.at_ w; rw [hl] at q; exact q)
  have heq : ∀ w, (binOp .eql 23 (.agg #[.int .i64 a.at_.boot, .int .i64 a.at_.n]) (.agg #[.int .i64 b.at_.boot, .int .i64 b.at_.n])).run Tryd.prog w = .ok (.bool false) w := fun w => by have q := stamp_eq a.at_ b.at_ w; rw [he] at q; exact q
  clear hl he
  unfold Evt.cells
  go_enter Tryd.func32, Tryd.ntmps32
  go_wp2_with (first
    | (go_at_call 51; (with_reducible refine (unhide (hq _)).mono ?_); rintro e w3 ⟨rfl, hb3⟩; have hL := hL.call hb3; clear hb3 hq)
    | ((with_reducible refine gAlloc rfl rfl ?_); (refine ev_allocL rfl hL rfl (by first | exact CellsC.of | exact cells_one (by assumption) (by assumption) | exact cells_agg _ rfl) ?_; clear hL; intro gq wq hL)) | ((with_reducible refine gBox rfl rfl ?_); (refine ev_boxL rfl hL rfl rfl (by first | exact CellsC.of | exact cells_one (by assumption) (by assumption) | exact cells_agg _ rfl) ?_; clear hL; intro gq wq hL)) | ((with_reducible refine gLoad rfl rfl ?_); (first | (refine ev_load1L rfl hL rfl rfl HasV.mem (by rfl) ?_) | (refine ev_loadAllL rfl hL rfl rfl HasV.mem (by rfl) ?_) | (refine ev_loadL rfl hL rfl rfl HasV.mem SegC.seg ?_))) | ((with_reducible refine gStore rfl rfl ?_); (first | (refine ev_storeC rfl hL rfl rfl rfl (by first | exact CellsC.of | exact cells_one (by assumption) (by assumption) | exact cells_agg _ rfl) (by rfl) ?_) | (refine ev_storeAllC rfl hL rfl rfl rfl (by first | exact CellsC.of | exact cells_one (by assumption) (by assumption) | exact cells_agg _ rfl) (by rfl) (by rfl) ?_)); clear hL; intro wq hL) | ((with_reducible refine gLoadG rfl rfl ?_ ?_); (exact wanted_some rfl rfl rfl (by with_reducible rfl)); (first | (refine ev_load1G (wanted_some rfl rfl rfl rfl) hL rfl rfl HasV.mem (by rfl) ?_) | (refine ev_loadAllG (wanted_some rfl rfl rfl rfl) hL rfl rfl HasV.mem (by rfl) ?_) | (refine ev_loadG_ (wanted_some rfl rfl rfl rfl) hL rfl rfl HasV.mem SegC.seg ?_))))
  go_ret
  exact ⟨rfl, hL.below⟩
theorem order_vol (a b : Evt) (w : World) (hl : a.at_.less b.at_ = false) (he : decide (a.at_ = b.at_) = true) (hv : a.vol < b.vol) :
    Calls Tryd.prog 32 #[.agg a.cells.toArray, .agg b.cells.toArray] w fun e w' => e = .returned (.int .i64 (-1)) ∧ Below w.heap.size w w' := by
  have hL := Loc.nil w NoM
  have hq : ∀ w, Hid (Calls Tryd.prog 51 #[.agg #[.int .i64 a.at_.boot, .int .i64 a.at_.n], .agg #[.int .i64 b.at_.boot, .int .i64 b.at_.n]] w fun e w' => e = .returned (.bool false) ∧ Below w.heap.size w w') := fun w => hide (by have q := vec_less a.at_ b.at_ w; rw [hl] at q; exact q)
  have heq : ∀ w, (binOp .eql 23 (.agg #[.int .i64 a.at_.boot, .int .i64 a.at_.n]) (.agg #[.int .i64 b.at_.boot, .int .i64 b.at_.n])).run Tryd.prog w = .ok (.bool true) w := fun w => by have q := stamp_eq a.at_ b.at_ w; rw [he] at q; exact q
  clear hl he
  unfold Evt.cells
  go_enter Tryd.func32, Tryd.ntmps32
  go_wp2_with (first
    | (go_at_call 51; (with_reducible refine (unhide (hq _)).mono ?_); rintro e w3 ⟨rfl, hb3⟩; have hL := hL.call hb3; clear hb3 hq)
    | ((with_reducible refine gAlloc rfl rfl ?_); (refine ev_allocL rfl hL rfl (by first | exact CellsC.of | exact cells_one (by assumption) (by assumption) | exact cells_agg _ rfl) ?_; clear hL; intro gq wq hL)) | ((with_reducible refine gBox rfl rfl ?_); (refine ev_boxL rfl hL rfl rfl (by first | exact CellsC.of | exact cells_one (by assumption) (by assumption) | exact cells_agg _ rfl) ?_; clear hL; intro gq wq hL)) | ((with_reducible refine gLoad rfl rfl ?_); (first | (refine ev_load1L rfl hL rfl rfl HasV.mem (by rfl) ?_) | (refine ev_loadAllL rfl hL rfl rfl HasV.mem (by rfl) ?_) | (refine ev_loadL rfl hL rfl rfl HasV.mem SegC.seg ?_))) | ((with_reducible refine gStore rfl rfl ?_); (first | (refine ev_storeC rfl hL rfl rfl rfl (by first | exact CellsC.of | exact cells_one (by assumption) (by assumption) | exact cells_agg _ rfl) (by rfl) ?_) | (refine ev_storeAllC rfl hL rfl rfl rfl (by first | exact CellsC.of | exact cells_one (by assumption) (by assumption) | exact cells_agg _ rfl) (by rfl) (by rfl) ?_)); clear hL; intro wq hL) | ((with_reducible refine gLoadG rfl rfl ?_ ?_); (exact wanted_some rfl rfl rfl (by with_reducible rfl)); (first | (refine ev_load1G (wanted_some rfl rfl rfl rfl) hL rfl rfl HasV.mem (by rfl) ?_) | (refine ev_loadAllG (wanted_some rfl rfl rfl rfl) hL rfl rfl HasV.mem (by rfl) ?_) | (refine ev_loadG_ (wanted_some rfl rfl rfl rfl) hL rfl rfl HasV.mem SegC.seg ?_))))
  go_ret
  exact ⟨rfl, hL.below⟩
theorem order_same (a b : Evt) (w : World) (hl : a.at_.less b.at_ = false) (he : decide (a.at_ = b.at_) = true) (hv : a.vol = b.vol) :
    Calls Tryd.prog 32 #[.agg a.cells.toArray, .agg b.cells.toArray] w fun e w' => e = .returned (.int .i64 (0)) ∧ Below w.heap.size w w' := by
  have hL := Loc.nil w NoM
  have hq : ∀ w, Hid (Calls Tryd.prog 51 #[.agg #[.int .i64 a.at_.boot, .int .i64 a.at_.n], .agg #[.int .i64 b.at_.boot, .int .i64 b.at_.n]] w fun e w' => e = .returned (.bool false) ∧ Below w.heap.size w w') := fun w => hide (by have q := vec_less a.at_ b.at_ w; rw [hl] at q; exact q)
  have heq : ∀ w, (binOp .eql 23 (.agg #[.int .i64 a.at_.boot, .int .i64 a.at_.n]) (.agg #[.int .i64 b.at_.boot, .int .i64 b.at_.n])).run Tryd.prog w = .ok (.bool true) w := fun w => by have q := stamp_eq a.at_ b.at_ w; rw [he] at q; exact q
  have t1 : decide (a.vol < b.vol) = false := by simp; omega
  have t2 : (a.vol == b.vol) = true := by simp [hv]
  have hv2 : ¬ a.vol < b.vol := by omega
  clear hl he hv
  unfold Evt.cells
  go_enter Tryd.func32, Tryd.ntmps32
  go_wp2_with (first
    | (go_at_call 51; (with_reducible refine (unhide (hq _)).mono ?_); rintro e w3 ⟨rfl, hb3⟩; have hL := hL.call hb3; clear hb3 hq)
    | ((with_reducible refine gAlloc rfl rfl ?_); (refine ev_allocL rfl hL rfl (by first | exact CellsC.of | exact cells_one (by assumption) (by assumption) | exact cells_agg _ rfl) ?_; clear hL; intro gq wq hL)) | ((with_reducible refine gBox rfl rfl ?_); (refine ev_boxL rfl hL rfl rfl (by first | exact CellsC.of | exact cells_one (by assumption) (by assumption) | exact cells_agg _ rfl) ?_; clear hL; intro gq wq hL)) | ((with_reducible refine gLoad rfl rfl ?_); (first | (refine ev_load1L rfl hL rfl rfl HasV.mem (by rfl) ?_) | (refine ev_loadAllL rfl hL rfl rfl HasV.mem (by rfl) ?_) | (refine ev_loadL rfl hL rfl rfl HasV.mem SegC.seg ?_))) | ((with_reducible refine gStore rfl rfl ?_); (first | (refine ev_storeC rfl hL rfl rfl rfl (by first | exact CellsC.of | exact cells_one (by assumption) (by assumption) | exact cells_agg _ rfl) (by rfl) ?_) | (refine ev_storeAllC rfl hL rfl rfl rfl (by first | exact CellsC.of | exact cells_one (by assumption) (by assumption) | exact cells_agg _ rfl) (by rfl) (by rfl) ?_)); clear hL; intro wq hL) | ((with_reducible refine gLoadG rfl rfl ?_ ?_); (exact wanted_some rfl rfl rfl (by with_reducible rfl)); (first | (refine ev_load1G (wanted_some rfl rfl rfl rfl) hL rfl rfl HasV.mem (by rfl) ?_) | (refine ev_loadAllG (wanted_some rfl rfl rfl rfl) hL rfl rfl HasV.mem (by rfl) ?_) | (refine ev_loadG_ (wanted_some rfl rfl rfl rfl) hL rfl rfl HasV.mem SegC.seg ?_))))
  go_ret
  exact ⟨rfl, hL.below⟩
theorem order_volgt (a b : Evt) (w : World) (hl : a.at_.less b.at_ = false) (he : decide (a.at_ = b.at_) = true) (hv : ¬ a.vol < b.vol) (hv2 : ¬ a.vol = b.vol) :
    Calls Tryd.prog 32 #[.agg a.cells.toArray, .agg b.cells.toArray] w fun e w' => e = .returned (.int .i64 (1)) ∧ Below w.heap.size w w' := by
  have hL := Loc.nil w NoM
  have hq : ∀ w, Hid (Calls Tryd.prog 51 #[.agg #[.int .i64 a.at_.boot, .int .i64 a.at_.n], .agg #[.int .i64 b.at_.boot, .int .i64 b.at_.n]] w fun e w' => e = .returned (.bool false) ∧ Below w.heap.size w w') := fun w => hide (by have q := vec_less a.at_ b.at_ w; rw [hl] at q; exact q)
  have heq : ∀ w, (binOp .eql 23 (.agg #[.int .i64 a.at_.boot, .int .i64 a.at_.n]) (.agg #[.int .i64 b.at_.boot, .int .i64 b.at_.n])).run Tryd.prog w = .ok (.bool true) w := fun w => by have q := stamp_eq a.at_ b.at_ w; rw [he] at q; exact q
  have t1 : decide (a.vol < b.vol) = false := by simp; omega
  have t2 : (a.vol == b.vol) = false := by simp [hv2]
  clear hl he
  unfold Evt.cells
  go_enter Tryd.func32, Tryd.ntmps32
  go_wp2_with (first
    | (go_at_call 51; (with_reducible refine (unhide (hq _)).mono ?_); rintro e w3 ⟨rfl, hb3⟩; have hL := hL.call hb3; clear hb3 hq)
    | ((with_reducible refine gAlloc rfl rfl ?_); (refine ev_allocL rfl hL rfl (by first | exact CellsC.of | exact cells_one (by assumption) (by assumption) | exact cells_agg _ rfl) ?_; clear hL; intro gq wq hL)) | ((with_reducible refine gBox rfl rfl ?_); (refine ev_boxL rfl hL rfl rfl (by first | exact CellsC.of | exact cells_one (by assumption) (by assumption) | exact cells_agg _ rfl) ?_; clear hL; intro gq wq hL)) | ((with_reducible refine gLoad rfl rfl ?_); (first | (refine ev_load1L rfl hL rfl rfl HasV.mem (by rfl) ?_) | (refine ev_loadAllL rfl hL rfl rfl HasV.mem (by rfl) ?_) | (refine ev_loadL rfl hL rfl rfl HasV.mem SegC.seg ?_))) | ((with_reducible refine gStore rfl rfl ?_); (first | (refine ev_storeC rfl hL rfl rfl rfl (by first | exact CellsC.of | exact cells_one (by assumption) (by assumption) | exact cells_agg _ rfl) (by rfl) ?_) | (refine ev_storeAllC rfl hL rfl rfl rfl (by first | exact CellsC.of | exact cells_one (by assumption) (by assumption) | exact cells_agg _ rfl) (by rfl) (by rfl) ?_)); clear hL; intro wq hL) | ((with_reducible refine gLoadG rfl rfl ?_ ?_); (exact wanted_some rfl rfl rfl (by with_reducible rfl)); (first | (refine ev_load1G (wanted_some rfl rfl rfl rfl) hL rfl rfl HasV.mem (by rfl) ?_) | (refine ev_loadAllG (wanted_some rfl rfl rfl rfl) hL rfl rfl HasV.mem (by rfl) ?_) | (refine ev_loadG_ (wanted_some rfl rfl rfl rfl) hL rfl rfl HasV.mem SegC.seg ?_))))
  go_ret
  exact ⟨rfl, hL.below⟩
theorem order_more (a b : Evt) (w : World) (hl : a.at_.less b.at_ = false) (he : decide (a.at_ = b.at_) = false) :
    Calls Tryd.prog 32 #[.agg a.cells.toArray, .agg b.cells.toArray] w fun e w' => e = .returned (.int .i64 (1)) ∧ Below w.heap.size w w' := by
  have hL := Loc.nil w NoM
  have hq : ∀ w, Hid (Calls Tryd.prog 51 #[.agg #[.int .i64 a.at_.boot, .int .i64 a.at_.n], .agg #[.int .i64 b.at_.boot, .int .i64 b.at_.n]] w fun e w' => e = .returned (.bool false) ∧ Below w.heap.size w w') := fun w => hide (by have q := vec_less a.at_ b.at_ w; rw [hl] at q; exact q)
  have heq : ∀ w, (binOp .eql 23 (.agg #[.int .i64 a.at_.boot, .int .i64 a.at_.n]) (.agg #[.int .i64 b.at_.boot, .int .i64 b.at_.n])).run Tryd.prog w = .ok (.bool false) w := fun w => by have q := stamp_eq a.at_ b.at_ w; rw [he] at q; exact q
  clear hl he
  unfold Evt.cells
  go_enter Tryd.func32, Tryd.ntmps32
  go_wp2_with (first
    | (go_at_call 51; (with_reducible refine (unhide (hq _)).mono ?_); rintro e w3 ⟨rfl, hb3⟩; have hL := hL.call hb3; clear hb3 hq)
    | ((with_reducible refine gAlloc rfl rfl ?_); (refine ev_allocL rfl hL rfl (by first | exact CellsC.of | exact cells_one (by assumption) (by assumption) | exact cells_agg _ rfl) ?_; clear hL; intro gq wq hL)) | ((with_reducible refine gBox rfl rfl ?_); (refine ev_boxL rfl hL rfl rfl (by first | exact CellsC.of | exact cells_one (by assumption) (by assumption) | exact cells_agg _ rfl) ?_; clear hL; intro gq wq hL)) | ((with_reducible refine gLoad rfl rfl ?_); (first | (refine ev_load1L rfl hL rfl rfl HasV.mem (by rfl) ?_) | (refine ev_loadAllL rfl hL rfl rfl HasV.mem (by rfl) ?_) | (refine ev_loadL rfl hL rfl rfl HasV.mem SegC.seg ?_))) | ((with_reducible refine gStore rfl rfl ?_); (first | (refine ev_storeC rfl hL rfl rfl rfl (by first | exact CellsC.of | exact cells_one (by assumption) (by assumption) | exact cells_agg _ rfl) (by rfl) ?_) | (refine ev_storeAllC rfl hL rfl rfl rfl (by first | exact CellsC.of | exact cells_one (by assumption) (by assumption) | exact cells_agg _ rfl) (by rfl) (by rfl) ?_)); clear hL; intro wq hL) | ((with_reducible refine gLoadG rfl rfl ?_ ?_); (exact wanted_some rfl rfl rfl (by with_reducible rfl)); (first | (refine ev_load1G (wanted_some rfl rfl rfl rfl) hL rfl rfl HasV.mem (by rfl) ?_) | (refine ev_loadAllG (wanted_some rfl rfl rfl rfl) hL rfl rfl HasV.mem (by rfl) ?_) | (refine ev_loadG_ (wanted_some rfl rfl rfl rfl) hL rfl rfl HasV.mem SegC.seg ?_))))
  go_ret
  exact ⟨rfl, hL.below⟩
theorem Mk.less_ne (a b : Mk) (h : a.less b = true) : decide (a = b) = false := by
  rw [decide_eq_false_iff_not]
  rintro rfl
  unfold Mk.less at h
  rw [if_pos rfl] at h
  simp at h
theorem story_order (a b : Evt) (w : World) :
    Calls Tryd.prog 32 #[.agg a.cells.toArray, .agg b.cells.toArray] w fun e w' => e = .returned (.int .i64 (a.cmp b)) ∧ Below w.heap.size w w' := by
  unfold Evt.cmp
  cases hl : a.at_.less b.at_
  · rw [if_neg (by simp)]
    by_cases he : a.at_ = b.at_
    · rw [if_pos he]
      by_cases hv : a.vol < b.vol
      · rw [if_pos hv]; exact order_vol a b w hl (by simpa using he) hv
      · rw [if_neg hv]
        by_cases hv2 : a.vol = b.vol
        · rw [if_pos hv2]; exact order_same a b w hl (by simpa using he) hv2
        · rw [if_neg hv2]; exact order_volgt a b w hl (by simpa using he) hv hv2
    · rw [if_neg he]; exact order_more a b w hl (by simpa using he)
  · rw [if_pos rfl]; exact order_less a b w hl (Mk.less_ne _ _ hl)
end Go.Proofs.YtebpacmhdkgfeaaDoor

/- Events on rows: a literal as a row of one's own; append of a slice that reads. Over any program. -/
namespace Go.Proofs.YtebpacmhdkgfeaaDoor
open Go.RowKit
/-- A row that is not there yet. -/
theorem Loc.rowOff {α : Type} {w0 w : World} {M : Nat → Prop} {l : List Item} (h : Loc w0 M w l) (E : Enc α) (base : Nat) (e : TypeId) : Loc w0 M w (row E base e (.slice none 0 0) [] :: l) :=
  h.callNew (Below.refl _ _) (row_at (Enc.O.none _ _ _)) fun k hk => by cases hk
section
variable {P : Program} {ops : Array Oper} {rest : List Oper} {o : Oper} {a : Act} {Q : Exit → Act → World → Prop} {W w0 : World} {M : Nat → Prop} {l : List Item}
/-- A slice made of its parts, as a row of one's own. -/
theorem ev_litRow {α : Type} {E : Enc α} {t : TypeId} {n : Nat} {parts : Array (Nat × Operand)} {e : TypeId} {z : Value} {base : Nat} (xs : List α) [ht : SliceT P t e] [hz : ZeroT P e z] [hs : SizeT P e E.sz] (hgd : o.guard = none) (hL : Loc w0 M W l) (ho : o.op = .buildSlice t n parts)
    (hn : decide (n * E.sz ≤ 16777216) = true) (h0 : decide (0 < n * E.sz) = true) (hfill : Instr.fill (fun i => some (i * E.sz, E.sz)) ((Array.range (n * E.sz)).map fun j => z.cells[j % z.cells.size]!) (parts.map fun (i, x) => (i, a.eval x)).toList = some (E.all xs).toArray)
    (hl : xs.length = n) (hbase : base ≤ w0.heap.size)
    (h : ∀ g w1, Loc w0 M w1 (row E base e (.slice (some ⟨g, 0, none⟩) n n) xs :: l) → wpList P ops Q rest (a.put o.dst (.slice (some ⟨g, 0, none⟩) n n)) w1) : wpList P ops Q (o :: rest) a W := by
  have hm : xs.length ≤ maxLen := by
    have h1 := of_decide_eq_true hn
    have h2 := E.pos
    have h3 : n ≤ n * E.sz := Nat.le_mul_of_pos_right n h2
    rw [hl]; unfold maxLen; omega
  have hb : base ≤ W.heap.size := Nat.le_trans hbase hL.size
  refine event hgd (v := .slice (some ⟨W.heap.size, 0, none⟩) n n) (w1 := W.alloc (.cells (E.all xs).toArray e)) ?_ (h _ _ (hL.callNew (bl_alloc (Below.refl _ _) _) (row_at (by have := Enc.O.lit (E := E) (w := W) (base := base) (e := e) (E.all xs).toArray xs rfl hb hm; rw [hl] at this; exact this)) fun k hk => by
    have hk' : (Value.slice (some ⟨W.heap.size, 0, none⟩) n n).ownBlock = some k := hk
    simp [Value.ownBlock] at hk'
    omega))
  obtain ⟨i, hi, hzz⟩ := Option.map_eq_some_iff.1 hz.zero
  have hsz : i.size = E.sz := by have := hs.size; simpa [hi] using this
  have h1 : ¬ n * E.sz > 2 ^ 24 := by have := of_decide_eq_true hn; omega
  have h2 : ¬ n * E.sz = 0 := by have := of_decide_eq_true h0; omega
  simp at hfill
  simp [execOp, ho, Instr.buildSlice, run_underlying ht.slice, sizeOf, typeInfo, hi, hsz, zeroValue, hzz, h1, h2, hfill, newRow]
/-- The empty literal. -/
theorem ev_lit0 {α : Type} (E : Enc α) {t e : TypeId} {z : Value} (base : Nat) [ht : SliceT P t e] [hz : ZeroT P e z] [hs : SizeT P e E.sz] (hgd : o.guard = none) (hL : Loc w0 M W l) (ho : o.op = .buildSlice t 0 #[]) (hbase : base ≤ w0.heap.size)
    (h : ∀ g w1, Loc w0 M w1 (row E base e (.slice (some ⟨g, 0, none⟩) 0 0) [] :: l) → wpList P ops Q rest (a.put o.dst (.slice (some ⟨g, 0, none⟩) 0 0)) w1) : wpList P ops Q (o :: rest) a W := by
  have hb : base ≤ W.heap.size := Nat.le_trans hbase hL.size
  refine event hgd (v := .slice (some ⟨W.heap.size, 0, none⟩) 0 0) (w1 := W.alloc (.cells #[] e)) ?_ (h _ _ (hL.callNew (bl_alloc (Below.refl _ _) _) (row_at (Enc.O.lit (E := E) (w := W) (base := base) (e := e) #[] [] rfl hb (by simp [maxLen]))) fun k hk => by
    have hk' : (Value.slice (some ⟨W.heap.size, 0, none⟩) 0 0).ownBlock = some k := hk
    simp [Value.ownBlock] at hk'
    omega))
  obtain ⟨i, hi, hzz⟩ := Option.map_eq_some_iff.1 hz.zero
  have hsz : i.size = E.sz := by have := hs.size; simpa [hi] using this
  simp [execOp, ho, Instr.buildSlice, run_underlying ht.slice, sizeOf, typeInfo, hi, hsz, zeroValue, hzz, Instr.fill, newRow]
  congr 2
  exact Array.eq_empty_of_size_eq_zero (by simp)
/-- append of what a slice reads as onto a row of one's own. -/
theorem ev_appL {α : Type} {E : Enc α} {s x : Operand} {t e : TypeId} {z : Value} {by_ : Nat} {base : Nat} {v xv : Value} {xs : List α} {f : Value → List Item} [ht : SliceT P t e] [hz : ZeroT P e z] [hsz : SizeT P e E.sz] [hb : BytesT P e by_]
    (ys : List α) (hgd : o.guard = none) (hL : Loc w0 M W l) (ho : o.op = .call { callee := .builtin .append, args := #[s, x], argTypes := #[t, t] }) (hs : a.eval s = v) (hx : a.eval x = xv)
    (hR : E.R W xv ys) (hsw : ∀ v', Swap (row E base e v xs) (row E base e v' (xs ++ ys)) l (f v')) (hzc : z.cells.size = E.sz) (hby : decide (by_ ≤ 1000) = true) (h63 : xs.length + ys.length ≤ 100000000000) (hbase : base ≤ W.heap.size)
    (h : ∀ v' w1, Loc w0 M w1 (f v') → wpList P ops Q rest (a.put o.dst v') w1) : wpList P ops Q (o :: rest) a W := by
  have hown : E.O W base e v xs := hL.own (hsw v).mem
  refine Enc.app (E := E) hgd s x t t ho z by_ ht.slice info_of hzc hs hown hx (hR.src ht.slice) h63 (of_decide_eq_true hby) hbase ?_
  intro v' w1 h1 h2 h3
  exact h v' w1 (hL.grow (hsw _) h2 h1 (h3.imp id fun h => ⟨_, h, Nat.le_refl _⟩))
end
end Go.Proofs.YtebpacmhdkgfeaaDoor

/- Events on rows: a store of an element; '[]byte(s)' as bytes that may be written. Over any program. -/
namespace Go.Proofs.YtebpacmhdkgfeaaDoor
open Go.RowKit

theorem bytesWorld_frozen (w : World) (e : TypeId) (s : ByteArray) (j : Nat) (hj : j < s.size) : (Lib.bytesWorld w e s).frozen? ⟨w.heap.size, j, none⟩ = false := by
  have hs : s.data.size = s.size := rfl
  have h : ¬ (Lib.bytesCells w e s).size ≤ j := by
    simp [Lib.bytesCells]
    omega
  simp [World.frozen?, Lib.bytesWorld_at_new, h]
/-- '[]byte(s)', named, its bytes free to be written. -/
theorem ev_s2bF {P : Program} {ops : Array Oper} {rest : List Oper} {o : Oper} {a : Act} {Q : Exit → Act → World → Prop} {W : World} {src dst e : TypeId} {x : Operand} {s : ByteArray} [hd : SliceT P dst e] (hgd : o.guard = none) (ho : o.op = .convert src dst x) (hx : a.eval x = .string s)
    (hs : P.underlying src = some .string) (he : P.underlying e = some (.int .u8))
    (h : ∀ g c w1, Below W.heap.size W w1 → W.heap.size ≤ g → s.size ≤ c → (∀ j, j < s.size → w1.cell? ⟨g, j, none⟩ = some (.int .u8 (s.data.toList.getD j 0).toNat)) → (∀ j, j < s.size → w1.frozen? ⟨g, j, none⟩ = false) →
      wpList P ops Q rest (a.put o.dst (.slice (some ⟨g, 0, none⟩) s.size c)) w1) : wpList P ops Q (o :: rest) a W := by
  refine event hgd (v := .slice (some ⟨W.heap.size, 0, none⟩) s.size (grownCap W s.size 0 e)) (w1 := Lib.bytesWorld W e s) ?_ (h _ _ _ ⟨rfl, rfl, rfl, ?_, fun k hk => Lib.bytesWorld_at_old W e s k hk⟩ (Nat.le_refl _) (grownCap_ge W s.size 0 e) (fun j hj => Lib.bytesWorld_cell W e s j hj) (fun j hj => bytesWorld_frozen W e s j hj))
  · simp only [execOp, ho, hx, Sem.run_bind, Lib.run_convert_string_bytes W src dst e s hs hd.slice he, Result.andThen_ok, Sem.run_pure]
  · rw [Lib.bytesWorld_size]; omega
/-- Bytes by their cells. -/
theorem read_cells {w : World} {g c : Nat} (l : List UInt8) (hc : l.length ≤ c) (hm : l.length ≤ 9223372036854775807) (h : ∀ j, j < l.length → w.cell? ⟨g, j, none⟩ = some (.int .u8 (l.getD j 0).toNat)) : encB.R w (.slice (some ⟨g, 0, none⟩) l.length c) l := by
  refine ⟨by rw [Enc.all_length], _, c, rfl, hc, hm, .inr ⟨_, rfl, fun j u hu => ?_⟩⟩
  rw [encB_all] at hu
  have hj : j < l.length := by have := (List.getElem?_eq_some_iff.1 hu).1; simpa using this
  have e1 : (⟨g, 0, none⟩ : Addr).add j = ⟨g, j, none⟩ := by unfold Addr.add; split <;> simp_all
  rw [e1, h j hj]
  rw [List.getElem?_map, List.getElem?_eq_getElem hj] at hu
  simp only [Option.map_some, Option.some.injEq] at hu
  rw [← hu]
  simp [List.getD_eq_getElem?_getD, List.getElem?_eq_getElem hj]

/-! ### A store of an element of a row of one's own -/
theorem Enc.all_set {α : Type} (E : Enc α) (xs : List α) (i : Nat) (hi : i < xs.length) (y : α) : E.all (xs.set i y) = (E.all xs).take (i * E.sz) ++ E.cells y ++ (E.all xs).drop (i * E.sz + E.sz) := by
  induction xs generalizing i with
  | nil => simp at hi
  | cons x xs ih =>
    have h : E.all (x :: xs) = E.cells x ++ E.all xs := by simp [Enc.all]
    cases i with
    | zero =>
      have h2 : E.all ((x :: xs).set 0 y) = E.cells y ++ E.all xs := by simp [Enc.all]
      rw [h2, h]
      simp [List.drop_append, E.len]
    | succ i =>
      have h2 : E.all ((x :: xs).set (i + 1) y) = E.cells x ++ E.all (xs.set i y) := by simp [Enc.all]
      have e1 : (i + 1) * E.sz = E.sz + i * E.sz := by rw [Nat.add_mul]; omega
      rw [h2, h, ih i (by simpa using hi), e1, List.take_append, List.drop_append]
      rw [List.take_of_length_le (l := E.cells x) (by rw [E.len]; omega), E.len, List.drop_of_length_le (l := E.cells x) (by rw [E.len]; omega)]
      simp only [List.append_assoc, List.nil_append]
      rw [Nat.add_sub_cancel_left, show E.sz + i * E.sz + E.sz - E.sz = i * E.sz + E.sz from by omega]
section
variable {P : Program} {ops : Array Oper} {rest : List Oper} {o : Oper} {a : Act} {Q : Exit → Act → World → Prop} {W w0 : World} {M : Nat → Prop} {l l' : List Item}
theorem O_set {α : Type} {E : Enc α} {w : World} {base g n c : Nat} {e : TypeId} {xs : List α} (h : E.O w base e (.slice (some ⟨g, 0, none⟩) n c) xs) (i : Nat) (hi : i < xs.length) (y : α) :
    ∃ w1, (storeCells ⟨g, i * E.sz, none⟩ (E.cells y) 0).run P w = .ok () w1 ∧ E.O w1 base e (.slice (some ⟨g, 0, none⟩) n c) (xs.set i y) ∧ Mod (· = g) w w1 := by
  obtain ⟨hl, h2⟩ := h
  rcases h2 with ⟨hn, _⟩ | ⟨g', cap, cur, hv, hb, hg, hnc, hcm, hcs, htake⟩
  · cases hn
  · injection hv with hv1 hv2 hv3
    injection hv1 with hv1
    injection hv1 with hv1
    subst hv1 hv2 hv3
    have hsz : i * E.sz + E.sz ≤ xs.length * E.sz := by
      have : (i + 1) * E.sz ≤ xs.length * E.sz := Nat.mul_le_mul_right _ hi
      rw [Nat.add_mul] at this; omega
    have hcap : xs.length * E.sz ≤ c * E.sz := Nat.mul_le_mul_right _ hnc
    have hst := run_storeCells_at P g (i * E.sz) e (E.cells y) 0 cur w hg (by rw [E.len, hcs]; omega) (E.one y)
    simp only [Nat.add_zero, E.len] at hst
    refine ⟨_, hst, ⟨E.all_length _, .inr ⟨g, c, _, by rw [List.length_set], hb, setRow_heap w g cur _ e _ hg, by rw [List.length_set]; exact hnc, hcm, ?_, ?_⟩⟩, ⟨rfl, rfl, rfl, by simp, fun k _ hk => setRow_other w g k _ hk⟩⟩
    · simp only [List.size_toArray, List.length_append, List.length_take, List.length_drop, Array.length_toList, E.len, hcs]
      omega
    · rw [List.length_set, E.all_set xs i hi y, ← htake, List.take_take, Nat.min_eq_left (by omega)]
      have hlen : cur.toList.length = c * E.sz := by rw [Array.length_toList, hcs]
      rw [List.append_assoc, List.append_assoc, List.take_append, List.take_append, List.length_take, hlen, Nat.min_eq_left (a := i * E.sz) (b := c * E.sz) (by omega), E.len,
        List.take_of_length_le (l := cur.toList.take (i * E.sz)) (by rw [List.length_take]; omega), List.take_of_length_le (l := E.cells y) (by rw [E.len]; omega), List.drop_take]
      rw [show xs.length * E.sz - i * E.sz - E.sz = xs.length * E.sz - (i * E.sz + E.sz) from by omega]
theorem ev_setRow {α : Type} {E : Enc α} {ty e : TypeId} {p x : Operand} {g base n c off : Nat} {xs : List α} {v : Value} [hn : SizeT P ty E.sz] (i : Nat) (y : α) (hgd : o.guard = none) (hL : Loc w0 M W l) (ho : o.op = .store ty p x)
    (hp : a.eval p = .pointer (some ⟨g, off, none⟩)) (hoff : off = i * E.sz) (hx : a.eval x = v) (hc : CellsOf v (E.cells y)) (hi : i < xs.length)
    (hs : Swap (row E base e (.slice (some ⟨g, 0, none⟩) n c) xs) (row E base e (.slice (some ⟨g, 0, none⟩) n c) (xs.set i y)) l l')
    (h : ∀ w1, Loc w0 M w1 l' → wpList P ops Q rest (a.put o.dst undef) w1) : wpList P ops Q (o :: rest) a W := by
  subst hoff
  obtain ⟨w1, hst, hO, hm⟩ := O_set (P := P) (hL.own hs.mem) i hi y
  refine wpList_plain hgd fun K hK => ?_
  obtain ⟨inf, hii, hsz⟩ := Option.map_eq_some_iff.1 hn.size
  have hst2 : (storeVar ty ⟨g, i * E.sz, none⟩ v).run P W = .ok () w1 := by
    simp [storeVar, sizeOf, typeInfo, hii, hsz, hc.eq, E.len, hst]
  unfold Oper.wp execOp
  simp only [ho, hp, hx, Instr.storeAt, Instr.sureAddr, Sem.run_bind, Sem.run_pure, Result.andThen_ok, hst2]
  refine hK _ _ (h _ (hL.swap hs (hm.mono fun k _ hk => ?_) (row_at hO) fun _ hk => .inl hk))
  show (Value.slice (some ⟨g, 0, none⟩) n c).ownBlock = some k
  rw [hk]; rfl
end
theorem Loc.gone {w0 w w1 : World} {M : Nat → Prop} {l : List Item} {g : Nat} {cs : List Value} {t : TypeId} (h : Loc w0 M w (var g cs t :: l)) (hp : Put w w1 g) : Loc w0 M w1 l := by
  have hg := h.new (var g cs t) (.head _) g rfl
  have ha := (List.pairwise_cons.1 h.apart).1
  refine ⟨h.mod.trans (Mod.of_put hp) fun b hb hk => ?_, fun i hi => (h.at_ i (.tail _ hi)).keep hp.size fun k hk => hp.block k ((h.at_ i (.tail _ hi)).lt k hk) fun e => ha i hi g rfl (e ▸ hk), fun i hi => h.new i (.tail _ hi), (List.pairwise_cons.1 h.apart).2⟩
  cases hk
  rcases hg with h1 | h1
  · omega
  · exact h1
theorem Loc.turn {w0 w w1 : World} {M : Nat → Prop} {l : List Item} {g : Nat} {cs cs' : List Value} {t : TypeId} (h : Loc w0 M w (var g cs t :: l)) (hp : Put w w1 g) (hx : Box w1 g cs'.toArray t) : Loc w0 M w1 (var g cs' t :: l) := h.put (.here _) hp hx
end Go.Proofs.YtebpacmhdkgfeaaDoor

/- append of zeros onto the nil slice (slices.Grow): room for a row of one's own. What a variable holds, as a slice that reads. Over any program. -/
namespace Go.Proofs.YtebpacmhdkgfeaaDoor
open Go.RowKit

section
variable {P : Program} {ops : Array Oper} {rest : List Oper} {o : Oper} {a : Act} {Q : Exit → Act → World → Prop} {W w0 : World} {M : Nat → Prop} {l : List Item}
theorem ev_growNil {α : Type} (E : Enc α) {s x : Operand} {t tn e : TypeId} {z : Value} {by_ n : Nat} {k kn : IntKind} (base : Nat) [ht : SliceT P t e] [hz : ZeroT P e z] [hsz : SizeT P e E.sz] [hb : BytesT P e by_]
    (hgd : o.guard = none) (hL : Loc w0 M W l) (ho : o.op = .call { callee := .builtin .append, args := #[s, x], argTypes := #[t, tn] }) (hs : a.eval s = .slice none 0 0) (hx : a.eval x = .int k (n : Int)) (htn : P.underlying tn = some (.int kn))
    (hzc : z.cells.size = E.sz) (hby : decide (by_ ≤ 1000) = true) (h0 : 0 < n) (hn : n ≤ 100000000000) (hbase : base ≤ w0.heap.size)
    (h : ∀ g G w1, n ≤ G → G ≤ 9223372036854775807 → Loc w0 M w1 (row E base e (.slice (some ⟨g, 0, none⟩) 0 G) [] :: l) → wpList P ops Q rest (a.put o.dst (.slice (some ⟨g, 0, none⟩) n G)) w1) : wpList P ops Q (o :: rest) a W := by
  obtain ⟨i, hi, hzz⟩ := Option.map_eq_some_iff.1 hz.zero
  have his : i.size = E.sz := by have := hsz.size; simpa [hi] using this
  have hib : i.bytes = by_ := by have := hb.bytes; simpa [hi] using this
  have hb1 := of_decide_eq_true hby
  have hp := E.pos
  have hbig : n * i.bytes ≤ 140737488355328 := by
    rw [hib]
    calc n * by_ ≤ 100000000000 * 1000 := Nat.mul_le_mul hn hb1
      _ ≤ 140737488355328 := by decide
  have hr := Lib.run_append_grow_zeros W t tn o.type e i z k kn ht.slice htn hi hzz none 0 0 [] (run_firstCells_none W.drew i.size 0 0 0) n h0 (by rw [his]; exact hp) (by omega) (by omega) (by omega) (growslice_fits (by omega) (by rw [Nat.zero_add]; exact hbig))
  rw [Nat.zero_add] at hr
  have hG := grownCap_ge W n 0 e
  have hG63 := grownCap_le_maxLen W n 0 e (by unfold maxLen; omega)
  generalize grownCap W n 0 e = G at *
  unfold maxLen at hG63
  have hbb : base ≤ W.heap.size := Nat.le_trans hbase hL.size
  refine event hgd (v := .slice (some ⟨W.heap.size, 0, none⟩) n G) ?_ (h W.heap.size G _ hG (by omega) (hL.callNew (w1 := W.drew.alloc (.cells (#[] ++ Builtin.zeroCells z.cells n ++ Builtin.zeroCells z.cells (G - n)) e)) (bl_alloc (show Below W.heap.size W W.drew from ⟨rfl, rfl, rfl, Nat.le_refl _, fun _ _ => rfl⟩) _) (row_at ⟨by simp [Enc.all], .inr ⟨W.heap.size, G, #[] ++ Builtin.zeroCells z.cells n ++ Builtin.zeroCells z.cells (G - n), rfl, hbb, ?_, by simp, by unfold maxLen; omega, ?_, by simp [Enc.all]⟩⟩) fun k hk => ?_))
  · simp only [execOp, ho, resolve, invoke, builtin, Sem.run_bind, Sem.run_pure, Result.andThen_ok, List.map_toArray, List.map_cons, List.map_nil, hs, hx, hr]
  · exact heap_alloc_new W.drew _
  · simp only [Array.empty_append, Array.size_append, Builtin.zeroCells, Array.size_map, Array.size_range, hzc, ← Nat.add_mul]
    congr 1
    omega
  · have hk' : (Value.slice (some ⟨W.heap.size, 0, none⟩) 0 G).ownBlock = some k := hk
    simp [Value.ownBlock] at hk'
    omega
end
/-- A call that hands back a row of its own. -/
theorem Loc.takeRow {α : Type} {E : Enc α} {w0 w w1 : World} {M : Nat → Prop} {l : List Item} {e : TypeId} {v : Value} {xs : List α} (h : Loc w0 M w l) (h3 : Loc w NoM w1 [row E w.heap.size e v xs]) : Loc w0 M w1 (row E w0.heap.size e v xs :: l) :=
  h.callNew h3.below (row_at ((h3.own (.head _)).weaken h.size)) fun k hk => (h3.new _ (.head _) k hk).elim id fun h => h.elim
/-- What a variable holds whole, as a slice of so many. -/
theorem R_box {α : Type} {E : Enc α} {w : World} {g : Nat} {cs : List Value} {t : TypeId} (xs : List α) (h : Box w g cs.toArray t) (hc : cs = E.all xs) (hm : xs.length ≤ 9223372036854775807) : E.R w (.slice (some ⟨g, 0, none⟩) xs.length xs.length) xs := by
  subst hc
  refine ⟨by rw [Enc.all_length], some ⟨g, 0, none⟩, xs.length, rfl, Nat.le_refl _, hm, .inr ⟨_, rfl, fun j u hj => ?_⟩⟩
  have ha : (⟨g, 0, none⟩ : Addr).add j = ⟨g, j, none⟩ := by unfold Addr.add; split <;> simp_all
  rw [ha, h.cell j]
  simpa using hj
/-- A slice's three parts. -/
structure Sl where
  a : Option Addr
  (n c : Nat)
def Sl.val (s : Sl) : Value := .slice s.a s.n s.c
def encSl : Enc Sl := ⟨1, by decide, fun s => [.slice s.a s.n s.c], fun _ => rfl, fun _ u hu => by rw [List.mem_singleton.1 hu]; rfl⟩
end Go.Proofs.YtebpacmhdkgfeaaDoor

/- States as they lie in memory, and what they say. -/
namespace Go.Proofs.YtebpacmhdkgfeaaDoor
open Go.ChangeShapes Go.WideShapes Go.RowKit Go.Deep

structure Atr where
  at_ : Mk
  (mode time : Int)
  deriving DecidableEq
structure Siz where
  at_ : Mk
  n : Int
  deriving DecidableEq
structure Pce where
  idx : Int
  at_ : Mk
  data : ByteArray
  deriving DecidableEq
structure Xat where
  name : ByteArray
  at_ : Mk
  val : ByteArray
  gone : Bool
  deriving DecidableEq
structure IHd where
  id : Mk
  kind : Int
  text : ByteArray
  attr : Atr
  size : Siz
  deriving DecidableEq
structure Ino where
  hd : IHd
  (p x : Sl)
structure Lnk where
  (id node at_ parent : Mk)
  name : ByteArray
  (alive dead : V8)
  deriving DecidableEq
structure Sta where
  seen : V8
  (nodes links : Sl)
structure InoD where
  hd : IHd
  ps : List Pce
  xs : List Xat
  deriving DecidableEq
/-- An inode as it lies there, and what it says. -/
structure Nd where
  s : Ino
  d : InoD
structure StaD where
  seen : V8
  nodes : List InoD
  links : List Lnk
  deriving DecidableEq
def Pce.cells (p : Pce) : List Value := [.int .i64 p.idx, .int .i64 p.at_.boot, .int .i64 p.at_.n, .string p.data]
def Xat.cells (x : Xat) : List Value := [.string x.name, .int .i64 x.at_.boot, .int .i64 x.at_.n, .string x.val, .bool x.gone]
def Ino.cells (i : Ino) : List Value := [.int .i64 i.hd.id.boot, .int .i64 i.hd.id.n, .int .i64 i.hd.kind, .string i.hd.text, .int .i64 i.hd.attr.at_.boot, .int .i64 i.hd.attr.at_.n, .int .i64 i.hd.attr.mode, .int .u64 i.hd.attr.time,
  .int .i64 i.hd.size.at_.boot, .int .i64 i.hd.size.at_.n, .int .i64 i.hd.size.n, .slice i.p.a i.p.n i.p.c, .slice i.x.a i.x.n i.x.c]
def Lnk.cells (l : Lnk) : List Value := [.int .i64 l.id.boot, .int .i64 l.id.n, .int .i64 l.node.boot, .int .i64 l.node.n, .int .i64 l.at_.boot, .int .i64 l.at_.n, .int .i64 l.parent.boot, .int .i64 l.parent.n, .string l.name,
  .int .i64 l.alive.a0, .int .i64 l.alive.a1, .int .i64 l.alive.a2, .int .i64 l.alive.a3, .int .i64 l.alive.a4, .int .i64 l.alive.a5, .int .i64 l.alive.a6, .int .i64 l.alive.a7,
  .int .i64 l.dead.a0, .int .i64 l.dead.a1, .int .i64 l.dead.a2, .int .i64 l.dead.a3, .int .i64 l.dead.a4, .int .i64 l.dead.a5, .int .i64 l.dead.a6, .int .i64 l.dead.a7]
def Sta.cells (s : Sta) : List Value := [.int .i64 s.seen.a0, .int .i64 s.seen.a1, .int .i64 s.seen.a2, .int .i64 s.seen.a3, .int .i64 s.seen.a4, .int .i64 s.seen.a5, .int .i64 s.seen.a6, .int .i64 s.seen.a7, .slice s.nodes.a s.nodes.n s.nodes.c, .slice s.links.a s.links.n s.links.c]
theorem ones_of {cs : List Value} (h : cs.all (·.oneCell') = true) : ∀ u ∈ cs, u.oneCell' = true := fun u hu => List.all_eq_true.1 h u hu
def encPc : Enc Pce := ⟨4, by decide, Pce.cells, fun _ => rfl, fun _ => ones_of rfl⟩
def encXt : Enc Xat := ⟨5, by decide, Xat.cells, fun _ => rfl, fun _ => ones_of rfl⟩
def encN : Enc Nd := ⟨13, by decide, fun n => n.s.cells, fun _ => rfl, fun _ => ones_of rfl⟩
def encK : Enc Lnk := ⟨25, by decide, Lnk.cells, fun _ => rfl, fun _ => ones_of rfl⟩
instance : SizeT Tryd.prog 80 encPc.sz := inferInstanceAs (SizeT Tryd.prog 80 4)
instance : SizeT Tryd.prog 82 encXt.sz := inferInstanceAs (SizeT Tryd.prog 82 5)
instance : SizeT Tryd.prog 62 encN.sz := inferInstanceAs (SizeT Tryd.prog 62 13)
instance : SizeT Tryd.prog 65 encK.sz := inferInstanceAs (SizeT Tryd.prog 65 25)

/-! ### What may lie there -/
structure Mk.I (m : Mk) : Prop where
  b : I64 m.boot
  n : I64 m.n
structure V8.I (v : V8) : Prop where
  all : ∀ k, k < 8 → I64 (v.list.getD k 0)
structure Pce.wf (B : Nat) (p : Pce) : Prop where
  idx : I64 p.idx
  at_ : p.at_.I
  data : p.data.size ≤ B
structure Xat.wf (B : Nat) (x : Xat) : Prop where
  name : x.name.size ≤ B
  at_ : x.at_.I
  val : x.val.size ≤ B
structure IHd.wf (B : Nat) (h : IHd) : Prop where
  id : h.id.I
  kind : I64 h.kind
  text : h.text.size ≤ B
  attr : h.attr.at_.I
  mode : I64 h.attr.mode
  time : 0 ≤ h.attr.time ∧ h.attr.time ≤ 18446744073709551615
  size : h.size.at_.I
  n : I64 h.size.n
structure Lnk.wf (B : Nat) (l : Lnk) : Prop where
  id : l.id.I
  node : l.node.I
  at_ : l.at_.I
  parent : l.parent.I
  name : l.name.size ≤ B
  alive : l.alive.I
  dead : l.dead.I
structure InoD.wf (B : Nat) (d : InoD) : Prop where
  hd : d.hd.wf B
  ps : ∀ p ∈ d.ps, p.wf B
  xs : ∀ x ∈ d.xs, x.wf B
structure StaD.wf (B : Nat) (d : StaD) : Prop where
  seen : d.seen.I
  nodes : ∀ n ∈ d.nodes, n.wf B
  links : ∀ l ∈ d.links, l.wf B

theorem StaD.wf.mono {B B' : Nat} {d : StaD} (h : d.wf B) (hB : B ≤ B') : d.wf B' :=
  ⟨h.seen, fun n hn => ⟨{ (h.nodes n hn).hd with text := Nat.le_trans (h.nodes n hn).hd.text hB }, fun p hp => { (h.nodes n hn).ps p hp with data := Nat.le_trans ((h.nodes n hn).ps p hp).data hB }, fun x hx => { (h.nodes n hn).xs x hx with name := Nat.le_trans ((h.nodes n hn).xs x hx).name hB, val := Nat.le_trans ((h.nodes n hn).xs x hx).val hB }⟩,
    fun l hl => { h.links l hl with name := Nat.le_trans (h.links l hl).name hB }⟩

/-! ### What memory says -/
structure Ino.Ok (w : World) (i : Ino) (d : InoD) : Prop where
  hd : i.hd = d.hd
  ps : encPc.R w i.p.val d.ps
  xs : encXt.R w i.x.val d.xs
structure Sta.Ok (w : World) (s : Sta) (d : StaD) : Prop where
  seen : s.seen = d.seen
  nodes : ∃ ns : List Nd, encN.R w s.nodes.val ns ∧ (∀ n ∈ ns, n.s.Ok w n.d) ∧ ns.map (·.d) = d.nodes
  links : encK.R w s.links.val d.links
theorem Ino.Ok.below {w w1 : World} {i : Ino} {d : InoD} (h : i.Ok w d) (hb : Below w.heap.size w w1) : i.Ok w1 d := ⟨h.hd, h.ps.below hb, h.xs.below hb⟩
theorem Sta.Ok.below {w w1 : World} {s : Sta} {d : StaD} (h : s.Ok w d) (hb : Below w.heap.size w w1) : s.Ok w1 d := by
  obtain ⟨ns, h1, h2, h3⟩ := h.nodes
  exact ⟨h.seen, ⟨ns, h1.below hb, fun n hn => (h2 n hn).below hb, h3⟩, h.links.below hb⟩

/-! ### Opened -/
theorem legs_pc : legs Tryd.prog 6 80 = some [.int .i64, .int .i64, .int .i64, .str] := by kernel_rfl
theorem legs_xt : legs Tryd.prog 6 82 = some [.str, .int .i64, .int .i64, .str, .bool] := by kernel_rfl
theorem legs_n : legs Tryd.prog 6 62 = some [.int .i64, .int .i64, .int .i64, .str, .int .i64, .int .i64, .int .i64, .int .u64, .int .i64, .int .i64, .int .i64, .sl 59, .sl 60] := by kernel_rfl
theorem legs_k : legs Tryd.prog 6 65 = some [.int .i64, .int .i64, .int .i64, .int .i64, .int .i64, .int .i64, .int .i64, .int .i64, .str, .int .i64, .int .i64, .int .i64, .int .i64, .int .i64, .int .i64, .int .i64, .int .i64, .int .i64, .int .i64, .int .i64, .int .i64, .int .i64, .int .i64, .int .i64, .int .i64] := by kernel_rfl
theorem legs_s : legs Tryd.prog 6 29 = some [.int .i64, .int .i64, .int .i64, .int .i64, .int .i64, .int .i64, .int .i64, .int .i64, .sl 26, .sl 27] := by kernel_rfl
theorem i64_lit {n : Int} (h : (Lit.int .i64 n).wf = true) : I64 n := by
  have h1 : IntKind.i64.min ≤ n ∧ n ≤ IntKind.i64.max := by simpa [Lit.wf] using h
  exact h1
theorem u64_lit {n : Int} (h : (Lit.int .u64 n).wf = true) : 0 ≤ n ∧ n ≤ 18446744073709551615 := by
  have h1 : IntKind.u64.min ≤ n ∧ n ≤ IntKind.u64.max := by simpa [Lit.wf] using h
  exact h1
theorem v8_i {v : V8} (h0 : I64 v.a0) (h1 : I64 v.a1) (h2 : I64 v.a2) (h3 : I64 v.a3) (h4 : I64 v.a4) (h5 : I64 v.a5) (h6 : I64 v.a6) (h7 : I64 v.a7) : v.I := ⟨fun k hk => by
  have e : k = 0 ∨ k = 1 ∨ k = 2 ∨ k = 3 ∨ k = 4 ∨ k = 5 ∨ k = 6 ∨ k = 7 := by omega
  rcases e with rfl | rfl | rfl | rfl | rfl | rfl | rfl | rfl <;> assumption⟩
section
variable {H : Type} {enc : TypeId × Value → H} {w : World} {base : Nat} {spare : Nat → Bool} {held : Bool} {K : DataW H → Prop} {B : Nat}
theorem open_pc (hK : Keep K B) {fuel : Nat} {cs : List Value} {x : DataW H × List MemPlace} (h : DataW.trod enc Tryd.prog w base spare held fuel 80 cs = some x) (hx : K x.1) : ∃ d : Pce, cs = encPc.cells d ∧ d.wf B := by
  have hf := legs_fits hK 6 _ _ _ _ _ legs_pc h hx
  have hl := hf.length
  match cs, hl with
  | [c0, c1, c2, c3], _ =>
    obtain ⟨⟨n0, rfl, w0⟩, ⟨n1, rfl, w1⟩, ⟨n2, rfl, w2⟩, ⟨s, rfl, ws⟩, -⟩ := hf
    exact ⟨⟨n0, ⟨n1, n2⟩, s⟩, rfl, i64_lit w0, ⟨i64_lit w1, i64_lit w2⟩, ws⟩
theorem open_xt (hK : Keep K B) {fuel : Nat} {cs : List Value} {x : DataW H × List MemPlace} (h : DataW.trod enc Tryd.prog w base spare held fuel 82 cs = some x) (hx : K x.1) : ∃ d : Xat, cs = encXt.cells d ∧ d.wf B := by
  have hf := legs_fits hK 6 _ _ _ _ _ legs_xt h hx
  have hl := hf.length
  match cs, hl with
  | [c0, c1, c2, c3, c4], _ =>
    obtain ⟨⟨s, rfl, ws⟩, ⟨n1, rfl, w1⟩, ⟨n2, rfl, w2⟩, ⟨s2, rfl, ws2⟩, ⟨b, rfl⟩, -⟩ := hf
    exact ⟨⟨s, ⟨n1, n2⟩, s2, b⟩, rfl, ws, ⟨i64_lit w1, i64_lit w2⟩, ws2⟩
theorem open_k (hK : Keep K B) {fuel : Nat} {cs : List Value} {x : DataW H × List MemPlace} (h : DataW.trod enc Tryd.prog w base spare held fuel 65 cs = some x) (hx : K x.1) : ∃ d : Lnk, cs = encK.cells d ∧ d.wf B := by
  have hf := legs_fits hK 6 _ _ _ _ _ legs_k h hx
  have hl := hf.length
  match cs, hl with
  | [c0, c1, c2, c3, c4, c5, c6, c7, c8, c9, c10, c11, c12, c13, c14, c15, c16, c17, c18, c19, c20, c21, c22, c23, c24], _ =>
    obtain ⟨⟨n0, rfl, w0⟩, ⟨n1, rfl, w1⟩, ⟨n2, rfl, w2⟩, ⟨n3, rfl, w3⟩, ⟨n4, rfl, w4⟩, ⟨n5, rfl, w5⟩, ⟨n6, rfl, w6⟩, ⟨n7, rfl, w7⟩, ⟨s, rfl, ws⟩, ⟨m0, rfl, v0⟩, ⟨m1, rfl, v1⟩, ⟨m2, rfl, v2⟩, ⟨m3, rfl, v3⟩, ⟨m4, rfl, v4⟩, ⟨m5, rfl, v5⟩, ⟨m6, rfl, v6⟩, ⟨m7, rfl, v7⟩,
      ⟨k0, rfl, u0⟩, ⟨k1, rfl, u1⟩, ⟨k2, rfl, u2⟩, ⟨k3, rfl, u3⟩, ⟨k4, rfl, u4⟩, ⟨k5, rfl, u5⟩, ⟨k6, rfl, u6⟩, ⟨k7, rfl, u7⟩, -⟩ := hf
    exact ⟨⟨⟨n0, n1⟩, ⟨n2, n3⟩, ⟨n4, n5⟩, ⟨n6, n7⟩, s, ⟨m0, m1, m2, m3, m4, m5, m6, m7⟩, ⟨k0, k1, k2, k3, k4, k5, k6, k7⟩⟩, rfl, ⟨i64_lit w0, i64_lit w1⟩, ⟨i64_lit w2, i64_lit w3⟩, ⟨i64_lit w4, i64_lit w5⟩, ⟨i64_lit w6, i64_lit w7⟩, ws,
      v8_i (i64_lit v0) (i64_lit v1) (i64_lit v2) (i64_lit v3) (i64_lit v4) (i64_lit v5) (i64_lit v6) (i64_lit v7), v8_i (i64_lit u0) (i64_lit u1) (i64_lit u2) (i64_lit u3) (i64_lit u4) (i64_lit u5) (i64_lit u6) (i64_lit u7)⟩
theorem slice_val {t e : TypeId} (hu : Tryd.prog.underlying t = some (.slice e)) {v : Value} (h : TrodS K enc Tryd.prog w base spare held t v) : ∃ s : Sl, v = .slice s.a s.n s.c := by
  obtain ⟨fuel, x, h, -⟩ := h
  rcases open_slice hu h with ⟨h0, -⟩ | ⟨a, len, cap, m, n, D, Pl, hcs, -⟩
  · injection h0 with h0 _; exact ⟨⟨none, 0, 0⟩, h0⟩
  · injection hcs with hcs _; exact ⟨⟨some a, len, cap⟩, hcs⟩
theorem open_n (hK : Keep K B) {fuel : Nat} {cs : List Value} {x : DataW H × List MemPlace} (h : DataW.trod enc Tryd.prog w base spare held fuel 62 cs = some x) (hx : K x.1) : ∃ n : Nd, cs = encN.cells n ∧ n.s.Ok w n.d ∧ n.d.wf B := by
  have hf := legs_fits hK 6 _ _ _ _ _ legs_n h hx
  have hl := hf.length
  match cs, hl with
  | [c0, c1, c2, c3, c4, c5, c6, c7, c8, c9, c10, c11, c12], _ =>
    obtain ⟨⟨n0, rfl, w0⟩, ⟨n1, rfl, w1⟩, ⟨n2, rfl, w2⟩, ⟨s, rfl, ws⟩, ⟨n4, rfl, w4⟩, ⟨n5, rfl, w5⟩, ⟨n6, rfl, w6⟩, ⟨n7, rfl, w7⟩, ⟨n8, rfl, w8⟩, ⟨n9, rfl, w9⟩, ⟨n10, rfl, w10⟩, hp, hq, -⟩ := hf
    replace hp : TrodS K enc Tryd.prog w base spare held 59 c11 := hp
    replace hq : TrodS K enc Tryd.prog w base spare held 60 c12 := hq
    obtain ⟨p, rfl⟩ := slice_val Tryd.underlying59 hp
    obtain ⟨q, rfl⟩ := slice_val Tryd.underlying60 hq
    obtain ⟨ps, hps, wps⟩ := open_row encPc Tryd.underlying59 (by kernel_rfl) hK (fun _ _ _ h hx => open_pc hK h hx) hp
    obtain ⟨xs, hxs, wxs⟩ := open_row encXt Tryd.underlying60 (by kernel_rfl) hK (fun _ _ _ h hx => open_xt hK h hx) hq
    exact ⟨⟨⟨⟨⟨n0, n1⟩, n2, s, ⟨⟨n4, n5⟩, n6, n7⟩, ⟨⟨n8, n9⟩, n10⟩⟩, p, q⟩, ⟨⟨⟨n0, n1⟩, n2, s, ⟨⟨n4, n5⟩, n6, n7⟩, ⟨⟨n8, n9⟩, n10⟩⟩, ps, xs⟩⟩, rfl, ⟨rfl, hps, hxs⟩,
      ⟨⟨i64_lit w0, i64_lit w1⟩, i64_lit w2, ws, ⟨i64_lit w4, i64_lit w5⟩, i64_lit w6, u64_lit w7, ⟨i64_lit w8, i64_lit w9⟩, i64_lit w10⟩, wps, wxs⟩
theorem open_s (hK : Keep K B) {fuel : Nat} {cs : List Value} {x : DataW H × List MemPlace} (h : DataW.trod enc Tryd.prog w base spare held fuel 29 cs = some x) (hx : K x.1) : ∃ s : Sta, cs = s.cells ∧ ∃ d, s.Ok w d ∧ d.wf B := by
  have hf := legs_fits hK 6 _ _ _ _ _ legs_s h hx
  have hl := hf.length
  match cs, hl with
  | [c0, c1, c2, c3, c4, c5, c6, c7, c8, c9], _ =>
    obtain ⟨⟨n0, rfl, w0⟩, ⟨n1, rfl, w1⟩, ⟨n2, rfl, w2⟩, ⟨n3, rfl, w3⟩, ⟨n4, rfl, w4⟩, ⟨n5, rfl, w5⟩, ⟨n6, rfl, w6⟩, ⟨n7, rfl, w7⟩, hp, hq, -⟩ := hf
    replace hp : TrodS K enc Tryd.prog w base spare held 26 c8 := hp
    replace hq : TrodS K enc Tryd.prog w base spare held 27 c9 := hq
    obtain ⟨p, rfl⟩ := slice_val Tryd.underlying26 hp
    obtain ⟨q, rfl⟩ := slice_val Tryd.underlying27 hq
    obtain ⟨ns, hns, wns⟩ := open_row encN Tryd.underlying26 (by kernel_rfl) hK (fun _ _ _ h hx => open_n hK h hx) hp
    obtain ⟨ls, hls, wls⟩ := open_row encK Tryd.underlying27 (by kernel_rfl) hK (fun _ _ _ h hx => open_k hK h hx) hq
    exact ⟨⟨⟨n0, n1, n2, n3, n4, n5, n6, n7⟩, p, q⟩, rfl, ⟨⟨n0, n1, n2, n3, n4, n5, n6, n7⟩, ns.map (·.d), ls⟩, ⟨rfl, ⟨ns, hns, fun n hn => (wns n hn).1, rfl⟩, hls⟩,
      v8_i (i64_lit w0) (i64_lit w1) (i64_lit w2) (i64_lit w3) (i64_lit w4) (i64_lit w5) (i64_lit w6) (i64_lit w7), fun d hd => by obtain ⟨n, hn, rfl⟩ := List.mem_map.1 hd; exact (wns n hn).2, wls⟩
end
end Go.Proofs.YtebpacmhdkgfeaaDoor

/- Is a stamp, is a vector zero? -/
namespace Go.Proofs.YtebpacmhdkgfeaaDoor
open Go.RowKit

def Mk.zero : Mk := ⟨0, 0⟩
theorem stamp_nz (m : Mk) : ∀ w, (binOp .neq 23 m.val (.agg #[.int .i64 0, .int .i64 0])).run Tryd.prog w = .ok (.bool (!decide (m = Mk.zero))) w := by
  have h : eqCells Tryd.prog 3 23 [.int .i64 m.boot, .int .i64 m.n] [.int .i64 0, .int .i64 0] = some (m.boot == 0 && (m.n == 0 && true)) := by kernel_rfl
  have e : (m.boot == 0 && (m.n == 0 && true)) = decide (m = Mk.zero) := by
    obtain ⟨a1, a2⟩ := m
    rw [Bool.eq_iff_iff]; simp [Mk.zero]
  rw [e] at h
  exact run_neq_cells 3 (by decide) (by kernel_rfl) h
theorem vec_nz (v : V8) : ∀ w, (binOp .neq 25 v.val (.agg #[.int .i64 0, .int .i64 0, .int .i64 0, .int .i64 0, .int .i64 0, .int .i64 0, .int .i64 0, .int .i64 0])).run Tryd.prog w = .ok (.bool (!decide (v = V8.zero))) w := by
  have h : eqCells Tryd.prog 3 25 [.int .i64 v.a0, .int .i64 v.a1, .int .i64 v.a2, .int .i64 v.a3, .int .i64 v.a4, .int .i64 v.a5, .int .i64 v.a6, .int .i64 v.a7] [.int .i64 0, .int .i64 0, .int .i64 0, .int .i64 0, .int .i64 0, .int .i64 0, .int .i64 0, .int .i64 0] = some (v.a0 == 0 && (v.a1 == 0 && (v.a2 == 0 && (v.a3 == 0 && (v.a4 == 0 && (v.a5 == 0 && (v.a6 == 0 && (v.a7 == 0 && true)))))))) := by kernel_rfl
  have e : (v.a0 == 0 && (v.a1 == 0 && (v.a2 == 0 && (v.a3 == 0 && (v.a4 == 0 && (v.a5 == 0 && (v.a6 == 0 && (v.a7 == 0 && true)))))))) = decide (v = V8.zero) := by
    obtain ⟨a0, a1, a2, a3, a4, a5, a6, a7⟩ := v
    rw [Bool.eq_iff_iff]; simp [V8.zero]
  rw [e] at h
  exact run_neq_cells 3 (by decide) (by kernel_rfl) h
end Go.Proofs.YtebpacmhdkgfeaaDoor

/- Events as they lie in memory, and what they say. -/
namespace Go.Proofs.YtebpacmhdkgfeaaDoor
open Go.ChangeShapes Go.WideShapes Go.RowKit Go.Deep

def Evt.sta (e : Evt) : Sta := ⟨e.seen, ⟨e.na, e.nn, e.nc⟩, ⟨e.la, e.ln, e.lc⟩⟩
/-- What chapter 29 lets in. -/
structure StaD.small (d : StaD) : Prop where
  nodes : d.nodes.length ≤ 1000
  links : d.links.length ≤ 1000
  ps : ∀ n ∈ d.nodes, n.ps.length ≤ 1000
  xs : ∀ n ∈ d.nodes, n.xs.length ≤ 1000
structure Evt.Ok (w : World) (B : Nat) (e : Evt) (d : StaD) : Prop where
  sta : e.sta.Ok w d
  wf : d.wf B
  at_ : e.at_.I
  vol : I64 e.vol
  knew : e.knew.I
theorem Evt.Ok.below {w w1 : World} {B : Nat} {e : Evt} {d : StaD} (h : e.Ok w B d) (hb : Below w.heap.size w w1) : e.Ok w1 B d := ⟨h.sta.below hb, h.wf, h.at_, h.vol, h.knew⟩
/-- An event as it lies there, and what it wrote. -/
structure Ep where
  e : Evt
  d : StaD
def encEp : Enc Ep := ⟨21, by decide, fun p => p.e.cells, fun _ => rfl, fun _ => ones_of rfl⟩
instance : SizeT Tryd.prog 31 encEp.sz := inferInstanceAs (SizeT Tryd.prog 31 21)
def Ep.Ok (w : World) (B : Nat) (p : Ep) : Prop := p.e.Ok w B p.d
def Lnk.about (id : Mk) (l : Lnk) : Bool := decide (l.id = id) || (decide (l.node = id) && !decide (l.at_ = Mk.zero))
def StaD.about (id : Mk) (d : StaD) : Bool := d.nodes.any (fun n => decide (n.hd.id = id)) || d.links.any (Lnk.about id)
theorem legs_e : legs Tryd.prog 8 31 = some [.int .i64, .int .i64, .int .i64, .int .i64, .int .i64, .int .i64, .int .i64, .int .i64, .int .i64, .int .i64, .int .i64, .int .i64, .int .i64, .int .i64, .int .i64, .int .i64, .int .i64, .int .i64, .int .i64, .sl 26, .sl 27] := by kernel_rfl
section
variable {H : Type} {enc : TypeId × Value → H} {w : World} {base : Nat} {spare : Nat → Bool} {held : Bool} {K : DataW H → Prop} {B : Nat}
theorem open_e (hK : Keep K B) {fuel : Nat} {cs : List Value} {x : DataW H × List MemPlace} (h : DataW.trod enc Tryd.prog w base spare held fuel 31 cs = some x) (hx : K x.1) : ∃ p : Ep, cs = encEp.cells p ∧ p.Ok w B := by
  have hf := legs_fits hK 8 _ _ _ _ _ legs_e h hx
  have hl := hf.length
  match cs, hl with
  | [c0, c1, c2, c3, c4, c5, c6, c7, c8, c9, c10, c11, c12, c13, c14, c15, c16, c17, c18, c19, c20], _ =>
    obtain ⟨⟨a0, rfl, u0⟩, ⟨a1, rfl, u1⟩, ⟨a2, rfl, u2⟩, ⟨b0, rfl, v0⟩, ⟨b1, rfl, v1⟩, ⟨b2, rfl, v2⟩, ⟨b3, rfl, v3⟩, ⟨b4, rfl, v4⟩, ⟨b5, rfl, v5⟩, ⟨b6, rfl, v6⟩, ⟨b7, rfl, v7⟩, ⟨n0, rfl, w0⟩, ⟨n1, rfl, w1⟩, ⟨n2, rfl, w2⟩, ⟨n3, rfl, w3⟩, ⟨n4, rfl, w4⟩, ⟨n5, rfl, w5⟩, ⟨n6, rfl, w6⟩, ⟨n7, rfl, w7⟩, hp, hq, -⟩ := hf
    replace hp : TrodS K enc Tryd.prog w base spare held 26 c19 := hp
    replace hq : TrodS K enc Tryd.prog w base spare held 27 c20 := hq
    obtain ⟨p, rfl⟩ := slice_val Tryd.underlying26 hp
    obtain ⟨q, rfl⟩ := slice_val Tryd.underlying27 hq
    obtain ⟨ns, hns, wns⟩ := open_row encN Tryd.underlying26 (by kernel_rfl) hK (fun _ _ _ h hx => open_n hK h hx) hp
    obtain ⟨ls, hls, wls⟩ := open_row encK Tryd.underlying27 (by kernel_rfl) hK (fun _ _ _ h hx => open_k hK h hx) hq
    exact ⟨⟨⟨⟨a0, a1⟩, a2, ⟨b0, b1, b2, b3, b4, b5, b6, b7⟩, ⟨n0, n1, n2, n3, n4, n5, n6, n7⟩, p.a, p.n, p.c, q.a, q.n, q.c⟩, ⟨⟨n0, n1, n2, n3, n4, n5, n6, n7⟩, ns.map (·.d), ls⟩⟩, rfl, ⟨⟨rfl, ⟨ns, hns, fun n hn => (wns n hn).1, rfl⟩, hls⟩,
      ⟨v8_i (i64_lit w0) (i64_lit w1) (i64_lit w2) (i64_lit w3) (i64_lit w4) (i64_lit w5) (i64_lit w6) (i64_lit w7), fun d hd => by obtain ⟨n, hn, rfl⟩ := List.mem_map.1 hd; exact (wns n hn).2, wls⟩,
      ⟨i64_lit u0, i64_lit u1⟩, i64_lit u2, v8_i (i64_lit v0) (i64_lit v1) (i64_lit v2) (i64_lit v3) (i64_lit v4) (i64_lit v5) (i64_lit v6) (i64_lit v7)⟩⟩
theorem legs_mk : legs Tryd.prog 8 23 = some [.int .i64, .int .i64] := by kernel_rfl
theorem open_mk (hK : Keep K B) {fuel : Nat} {cs : List Value} {x : DataW H × List MemPlace} (h : DataW.trod enc Tryd.prog w base spare held fuel 23 cs = some x) (hx : K x.1) : ∃ m : Mk, cs = [.int .i64 m.boot, .int .i64 m.n] ∧ m.I := by
  have hf := legs_fits hK 8 _ _ _ _ _ legs_mk h hx
  have hl := hf.length
  match cs, hl with
  | [c0, c1], _ =>
    obtain ⟨⟨a0, rfl, u0⟩, ⟨a1, rfl, u1⟩, -⟩ := hf
    exact ⟨⟨a0, a1⟩, rfl, ⟨i64_lit u0, i64_lit u1⟩⟩
end
end Go.Proofs.YtebpacmhdkgfeaaDoor

/- Chapter 29: the closures of story.About. -/
namespace Go.Proofs.YtebpacmhdkgfeaaDoor
open Go.RowKit
set_option maxHeartbeats 1000000
/-- A guarded load of a part of a block that was there. -/
theorem ev_loadBAG {P : Program} {ops : Array Oper} {rest : List Oper} {o : Oper} {a : Act} {Q : Exit → Act → World → Prop} {W : World} {ty : TypeId} {x : Operand} {n g j : Nat} {cs vs : List Value} {t : TypeId} [ha : AggT P ty] [hn : SizeT P ty n] (hw : Region.wanted o (yielded ops a.tmps) = true) (hB : Box W g cs.toArray t) (ho : o.op = .load ty x) (hx : a.eval x = .pointer (some ⟨g, j, none⟩))
    (hs : Seg cs j n vs) (h : wpList P ops Q rest (a.put o.dst (.agg vs.toArray)) W) : wpList P ops Q (o :: rest) a W := by
  obtain ⟨d, hu, hd⟩ := isRow_of ha.agg
  refine eventG hw (v := .agg vs.toArray) (w1 := W) ?_ h
  unfold execOp
  simp only [ho, hx, Instr.loadAt, Instr.sureAddr, Sem.run_bind, Sem.run_pure, Result.andThen_ok, run_loadVar_mid W g j ty vs d (range_of_box hB hs) hu hd (by rw [hs.len]; exact hn.size)]

theorem about_node (n : Nd) (id : Mk) (g : Nat) (t : TypeId) (w : World) (hB : Box w g [.int .i64 id.boot, .int .i64 id.n].toArray t) :
    Calls Tryd.prog 39 #[.agg (Ino.cells n.s).toArray, .pointer (some ⟨g, 0, none⟩)] w fun e w' => e = .returned (.bool (decide (n.s.hd.id = id))) ∧ Below w.heap.size w w' := by
  have hL := Loc.nil w NoM
  have h1 := stamp_eq n.s.hd.id id
  generalize decide (n.s.hd.id = id) = r at *
  unfold Ino.cells
  go_enter Tryd.func39, Tryd.ntmps39
  go_wp2_with (first | ((with_reducible refine gLoadG rfl rfl ?_ ?_); (exact wanted_some rfl rfl rfl (by with_reducible rfl)); (refine ev_loadBAG (wanted_some rfl rfl rfl rfl) (Loc.old hL hB not_noM) rfl rfl (by repeat (first | exact .nil _ | with_reducible apply Seg.take | with_reducible apply Seg.skip)) ?_)) | ((with_reducible refine gLoad rfl rfl ?_); (first | (refine ev_loadB1 rfl (Loc.old hL hB not_noM) rfl rfl (by rfl) ?_) | (refine ev_loadBA rfl (Loc.old hL hB not_noM) rfl rfl (by repeat (first | exact .nil _ | with_reducible apply Seg.take | with_reducible apply Seg.skip)) ?_))) | ((with_reducible refine gLoadG rfl rfl ?_ ?_); (exact wanted_some rfl rfl rfl (by with_reducible rfl)); (refine ev_loadB1G (wanted_some rfl rfl rfl rfl) (Loc.old hL hB not_noM) rfl rfl (by rfl) ?_)) | ((with_reducible refine gAlloc rfl rfl ?_); (refine ev_allocL rfl hL rfl (by first | exact CellsC.of | exact cells_one (by assumption) (by assumption) | exact cells_agg _ rfl) ?_; clear hL; intro gq wq hL)) | ((with_reducible refine gBox rfl rfl ?_); (refine ev_boxL rfl hL rfl rfl (by first | exact CellsC.of | exact cells_one (by assumption) (by assumption) | exact cells_agg _ rfl) ?_; clear hL; intro gq wq hL)) | ((with_reducible refine gLoad rfl rfl ?_); (first | (refine ev_load1L rfl hL rfl rfl HasV.mem (by rfl) ?_) | (refine ev_loadAllL rfl hL rfl rfl HasV.mem (by rfl) ?_) | (refine ev_loadL rfl hL rfl rfl HasV.mem SegC.seg ?_))) | ((with_reducible refine gStore rfl rfl ?_); (first | (refine ev_storeC rfl hL rfl rfl rfl (by first | exact CellsC.of | exact cells_one (by assumption) (by assumption) | exact cells_agg _ rfl) (by rfl) ?_) | (refine ev_storeAllC rfl hL rfl rfl rfl (by first | exact CellsC.of | exact cells_one (by assumption) (by assumption) | exact cells_agg _ rfl) (by rfl) (by rfl) ?_)); clear hL; intro wq hL) | ((with_reducible refine gLoadG rfl rfl ?_ ?_); (exact wanted_some rfl rfl rfl (by with_reducible rfl)); (first | (refine ev_load1G (wanted_some rfl rfl rfl rfl) hL rfl rfl HasV.mem (by rfl) ?_) | (refine ev_loadAllG (wanted_some rfl rfl rfl rfl) hL rfl rfl HasV.mem (by rfl) ?_) | (refine ev_loadG_ (wanted_some rfl rfl rfl rfl) hL rfl rfl HasV.mem SegC.seg ?_))))
  go_ret
  exact ⟨rfl, hL.below⟩
theorem about_link (l : Lnk) (id : Mk) (g : Nat) (t : TypeId) (w : World) (hB : Box w g [.int .i64 id.boot, .int .i64 id.n].toArray t) :
    Calls Tryd.prog 41 #[.agg (Lnk.cells l).toArray, .pointer (some ⟨g, 0, none⟩)] w fun e w' => e = .returned (.bool (l.about id)) ∧ Below w.heap.size w w' := by
  have hL := Loc.nil w NoM
  have h1 := stamp_eq l.id id
  have h2 := stamp_eq l.node id
  have h3 := stamp_nz l.at_
  unfold Lnk.about
  generalize decide (l.id = id) = r1 at *
  generalize decide (l.node = id) = r2 at *
  generalize decide (l.at_ = Mk.zero) = r3 at *
  unfold Lnk.cells
  cases r1
  · cases r2
    · go_enter Tryd.func41, Tryd.ntmps41
      go_wp2_with (first | ((with_reducible refine gLoadG rfl rfl ?_ ?_); (exact wanted_some rfl rfl rfl (by with_reducible rfl)); (refine ev_loadBAG (wanted_some rfl rfl rfl rfl) (Loc.old hL hB not_noM) rfl rfl (by repeat (first | exact .nil _ | with_reducible apply Seg.take | with_reducible apply Seg.skip)) ?_)) | ((with_reducible refine gLoad rfl rfl ?_); (first | (refine ev_loadB1 rfl (Loc.old hL hB not_noM) rfl rfl (by rfl) ?_) | (refine ev_loadBA rfl (Loc.old hL hB not_noM) rfl rfl (by repeat (first | exact .nil _ | with_reducible apply Seg.take | with_reducible apply Seg.skip)) ?_))) | ((with_reducible refine gLoadG rfl rfl ?_ ?_); (exact wanted_some rfl rfl rfl (by with_reducible rfl)); (refine ev_loadB1G (wanted_some rfl rfl rfl rfl) (Loc.old hL hB not_noM) rfl rfl (by rfl) ?_)) | ((with_reducible refine gAlloc rfl rfl ?_); (refine ev_allocL rfl hL rfl (by first | exact CellsC.of | exact cells_one (by assumption) (by assumption) | exact cells_agg _ rfl) ?_; clear hL; intro gq wq hL)) | ((with_reducible refine gBox rfl rfl ?_); (refine ev_boxL rfl hL rfl rfl (by first | exact CellsC.of | exact cells_one (by assumption) (by assumption) | exact cells_agg _ rfl) ?_; clear hL; intro gq wq hL)) | ((with_reducible refine gLoad rfl rfl ?_); (first | (refine ev_load1L rfl hL rfl rfl HasV.mem (by rfl) ?_) | (refine ev_loadAllL rfl hL rfl rfl HasV.mem (by rfl) ?_) | (refine ev_loadL rfl hL rfl rfl HasV.mem SegC.seg ?_))) | ((with_reducible refine gStore rfl rfl ?_); (first | (refine ev_storeC rfl hL rfl rfl rfl (by first | exact CellsC.of | exact cells_one (by assumption) (by assumption) | exact cells_agg _ rfl) (by rfl) ?_) | (refine ev_storeAllC rfl hL rfl rfl rfl (by first | exact CellsC.of | exact cells_one (by assumption) (by assumption) | exact cells_agg _ rfl) (by rfl) (by rfl) ?_)); clear hL; intro wq hL) | ((with_reducible refine gLoadG rfl rfl ?_ ?_); (exact wanted_some rfl rfl rfl (by with_reducible rfl)); (first | (refine ev_load1G (wanted_some rfl rfl rfl rfl) hL rfl rfl HasV.mem (by rfl) ?_) | (refine ev_loadAllG (wanted_some rfl rfl rfl rfl) hL rfl rfl HasV.mem (by rfl) ?_) | (refine ev_loadG_ (wanted_some rfl rfl rfl rfl) hL rfl rfl HasV.mem SegC.seg ?_))))
      go_ret
      exact ⟨rfl, hL.below⟩
    · go_enter Tryd.func41, Tryd.ntmps41
      go_wp2_with (first | ((with_reducible refine gLoadG rfl rfl ?_ ?_); (exact wanted_some rfl rfl rfl (by with_reducible rfl)); (refine ev_loadBAG (wanted_some rfl rfl rfl rfl) (Loc.old hL hB not_noM) rfl rfl (by repeat (first | exact .nil _ | with_reducible apply Seg.take | with_reducible apply Seg.skip)) ?_)) | ((with_reducible refine gLoad rfl rfl ?_); (first | (refine ev_loadB1 rfl (Loc.old hL hB not_noM) rfl rfl (by rfl) ?_) | (refine ev_loadBA rfl (Loc.old hL hB not_noM) rfl rfl (by repeat (first | exact .nil _ | with_reducible apply Seg.take | with_reducible apply Seg.skip)) ?_))) | ((with_reducible refine gLoadG rfl rfl ?_ ?_); (exact wanted_some rfl rfl rfl (by with_reducible rfl)); (refine ev_loadB1G (wanted_some rfl rfl rfl rfl) (Loc.old hL hB not_noM) rfl rfl (by rfl) ?_)) | ((with_reducible refine gAlloc rfl rfl ?_); (refine ev_allocL rfl hL rfl (by first | exact CellsC.of | exact cells_one (by assumption) (by assumption) | exact cells_agg _ rfl) ?_; clear hL; intro gq wq hL)) | ((with_reducible refine gBox rfl rfl ?_); (refine ev_boxL rfl hL rfl rfl (by first | exact CellsC.of | exact cells_one (by assumption) (by assumption) | exact cells_agg _ rfl) ?_; clear hL; intro gq wq hL)) | ((with_reducible refine gLoad rfl rfl ?_); (first | (refine ev_load1L rfl hL rfl rfl HasV.mem (by rfl) ?_) | (refine ev_loadAllL rfl hL rfl rfl HasV.mem (by rfl) ?_) | (refine ev_loadL rfl hL rfl rfl HasV.mem SegC.seg ?_))) | ((with_reducible refine gStore rfl rfl ?_); (first | (refine ev_storeC rfl hL rfl rfl rfl (by first | exact CellsC.of | exact cells_one (by assumption) (by assumption) | exact cells_agg _ rfl) (by rfl) ?_) | (refine ev_storeAllC rfl hL rfl rfl rfl (by first | exact CellsC.of | exact cells_one (by assumption) (by assumption) | exact cells_agg _ rfl) (by rfl) (by rfl) ?_)); clear hL; intro wq hL) | ((with_reducible refine gLoadG rfl rfl ?_ ?_); (exact wanted_some rfl rfl rfl (by with_reducible rfl)); (first | (refine ev_load1G (wanted_some rfl rfl rfl rfl) hL rfl rfl HasV.mem (by rfl) ?_) | (refine ev_loadAllG (wanted_some rfl rfl rfl rfl) hL rfl rfl HasV.mem (by rfl) ?_) | (refine ev_loadG_ (wanted_some rfl rfl rfl rfl) hL rfl rfl HasV.mem SegC.seg ?_))))
      go_ret
      exact ⟨rfl, hL.below⟩
  · go_enter Tryd.func41, Tryd.ntmps41
    go_wp2_with (first | ((with_reducible refine gLoadG rfl rfl ?_ ?_); (exact wanted_some rfl rfl rfl (by with_reducible rfl)); (refine ev_loadBAG (wanted_some rfl rfl rfl rfl) (Loc.old hL hB not_noM) rfl rfl (by repeat (first | exact .nil _ | with_reducible apply Seg.take | with_reducible apply Seg.skip)) ?_)) | ((with_reducible refine gLoad rfl rfl ?_); (first | (refine ev_loadB1 rfl (Loc.old hL hB not_noM) rfl rfl (by rfl) ?_) | (refine ev_loadBA rfl (Loc.old hL hB not_noM) rfl rfl (by repeat (first | exact .nil _ | with_reducible apply Seg.take | with_reducible apply Seg.skip)) ?_))) | ((with_reducible refine gLoadG rfl rfl ?_ ?_); (exact wanted_some rfl rfl rfl (by with_reducible rfl)); (refine ev_loadB1G (wanted_some rfl rfl rfl rfl) (Loc.old hL hB not_noM) rfl rfl (by rfl) ?_)) | ((with_reducible refine gAlloc rfl rfl ?_); (refine ev_allocL rfl hL rfl (by first | exact CellsC.of | exact cells_one (by assumption) (by assumption) | exact cells_agg _ rfl) ?_; clear hL; intro gq wq hL)) | ((with_reducible refine gBox rfl rfl ?_); (refine ev_boxL rfl hL rfl rfl (by first | exact CellsC.of | exact cells_one (by assumption) (by assumption) | exact cells_agg _ rfl) ?_; clear hL; intro gq wq hL)) | ((with_reducible refine gLoad rfl rfl ?_); (first | (refine ev_load1L rfl hL rfl rfl HasV.mem (by rfl) ?_) | (refine ev_loadAllL rfl hL rfl rfl HasV.mem (by rfl) ?_) | (refine ev_loadL rfl hL rfl rfl HasV.mem SegC.seg ?_))) | ((with_reducible refine gStore rfl rfl ?_); (first | (refine ev_storeC rfl hL rfl rfl rfl (by first | exact CellsC.of | exact cells_one (by assumption) (by assumption) | exact cells_agg _ rfl) (by rfl) ?_) | (refine ev_storeAllC rfl hL rfl rfl rfl (by first | exact CellsC.of | exact cells_one (by assumption) (by assumption) | exact cells_agg _ rfl) (by rfl) (by rfl) ?_)); clear hL; intro wq hL) | ((with_reducible refine gLoadG rfl rfl ?_ ?_); (exact wanted_some rfl rfl rfl (by with_reducible rfl)); (first | (refine ev_load1G (wanted_some rfl rfl rfl rfl) hL rfl rfl HasV.mem (by rfl) ?_) | (refine ev_loadAllG (wanted_some rfl rfl rfl rfl) hL rfl rfl HasV.mem (by rfl) ?_) | (refine ev_loadG_ (wanted_some rfl rfl rfl rfl) hL rfl rfl HasV.mem SegC.seg ?_))))
    go_ret
    exact ⟨rfl, hL.below⟩
end Go.Proofs.YtebpacmhdkgfeaaDoor

/- slices.IndexFunc and ContainsFunc at crannog/api.Inode, with crannog/story.About$1. -/
namespace Go.Proofs.YtebpacmhdkgfeaaDoor.IndexN
open Go.RowKit

set_option maxHeartbeats 2000000 in
theorem indexFunc (v : Value) (xs : List Nd) (p : Nd → Bool) (cap : Value) (w : World) (h : encN.R w v xs)
    (hp : ∀ x ∈ xs, ∀ w', Below w.heap.size w w' → Calls Tryd.prog 39 #[.agg (encN.cells x).toArray, cap] w' fun e w'' => e = .returned (.bool (p x)) ∧ Below w'.heap.size w' w'') :
    Calls Tryd.prog 53 #[v, .func (.func 39) #[] #[cap]] w fun e w' => (∃ i : Int, e = .returned (.int .i64 i) ∧ ((0 ≤ i) ↔ xs.any p = true)) ∧ Below w.heap.size w w' := by
  have hL := Loc.nil w NoM
  have hmx := R_max h
  obtain ⟨ao, c, rfl, hel⟩ := R_elem h
  have HP := Lib.hid hp
  clear hp h
  go_enter Tryd.func53, Tryd.ntmps53
  go_wp2_with (first | ((with_reducible refine gAlloc rfl rfl ?_); (refine ev_allocL rfl hL rfl (by first | exact CellsC.of | exact cells_one (by assumption) (by assumption) | exact cells_agg _ rfl) ?_; clear hL; intro gq wq hL)) | ((with_reducible refine gBox rfl rfl ?_); (refine ev_boxL rfl hL rfl rfl (by first | exact CellsC.of | exact cells_one (by assumption) (by assumption) | exact cells_agg _ rfl) ?_; clear hL; intro gq wq hL)) | ((with_reducible refine gLoad rfl rfl ?_); (first | (refine ev_load1L rfl hL rfl rfl HasV.mem (by rfl) ?_) | (refine ev_loadAllL rfl hL rfl rfl HasV.mem (by rfl) ?_) | (refine ev_loadL rfl hL rfl rfl HasV.mem SegC.seg ?_))) | ((with_reducible refine gStore rfl rfl ?_); (first | (refine ev_storeC rfl hL rfl rfl rfl (by first | exact CellsC.of | exact cells_one (by assumption) (by assumption) | exact cells_agg _ rfl) (by rfl) ?_) | (refine ev_storeAllC rfl hL rfl rfl rfl (by first | exact CellsC.of | exact cells_one (by assumption) (by assumption) | exact cells_agg _ rfl) (by rfl) (by rfl) ?_)); clear hL; intro wq hL) | ((with_reducible refine gLoadG rfl rfl ?_ ?_); (exact wanted_some rfl rfl rfl (by with_reducible rfl)); (first | (refine ev_load1G (wanted_some rfl rfl rfl rfl) hL rfl rfl HasV.mem (by rfl) ?_) | (refine ev_loadAllG (wanted_some rfl rfl rfl rfl) hL rfl rfl HasV.mem (by rfl) ?_) | (refine ev_loadG_ (wanted_some rfl rfl rfl rfl) hL rfl rfl HasV.mem SegC.seg ?_))))
  have HN : Hid (∀ x ∈ xs.take 0, p x = false) := Lib.hid (by simp)
  go_loopw [8] (fun i wr => ∃ k : Nat, k ≤ xs.length ∧ i = .int .i64 k ∧ Hid (∀ x ∈ xs.take k, p x = false) ∧ Loc w NoM wr []) (fun i _ => xs.length - (intOf i).toNat)
  case atStart => exact ⟨0, by omega, rfl, HN, hL⟩
  case round =>
    clear hL HN
    obtain ⟨k, hk, rfl, HN, hL⟩ := hrel
    by_cases hlt : k < xs.length
    · obtain ⟨g, off, rfl, hr⟩ := hel k hlt
      have hrW : World.rangeAt _ g (off + k * 13) (encN.cells xs[k]) := range_below hr hL.below
      clear hr
      have hx := Lib.hid (HP.out _ (List.getElem_mem hlt))
      have HT := Lib.hid (show xs.take (k + 1) = xs.take k ++ [xs[k]] from (List.take_append_getElem hlt).symm)
      have hm : xs[k] ∈ xs := List.getElem_mem hlt
      have HM := Lib.hid hm
      clear hm
      cases hpx : p xs[k]
      · have HPX := Lib.hid hpx
        rw [hpx] at hx
        clear hpx
        generalize xs[k] = x at *
        go_wp2_with (first
          | ((with_reducible refine gIndex rfl rfl ?_); refine ev_indexL rfl rfl rfl rfl hlt ?_) | ((with_reducible refine gate (N := 15) rfl ?_); refine ev_loadR rfl rfl rfl hrW (by rfl) ?_)
          | (go_at_call 39; (with_reducible refine (hx.out _ hL.below).mono ?_); rintro e w3 ⟨rfl, hb3⟩; have hL := hL.call hb3; clear hb3)
          | ((with_reducible refine gAlloc rfl rfl ?_); (refine ev_allocL rfl hL rfl (by first | exact CellsC.of | exact cells_one (by assumption) (by assumption) | exact cells_agg _ rfl) ?_; clear hL; intro gq wq hL)) | ((with_reducible refine gBox rfl rfl ?_); (refine ev_boxL rfl hL rfl rfl (by first | exact CellsC.of | exact cells_one (by assumption) (by assumption) | exact cells_agg _ rfl) ?_; clear hL; intro gq wq hL)) | ((with_reducible refine gLoad rfl rfl ?_); (first | (refine ev_load1L rfl hL rfl rfl HasV.mem (by rfl) ?_) | (refine ev_loadAllL rfl hL rfl rfl HasV.mem (by rfl) ?_) | (refine ev_loadL rfl hL rfl rfl HasV.mem SegC.seg ?_))) | ((with_reducible refine gStore rfl rfl ?_); (first | (refine ev_storeC rfl hL rfl rfl rfl (by first | exact CellsC.of | exact cells_one (by assumption) (by assumption) | exact cells_agg _ rfl) (by rfl) ?_) | (refine ev_storeAllC rfl hL rfl rfl rfl (by first | exact CellsC.of | exact cells_one (by assumption) (by assumption) | exact cells_agg _ rfl) (by rfl) (by rfl) ?_)); clear hL; intro wq hL) | ((with_reducible refine gLoadG rfl rfl ?_ ?_); (exact wanted_some rfl rfl rfl (by with_reducible rfl)); (first | (refine ev_load1G (wanted_some rfl rfl rfl rfl) hL rfl rfl HasV.mem (by rfl) ?_) | (refine ev_loadAllG (wanted_some rfl rfl rfl rfl) hL rfl rfl HasV.mem (by rfl) ?_) | (refine ev_loadG_ (wanted_some rfl rfl rfl rfl) hL rfl rfl HasV.mem SegC.seg ?_))))
        go_roundw
        case rel => exact ⟨k + 1, by omega, by go_num, Lib.hid (by rw [HT.out]; intro y hy; rcases List.mem_append.1 hy with hy | hy; exact HN.out y hy; rw [List.mem_singleton.1 hy]; exact HPX.out), hL⟩
        case measure => simp [intOf]; omega
      · have HPX := Lib.hid hpx
        rw [hpx] at hx
        clear hpx
        generalize xs[k] = x at *
        go_wp2_with (first
          | ((with_reducible refine gIndex rfl rfl ?_); refine ev_indexL rfl rfl rfl rfl hlt ?_) | ((with_reducible refine gate (N := 15) rfl ?_); refine ev_loadR rfl rfl rfl hrW (by rfl) ?_)
          | (go_at_call 39; (with_reducible refine (hx.out _ hL.below).mono ?_); rintro e w3 ⟨rfl, hb3⟩; have hL := hL.call hb3; clear hb3)
          | ((with_reducible refine gAlloc rfl rfl ?_); (refine ev_allocL rfl hL rfl (by first | exact CellsC.of | exact cells_one (by assumption) (by assumption) | exact cells_agg _ rfl) ?_; clear hL; intro gq wq hL)) | ((with_reducible refine gBox rfl rfl ?_); (refine ev_boxL rfl hL rfl rfl (by first | exact CellsC.of | exact cells_one (by assumption) (by assumption) | exact cells_agg _ rfl) ?_; clear hL; intro gq wq hL)) | ((with_reducible refine gLoad rfl rfl ?_); (first | (refine ev_load1L rfl hL rfl rfl HasV.mem (by rfl) ?_) | (refine ev_loadAllL rfl hL rfl rfl HasV.mem (by rfl) ?_) | (refine ev_loadL rfl hL rfl rfl HasV.mem SegC.seg ?_))) | ((with_reducible refine gStore rfl rfl ?_); (first | (refine ev_storeC rfl hL rfl rfl rfl (by first | exact CellsC.of | exact cells_one (by assumption) (by assumption) | exact cells_agg _ rfl) (by rfl) ?_) | (refine ev_storeAllC rfl hL rfl rfl rfl (by first | exact CellsC.of | exact cells_one (by assumption) (by assumption) | exact cells_agg _ rfl) (by rfl) (by rfl) ?_)); clear hL; intro wq hL) | ((with_reducible refine gLoadG rfl rfl ?_ ?_); (exact wanted_some rfl rfl rfl (by with_reducible rfl)); (first | (refine ev_load1G (wanted_some rfl rfl rfl rfl) hL rfl rfl HasV.mem (by rfl) ?_) | (refine ev_loadAllG (wanted_some rfl rfl rfl rfl) hL rfl rfl HasV.mem (by rfl) ?_) | (refine ev_loadG_ (wanted_some rfl rfl rfl rfl) hL rfl rfl HasV.mem SegC.seg ?_))))
        go_ret
        exact ⟨⟨(k : Int), rfl, ⟨fun _ => List.any_eq_true.2 ⟨x, HM.out, HPX.out⟩, fun _ => by omega⟩⟩, hL.below⟩
    · obtain rfl : k = xs.length := by omega
      go_wp2
      go_ret
      refine ⟨⟨-1, rfl, ⟨fun h => by omega, fun h => ?_⟩⟩, hL.below⟩
      obtain ⟨x, hx, hpx⟩ := List.any_eq_true.1 h
      have := HN.out x (by rw [List.take_length]; exact hx)
      rw [this] at hpx
      cases hpx
theorem containsFunc (v : Value) (xs : List Nd) (p : Nd → Bool) (cap : Value) (w : World) (h : encN.R w v xs)
    (hp : ∀ x ∈ xs, ∀ w', Below w.heap.size w w' → Calls Tryd.prog 39 #[.agg (encN.cells x).toArray, cap] w' fun e w'' => e = .returned (.bool (p x)) ∧ Below w'.heap.size w' w'') :
    Calls Tryd.prog 38 #[v, .func (.func 39) #[] #[cap]] w fun e w' => e = .returned (.bool (xs.any p)) ∧ Below w.heap.size w w' := by
  have hL := Loc.nil w NoM
  have hq := Lib.hid (indexFunc v xs p cap w h hp)
  clear h hp
  generalize xs.any p = r at *
  go_enter Tryd.func38, Tryd.ntmps38
  go_wp2_with (first
    | (go_at_call 53; (with_reducible refine hq.out.mono ?_); rintro e w3 ⟨⟨i, rfl, hir⟩, hb3⟩; have HI := Lib.hid hir; clear hir; have hL := hL.call hb3; clear hb3)
    | ((with_reducible refine gAlloc rfl rfl ?_); (refine ev_allocL rfl hL rfl (by first | exact CellsC.of | exact cells_one (by assumption) (by assumption) | exact cells_agg _ rfl) ?_; clear hL; intro gq wq hL)) | ((with_reducible refine gBox rfl rfl ?_); (refine ev_boxL rfl hL rfl rfl (by first | exact CellsC.of | exact cells_one (by assumption) (by assumption) | exact cells_agg _ rfl) ?_; clear hL; intro gq wq hL)) | ((with_reducible refine gLoad rfl rfl ?_); (first | (refine ev_load1L rfl hL rfl rfl HasV.mem (by rfl) ?_) | (refine ev_loadAllL rfl hL rfl rfl HasV.mem (by rfl) ?_) | (refine ev_loadL rfl hL rfl rfl HasV.mem SegC.seg ?_))) | ((with_reducible refine gStore rfl rfl ?_); (first | (refine ev_storeC rfl hL rfl rfl rfl (by first | exact CellsC.of | exact cells_one (by assumption) (by assumption) | exact cells_agg _ rfl) (by rfl) ?_) | (refine ev_storeAllC rfl hL rfl rfl rfl (by first | exact CellsC.of | exact cells_one (by assumption) (by assumption) | exact cells_agg _ rfl) (by rfl) (by rfl) ?_)); clear hL; intro wq hL) | ((with_reducible refine gLoadG rfl rfl ?_ ?_); (exact wanted_some rfl rfl rfl (by with_reducible rfl)); (first | (refine ev_load1G (wanted_some rfl rfl rfl rfl) hL rfl rfl HasV.mem (by rfl) ?_) | (refine ev_loadAllG (wanted_some rfl rfl rfl rfl) hL rfl rfl HasV.mem (by rfl) ?_) | (refine ev_loadG_ (wanted_some rfl rfl rfl rfl) hL rfl rfl HasV.mem SegC.seg ?_))))
  go_ret
  refine ⟨ret_b ?_, hL.below⟩
  cases r
  · simpa using HI.out
  · simpa using HI.out
end Go.Proofs.YtebpacmhdkgfeaaDoor.IndexN
