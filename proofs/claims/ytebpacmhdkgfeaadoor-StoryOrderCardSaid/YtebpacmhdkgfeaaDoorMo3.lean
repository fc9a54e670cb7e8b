/- Texts laid together: Dig23, Sto1, Sto3, V8, Sto4, Loc5, Loc6, Grow, Ply, MkZ, Evd, Clo, Stab, Stab2, Stab3. -/
import Derived.Test.YtebpacmhdkgfeaaDoorMo2
import Derived.Test.YtebpacmhdkgfeaaDoorProg
import Derived.Lib.AppendZerosOnto
import Derived.Lib.SliceRun
/- crannogref23.Digits: the same text as crannogref18.digits; XDig's walk turned to it. -/
namespace Go.Proofs.YtebpacmhdkgfeaaDoor
open Go.RowKit

set_option maxHeartbeats 1000000 in
/-- crannogref23.Digits of n, by the loop's rounds. -/
theorem ref23_digits_neg (n : Int) (w : World) (h0 : -9223372036854775808 ≤ n) (h1 : n ≤ 9223372036854775807) (hn : n < 0) :
    Calls Tryd.prog 28 #[.int .i64 n] w fun e w' => e = .returned (.string (itoaB n)) ∧ Below w.heap.size w w' := by
  have hL := Loc.nil w NoM
  have t0 : decide (n < 0) = true := (by first | (simp; done) | (simp; omega))
  obtain ⟨u, hu⟩ : ∃ u : Nat, u = n.natAbs := ⟨_, rfl⟩
  have e1 : IntKind.u64.wrap (-(IntKind.u64.wrap n)) = (u : Int) := by rw [IntKind.wrap_u64, IntKind.wrap_u64]; omega
  have hub : u < 18446744073709551616 := by omega
  have HU := Lib.hid hu
  clear hu
  go_enter Tryd.func28, Tryd.ntmps28
  go_wp2_with (first | ((with_reducible refine gAlloc rfl rfl ?_); (refine ev_allocL rfl hL rfl (by first | exact cells_agg _ rfl | exact cells_int _ _ | exact cells_str _ | exact cells_bool _ | exact cells_slice _ _ _ | exact cells_ptr _ | exact cells_map _ | exact cells_func _ _ _ | exact cells_nilFunc | exact cells_one (by assumption) (by assumption)) ?_; clear hL; intro gq wq hL)) | ((with_reducible refine gBox rfl rfl ?_); (refine ev_boxL rfl hL rfl rfl (by first | exact cells_agg _ rfl | exact cells_int _ _ | exact cells_str _ | exact cells_bool _ | exact cells_slice _ _ _ | exact cells_ptr _ | exact cells_map _ | exact cells_func _ _ _ | exact cells_nilFunc | exact cells_one (by assumption) (by assumption)) ?_; clear hL; intro gq wq hL)) | ((with_reducible refine gLoad rfl rfl ?_); (first | (refine ev_load1L rfl hL rfl rfl HasV.mem (by rfl) ?_) | (refine ev_loadAllL rfl hL rfl rfl HasV.mem (by rfl) ?_) | (refine ev_loadL rfl hL rfl rfl HasV.mem SegC.seg ?_))) | ((with_reducible refine gStore rfl rfl ?_); (first | (refine ev_storeC rfl hL rfl rfl rfl (by first | exact cells_agg _ rfl | exact cells_int _ _ | exact cells_str _ | exact cells_bool _ | exact cells_slice _ _ _ | exact cells_ptr _ | exact cells_map _ | exact cells_func _ _ _ | exact cells_nilFunc | exact cells_one (by assumption) (by assumption)) (by rfl) ?_) | (refine ev_storeAllC rfl hL rfl rfl rfl (by first | exact cells_agg _ rfl | exact cells_int _ _ | exact cells_str _ | exact cells_bool _ | exact cells_slice _ _ _ | exact cells_ptr _ | exact cells_map _ | exact cells_func _ _ _ | exact cells_nilFunc | exact cells_one (by assumption) (by assumption)) (by rfl) (by rfl) ?_)); clear hL; intro wq hL) | ((with_reducible refine gLoadG rfl rfl ?_ ?_); (exact wanted_some rfl rfl rfl (by with_reducible rfl)); (first | (refine ev_load1G (wanted_some rfl rfl rfl rfl) hL rfl rfl HasV.mem (by rfl) ?_) | (refine ev_loadAllG (wanted_some rfl rfl rfl rfl) hL rfl rfl HasV.mem (by rfl) ?_) | (refine ev_loadG_ (wanted_some rfl rfl rfl rfl) hL rfl rfl HasV.mem SegC.seg ?_))))
  clear e1
  go_loopw [3, 4, 11] (fun x y i wr => ∃ (k uk : Nat) (l : List UInt8), k ≤ 20 ∧ i = .int .i64 k ∧ x = .int .u64 uk ∧ y = .string ⟨l.toArray⟩ ∧ Hid (DigAt u k uk l) ∧ uk < 18446744073709551616 ∧ l.length ≤ k ∧ Loc w NoM wr []) (fun _ _ i _ => 20 - (intOf i).toNat)
  case atStart => exact ⟨0, u, [], by omega, rfl, rfl, rfl, Lib.hid (.start u), hub, by simp, hL⟩
  case round =>
    clear hL
    obtain ⟨k, uk, l, hk, rfl, rfl, rfl, HD, hb, hll, hL⟩ := hrel
    by_cases hlt : k < 20
    · by_cases hp : 0 < uk
      · have t1 : decide ((0 : Int) < (uk : Int)) = true := (by first | (simp; done) | (simp; omega))
        have hv : (48 : Int) + (uk : Int) % 10 = ((dch uk).toNat : Int) := (dch_val uk).symm
        have HD2 := Lib.hid (HD.out.put (.inl hp))
        go_wp2_with (first
          | ((with_reducible refine gLit rfl rfl ?_); refine ev_litL (cs := [.int .u8 (dch uk).toNat]) rfl hL rfl rfl rfl (by kernel_rfl) ?_; clear hL; intro gq wq hL)
          | ((with_reducible refine gate (N := 24) rfl ?_); refine ev_b2s (l := [dch uk]) rfl rfl rfl (one_byte (hL.box (by first | exact .head _ | exact .tail _ (.head _) | exact .tail _ (.tail _ (.head _)) | exact .tail _ (.tail _ (.tail _ (.head _))) | exact .tail _ (.tail _ (.tail _ (.tail _ (.head _)))) | exact .tail _ (.tail _ (.tail _ (.tail _ (.tail _ (.head _))))) | exact .tail _ (.tail _ (.tail _ (.tail _ (.tail _ (.tail _ (.head _)))))) | exact .tail _ (.tail _ (.tail _ (.tail _ (.tail _ (.tail _ (.tail _ (.head _))))))) | exact .tail _ (.tail _ (.tail _ (.tail _ (.tail _ (.tail _ (.tail _ (.tail _ (.head _))))))))))) Tryd.underlying5 Tryd.underlying9 ?_)
          | ((with_reducible refine gCat rfl rfl ?_); refine ev_cat (s := ⟨[dch uk].toArray⟩) (u := ⟨l.toArray⟩) rfl rfl rfl rfl (by simp [ByteArray.size]; omega) ?_; rw [ba_cons])
          | ((with_reducible refine gAlloc rfl rfl ?_); (refine ev_allocL rfl hL rfl (by first | exact cells_agg _ rfl | exact cells_int _ _ | exact cells_str _ | exact cells_bool _ | exact cells_slice _ _ _ | exact cells_ptr _ | exact cells_map _ | exact cells_func _ _ _ | exact cells_nilFunc | exact cells_one (by assumption) (by assumption)) ?_; clear hL; intro gq wq hL)) | ((with_reducible refine gBox rfl rfl ?_); (refine ev_boxL rfl hL rfl rfl (by first | exact cells_agg _ rfl | exact cells_int _ _ | exact cells_str _ | exact cells_bool _ | exact cells_slice _ _ _ | exact cells_ptr _ | exact cells_map _ | exact cells_func _ _ _ | exact cells_nilFunc | exact cells_one (by assumption) (by assumption)) ?_; clear hL; intro gq wq hL)) | ((with_reducible refine gLoad rfl rfl ?_); (first | (refine ev_load1L rfl hL rfl rfl HasV.mem (by rfl) ?_) | (refine ev_loadAllL rfl hL rfl rfl HasV.mem (by rfl) ?_) | (refine ev_loadL rfl hL rfl rfl HasV.mem SegC.seg ?_))) | ((with_reducible refine gStore rfl rfl ?_); (first | (refine ev_storeC rfl hL rfl rfl rfl (by first | exact cells_agg _ rfl | exact cells_int _ _ | exact cells_str _ | exact cells_bool _ | exact cells_slice _ _ _ | exact cells_ptr _ | exact cells_map _ | exact cells_func _ _ _ | exact cells_nilFunc | exact cells_one (by assumption) (by assumption)) (by rfl) ?_) | (refine ev_storeAllC rfl hL rfl rfl rfl (by first | exact cells_agg _ rfl | exact cells_int _ _ | exact cells_str _ | exact cells_bool _ | exact cells_slice _ _ _ | exact cells_ptr _ | exact cells_map _ | exact cells_func _ _ _ | exact cells_nilFunc | exact cells_one (by assumption) (by assumption)) (by rfl) (by rfl) ?_)); clear hL; intro wq hL) | ((with_reducible refine gLoadG rfl rfl ?_ ?_); (exact wanted_some rfl rfl rfl (by with_reducible rfl)); (first | (refine ev_load1G (wanted_some rfl rfl rfl rfl) hL rfl rfl HasV.mem (by rfl) ?_) | (refine ev_loadAllG (wanted_some rfl rfl rfl rfl) hL rfl rfl HasV.mem (by rfl) ?_) | (refine ev_loadG_ (wanted_some rfl rfl rfl rfl) hL rfl rfl HasV.mem SegC.seg ?_))))
        go_roundw
        case rel => exact ⟨k + 1, uk / 10, dch uk :: l, by omega, by go_num, by go_num, rfl, HD2, by omega, by first | (simp; done) | (simp; omega), hL.drop⟩
        case measure => simp [intOf]; omega
      · obtain rfl : uk = 0 := by omega
        have t1 : decide ((0 : Int) < ((0 : Nat) : Int)) = false := by simp
        cases l with
        | nil =>
          have hv : (48 : Int) + ((0 : Nat) : Int) % 10 = ((dch 0).toNat : Int) := (dch_val 0).symm
          have HD2 := Lib.hid (HD.out.put (.inr rfl))
          go_wp2_with (first
            | ((with_reducible refine gLit rfl rfl ?_); refine ev_litL (cs := [.int .u8 (dch 0).toNat]) rfl hL rfl rfl rfl (by kernel_rfl) ?_; clear hL; intro gq wq hL)
            | ((with_reducible refine gate (N := 24) rfl ?_); refine ev_b2s (l := [dch 0]) rfl rfl rfl (one_byte (hL.box (by first | exact .head _ | exact .tail _ (.head _) | exact .tail _ (.tail _ (.head _)) | exact .tail _ (.tail _ (.tail _ (.head _))) | exact .tail _ (.tail _ (.tail _ (.tail _ (.head _)))) | exact .tail _ (.tail _ (.tail _ (.tail _ (.tail _ (.head _))))) | exact .tail _ (.tail _ (.tail _ (.tail _ (.tail _ (.tail _ (.head _)))))) | exact .tail _ (.tail _ (.tail _ (.tail _ (.tail _ (.tail _ (.tail _ (.head _))))))) | exact .tail _ (.tail _ (.tail _ (.tail _ (.tail _ (.tail _ (.tail _ (.tail _ (.head _))))))))))) Tryd.underlying5 Tryd.underlying9 ?_)
            | ((with_reducible refine gCat rfl rfl ?_); refine ev_cat (s := ⟨[dch 0].toArray⟩) (u := ⟨([] : List UInt8).toArray⟩) rfl rfl rfl rfl (by simp [ByteArray.size]; omega) ?_; rw [ba_cons])
            | ((with_reducible refine gAlloc rfl rfl ?_); (refine ev_allocL rfl hL rfl (by first | exact cells_agg _ rfl | exact cells_int _ _ | exact cells_str _ | exact cells_bool _ | exact cells_slice _ _ _ | exact cells_ptr _ | exact cells_map _ | exact cells_func _ _ _ | exact cells_nilFunc | exact cells_one (by assumption) (by assumption)) ?_; clear hL; intro gq wq hL)) | ((with_reducible refine gBox rfl rfl ?_); (refine ev_boxL rfl hL rfl rfl (by first | exact cells_agg _ rfl | exact cells_int _ _ | exact cells_str _ | exact cells_bool _ | exact cells_slice _ _ _ | exact cells_ptr _ | exact cells_map _ | exact cells_func _ _ _ | exact cells_nilFunc | exact cells_one (by assumption) (by assumption)) ?_; clear hL; intro gq wq hL)) | ((with_reducible refine gLoad rfl rfl ?_); (first | (refine ev_load1L rfl hL rfl rfl HasV.mem (by rfl) ?_) | (refine ev_loadAllL rfl hL rfl rfl HasV.mem (by rfl) ?_) | (refine ev_loadL rfl hL rfl rfl HasV.mem SegC.seg ?_))) | ((with_reducible refine gStore rfl rfl ?_); (first | (refine ev_storeC rfl hL rfl rfl rfl (by first | exact cells_agg _ rfl | exact cells_int _ _ | exact cells_str _ | exact cells_bool _ | exact cells_slice _ _ _ | exact cells_ptr _ | exact cells_map _ | exact cells_func _ _ _ | exact cells_nilFunc | exact cells_one (by assumption) (by assumption)) (by rfl) ?_) | (refine ev_storeAllC rfl hL rfl rfl rfl (by first | exact cells_agg _ rfl | exact cells_int _ _ | exact cells_str _ | exact cells_bool _ | exact cells_slice _ _ _ | exact cells_ptr _ | exact cells_map _ | exact cells_func _ _ _ | exact cells_nilFunc | exact cells_one (by assumption) (by assumption)) (by rfl) (by rfl) ?_)); clear hL; intro wq hL) | ((with_reducible refine gLoadG rfl rfl ?_ ?_); (exact wanted_some rfl rfl rfl (by with_reducible rfl)); (first | (refine ev_load1G (wanted_some rfl rfl rfl rfl) hL rfl rfl HasV.mem (by rfl) ?_) | (refine ev_loadAllG (wanted_some rfl rfl rfl rfl) hL rfl rfl HasV.mem (by rfl) ?_) | (refine ev_loadG_ (wanted_some rfl rfl rfl rfl) hL rfl rfl HasV.mem SegC.seg ?_))))
          go_roundw
          case rel => exact ⟨k + 1, 0, dch 0 :: [], by omega, by go_num, by go_num, rfl, HD2, by omega, by first | (simp; done) | (simp; omega), hL.drop⟩
          case measure => simp [intOf]; omega
        | cons c l =>
          have HD2 := Lib.hid (HD.out.skip (by simp))
          go_wp2_with (first | ((with_reducible refine gAlloc rfl rfl ?_); (refine ev_allocL rfl hL rfl (by first | exact cells_agg _ rfl | exact cells_int _ _ | exact cells_str _ | exact cells_bool _ | exact cells_slice _ _ _ | exact cells_ptr _ | exact cells_map _ | exact cells_func _ _ _ | exact cells_nilFunc | exact cells_one (by assumption) (by assumption)) ?_; clear hL; intro gq wq hL)) | ((with_reducible refine gBox rfl rfl ?_); (refine ev_boxL rfl hL rfl rfl (by first | exact cells_agg _ rfl | exact cells_int _ _ | exact cells_str _ | exact cells_bool _ | exact cells_slice _ _ _ | exact cells_ptr _ | exact cells_map _ | exact cells_func _ _ _ | exact cells_nilFunc | exact cells_one (by assumption) (by assumption)) ?_; clear hL; intro gq wq hL)) | ((with_reducible refine gLoad rfl rfl ?_); (first | (refine ev_load1L rfl hL rfl rfl HasV.mem (by rfl) ?_) | (refine ev_loadAllL rfl hL rfl rfl HasV.mem (by rfl) ?_) | (refine ev_loadL rfl hL rfl rfl HasV.mem SegC.seg ?_))) | ((with_reducible refine gStore rfl rfl ?_); (first | (refine ev_storeC rfl hL rfl rfl rfl (by first | exact cells_agg _ rfl | exact cells_int _ _ | exact cells_str _ | exact cells_bool _ | exact cells_slice _ _ _ | exact cells_ptr _ | exact cells_map _ | exact cells_func _ _ _ | exact cells_nilFunc | exact cells_one (by assumption) (by assumption)) (by rfl) ?_) | (refine ev_storeAllC rfl hL rfl rfl rfl (by first | exact cells_agg _ rfl | exact cells_int _ _ | exact cells_str _ | exact cells_bool _ | exact cells_slice _ _ _ | exact cells_ptr _ | exact cells_map _ | exact cells_func _ _ _ | exact cells_nilFunc | exact cells_one (by assumption) (by assumption)) (by rfl) (by rfl) ?_)); clear hL; intro wq hL) | ((with_reducible refine gLoadG rfl rfl ?_ ?_); (exact wanted_some rfl rfl rfl (by with_reducible rfl)); (first | (refine ev_load1G (wanted_some rfl rfl rfl rfl) hL rfl rfl HasV.mem (by rfl) ?_) | (refine ev_loadAllG (wanted_some rfl rfl rfl rfl) hL rfl rfl HasV.mem (by rfl) ?_) | (refine ev_loadG_ (wanted_some rfl rfl rfl rfl) hL rfl rfl HasV.mem SegC.seg ?_))))
          go_roundw
          case rel => exact ⟨k + 1, 0, c :: l, by omega, by go_num, rfl, rfl, HD2, by omega, by simp at hll ⊢; omega, hL⟩
          case measure => simp [intOf]; omega
    · obtain rfl : k = 20 := by omega
      have HR := Lib.hid (HD.out.done hub)
      go_wp2_with (first
        | ((with_reducible refine gCat rfl rfl ?_); refine ev_cat (s := ⟨#[45]⟩) (u := ⟨l.toArray⟩) rfl rfl rfl rfl (by simp [ByteArray.size]; omega) ?_)
        | ((with_reducible refine gAlloc rfl rfl ?_); (refine ev_allocL rfl hL rfl (by first | exact cells_agg _ rfl | exact cells_int _ _ | exact cells_str _ | exact cells_bool _ | exact cells_slice _ _ _ | exact cells_ptr _ | exact cells_map _ | exact cells_func _ _ _ | exact cells_nilFunc | exact cells_one (by assumption) (by assumption)) ?_; clear hL; intro gq wq hL)) | ((with_reducible refine gBox rfl rfl ?_); (refine ev_boxL rfl hL rfl rfl (by first | exact cells_agg _ rfl | exact cells_int _ _ | exact cells_str _ | exact cells_bool _ | exact cells_slice _ _ _ | exact cells_ptr _ | exact cells_map _ | exact cells_func _ _ _ | exact cells_nilFunc | exact cells_one (by assumption) (by assumption)) ?_; clear hL; intro gq wq hL)) | ((with_reducible refine gLoad rfl rfl ?_); (first | (refine ev_load1L rfl hL rfl rfl HasV.mem (by rfl) ?_) | (refine ev_loadAllL rfl hL rfl rfl HasV.mem (by rfl) ?_) | (refine ev_loadL rfl hL rfl rfl HasV.mem SegC.seg ?_))) | ((with_reducible refine gStore rfl rfl ?_); (first | (refine ev_storeC rfl hL rfl rfl rfl (by first | exact cells_agg _ rfl | exact cells_int _ _ | exact cells_str _ | exact cells_bool _ | exact cells_slice _ _ _ | exact cells_ptr _ | exact cells_map _ | exact cells_func _ _ _ | exact cells_nilFunc | exact cells_one (by assumption) (by assumption)) (by rfl) ?_) | (refine ev_storeAllC rfl hL rfl rfl rfl (by first | exact cells_agg _ rfl | exact cells_int _ _ | exact cells_str _ | exact cells_bool _ | exact cells_slice _ _ _ | exact cells_ptr _ | exact cells_map _ | exact cells_func _ _ _ | exact cells_nilFunc | exact cells_one (by assumption) (by assumption)) (by rfl) (by rfl) ?_)); clear hL; intro wq hL) | ((with_reducible refine gLoadG rfl rfl ?_ ?_); (exact wanted_some rfl rfl rfl (by with_reducible rfl)); (first | (refine ev_load1G (wanted_some rfl rfl rfl rfl) hL rfl rfl HasV.mem (by rfl) ?_) | (refine ev_loadAllG (wanted_some rfl rfl rfl rfl) hL rfl rfl HasV.mem (by rfl) ?_) | (refine ev_loadG_ (wanted_some rfl rfl rfl rfl) hL rfl rfl HasV.mem SegC.seg ?_))))
      go_ret
      exact ⟨congrArg (fun s => Ending.returned (Value.string s)) (by have hu := HU.out; unfold itoaB Lib.itoa; rw [if_pos hn, ← hu, HR.out]; exact ba_cons 45 l), hL.below⟩
set_option maxHeartbeats 1000000 in
theorem ref23_digits_pos (n : Int) (w : World) (h0 : -9223372036854775808 ≤ n) (h1 : n ≤ 9223372036854775807) (hn : ¬ n < 0) :
    Calls Tryd.prog 28 #[.int .i64 n] w fun e w' => e = .returned (.string (itoaB n)) ∧ Below w.heap.size w w' := by
  have hL := Loc.nil w NoM
  have t0 : decide (n < 0) = false := (by first | (simp; done) | (simp; omega))
  obtain ⟨u, hu⟩ : ∃ u : Nat, u = n.toNat := ⟨_, rfl⟩
  have e1 : IntKind.u64.wrap n = (u : Int) := by rw [IntKind.wrap_u64]; omega
  have hub : u < 18446744073709551616 := by omega
  have HU := Lib.hid hu
  clear hu
  go_enter Tryd.func28, Tryd.ntmps28
  go_wp2_with (first | ((with_reducible refine gAlloc rfl rfl ?_); (refine ev_allocL rfl hL rfl (by first | exact cells_agg _ rfl | exact cells_int _ _ | exact cells_str _ | exact cells_bool _ | exact cells_slice _ _ _ | exact cells_ptr _ | exact cells_map _ | exact cells_func _ _ _ | exact cells_nilFunc | exact cells_one (by assumption) (by assumption)) ?_; clear hL; intro gq wq hL)) | ((with_reducible refine gBox rfl rfl ?_); (refine ev_boxL rfl hL rfl rfl (by first | exact cells_agg _ rfl | exact cells_int _ _ | exact cells_str _ | exact cells_bool _ | exact cells_slice _ _ _ | exact cells_ptr _ | exact cells_map _ | exact cells_func _ _ _ | exact cells_nilFunc | exact cells_one (by assumption) (by assumption)) ?_; clear hL; intro gq wq hL)) | ((with_reducible refine gLoad rfl rfl ?_); (first | (refine ev_load1L rfl hL rfl rfl HasV.mem (by rfl) ?_) | (refine ev_loadAllL rfl hL rfl rfl HasV.mem (by rfl) ?_) | (refine ev_loadL rfl hL rfl rfl HasV.mem SegC.seg ?_))) | ((with_reducible refine gStore rfl rfl ?_); (first | (refine ev_storeC rfl hL rfl rfl rfl (by first | exact cells_agg _ rfl | exact cells_int _ _ | exact cells_str _ | exact cells_bool _ | exact cells_slice _ _ _ | exact cells_ptr _ | exact cells_map _ | exact cells_func _ _ _ | exact cells_nilFunc | exact cells_one (by assumption) (by assumption)) (by rfl) ?_) | (refine ev_storeAllC rfl hL rfl rfl rfl (by first | exact cells_agg _ rfl | exact cells_int _ _ | exact cells_str _ | exact cells_bool _ | exact cells_slice _ _ _ | exact cells_ptr _ | exact cells_map _ | exact cells_func _ _ _ | exact cells_nilFunc | exact cells_one (by assumption) (by assumption)) (by rfl) (by rfl) ?_)); clear hL; intro wq hL) | ((with_reducible refine gLoadG rfl rfl ?_ ?_); (exact wanted_some rfl rfl rfl (by with_reducible rfl)); (first | (refine ev_load1G (wanted_some rfl rfl rfl rfl) hL rfl rfl HasV.mem (by rfl) ?_) | (refine ev_loadAllG (wanted_some rfl rfl rfl rfl) hL rfl rfl HasV.mem (by rfl) ?_) | (refine ev_loadG_ (wanted_some rfl rfl rfl rfl) hL rfl rfl HasV.mem SegC.seg ?_))))
  clear e1
  go_loopw [3, 4, 11] (fun x y i wr => ∃ (k uk : Nat) (l : List UInt8), k ≤ 20 ∧ i = .int .i64 k ∧ x = .int .u64 uk ∧ y = .string ⟨l.toArray⟩ ∧ Hid (DigAt u k uk l) ∧ uk < 18446744073709551616 ∧ l.length ≤ k ∧ Loc w NoM wr []) (fun _ _ i _ => 20 - (intOf i).toNat)
  case atStart => exact ⟨0, u, [], by omega, rfl, rfl, rfl, Lib.hid (.start u), hub, by simp, hL⟩
  case round =>
    clear hL
    obtain ⟨k, uk, l, hk, rfl, rfl, rfl, HD, hb, hll, hL⟩ := hrel
    by_cases hlt : k < 20
    · by_cases hp : 0 < uk
      · have t1 : decide ((0 : Int) < (uk : Int)) = true := (by first | (simp; done) | (simp; omega))
        have hv : (48 : Int) + (uk : Int) % 10 = ((dch uk).toNat : Int) := (dch_val uk).symm
        have HD2 := Lib.hid (HD.out.put (.inl hp))
        go_wp2_with (first
          | ((with_reducible refine gLit rfl rfl ?_); refine ev_litL (cs := [.int .u8 (dch uk).toNat]) rfl hL rfl rfl rfl (by kernel_rfl) ?_; clear hL; intro gq wq hL)
          | ((with_reducible refine gate (N := 24) rfl ?_); refine ev_b2s (l := [dch uk]) rfl rfl rfl (one_byte (hL.box (by first | exact .head _ | exact .tail _ (.head _) | exact .tail _ (.tail _ (.head _)) | exact .tail _ (.tail _ (.tail _ (.head _))) | exact .tail _ (.tail _ (.tail _ (.tail _ (.head _)))) | exact .tail _ (.tail _ (.tail _ (.tail _ (.tail _ (.head _))))) | exact .tail _ (.tail _ (.tail _ (.tail _ (.tail _ (.tail _ (.head _)))))) | exact .tail _ (.tail _ (.tail _ (.tail _ (.tail _ (.tail _ (.tail _ (.head _))))))) | exact .tail _ (.tail _ (.tail _ (.tail _ (.tail _ (.tail _ (.tail _ (.tail _ (.head _))))))))))) Tryd.underlying5 Tryd.underlying9 ?_)
          | ((with_reducible refine gCat rfl rfl ?_); refine ev_cat (s := ⟨[dch uk].toArray⟩) (u := ⟨l.toArray⟩) rfl rfl rfl rfl (by simp [ByteArray.size]; omega) ?_; rw [ba_cons])
          | ((with_reducible refine gAlloc rfl rfl ?_); (refine ev_allocL rfl hL rfl (by first | exact cells_agg _ rfl | exact cells_int _ _ | exact cells_str _ | exact cells_bool _ | exact cells_slice _ _ _ | exact cells_ptr _ | exact cells_map _ | exact cells_func _ _ _ | exact cells_nilFunc | exact cells_one (by assumption) (by assumption)) ?_; clear hL; intro gq wq hL)) | ((with_reducible refine gBox rfl rfl ?_); (refine ev_boxL rfl hL rfl rfl (by first | exact cells_agg _ rfl | exact cells_int _ _ | exact cells_str _ | exact cells_bool _ | exact cells_slice _ _ _ | exact cells_ptr _ | exact cells_map _ | exact cells_func _ _ _ | exact cells_nilFunc | exact cells_one (by assumption) (by assumption)) ?_; clear hL; intro gq wq hL)) | ((with_reducible refine gLoad rfl rfl ?_); (first | (refine ev_load1L rfl hL rfl rfl HasV.mem (by rfl) ?_) | (refine ev_loadAllL rfl hL rfl rfl HasV.mem (by rfl) ?_) | (refine ev_loadL rfl hL rfl rfl HasV.mem SegC.seg ?_))) | ((with_reducible refine gStore rfl rfl ?_); (first | (refine ev_storeC rfl hL rfl rfl rfl (by first | exact cells_agg _ rfl | exact cells_int _ _ | exact cells_str _ | exact cells_bool _ | exact cells_slice _ _ _ | exact cells_ptr _ | exact cells_map _ | exact cells_func _ _ _ | exact cells_nilFunc | exact cells_one (by assumption) (by assumption)) (by rfl) ?_) | (refine ev_storeAllC rfl hL rfl rfl rfl (by first | exact cells_agg _ rfl | exact cells_int _ _ | exact cells_str _ | exact cells_bool _ | exact cells_slice _ _ _ | exact cells_ptr _ | exact cells_map _ | exact cells_func _ _ _ | exact cells_nilFunc | exact cells_one (by assumption) (by assumption)) (by rfl) (by rfl) ?_)); clear hL; intro wq hL) | ((with_reducible refine gLoadG rfl rfl ?_ ?_); (exact wanted_some rfl rfl rfl (by with_reducible rfl)); (first | (refine ev_load1G (wanted_some rfl rfl rfl rfl) hL rfl rfl HasV.mem (by rfl) ?_) | (refine ev_loadAllG (wanted_some rfl rfl rfl rfl) hL rfl rfl HasV.mem (by rfl) ?_) | (refine ev_loadG_ (wanted_some rfl rfl rfl rfl) hL rfl rfl HasV.mem SegC.seg ?_))))
        go_roundw
        case rel => exact ⟨k + 1, uk / 10, dch uk :: l, by omega, by go_num, by go_num, rfl, HD2, by omega, by first | (simp; done) | (simp; omega), hL.drop⟩
        case measure => simp [intOf]; omega
      · obtain rfl : uk = 0 := by omega
        have t1 : decide ((0 : Int) < ((0 : Nat) : Int)) = false := by simp
        cases l with
        | nil =>
          have hv : (48 : Int) + ((0 : Nat) : Int) % 10 = ((dch 0).toNat : Int) := (dch_val 0).symm
          have HD2 := Lib.hid (HD.out.put (.inr rfl))
          go_wp2_with (first
            | ((with_reducible refine gLit rfl rfl ?_); refine ev_litL (cs := [.int .u8 (dch 0).toNat]) rfl hL rfl rfl rfl (by kernel_rfl) ?_; clear hL; intro gq wq hL)
            | ((with_reducible refine gate (N := 24) rfl ?_); refine ev_b2s (l := [dch 0]) rfl rfl rfl (one_byte (hL.box (by first | exact .head _ | exact .tail _ (.head _) | exact .tail _ (.tail _ (.head _)) | exact .tail _ (.tail _ (.tail _ (.head _))) | exact .tail _ (.tail _ (.tail _ (.tail _ (.head _)))) | exact .tail _ (.tail _ (.tail _ (.tail _ (.tail _ (.head _))))) | exact .tail _ (.tail _ (.tail _ (.tail _ (.tail _ (.tail _ (.head _)))))) | exact .tail _ (.tail _ (.tail _ (.tail _ (.tail _ (.tail _ (.tail _ (.head _))))))) | exact .tail _ (.tail _ (.tail _ (.tail _ (.tail _ (.tail _ (.tail _ (.tail _ (.head _))))))))))) Tryd.underlying5 Tryd.underlying9 ?_)
            | ((with_reducible refine gCat rfl rfl ?_); refine ev_cat (s := ⟨[dch 0].toArray⟩) (u := ⟨([] : List UInt8).toArray⟩) rfl rfl rfl rfl (by simp [ByteArray.size]; omega) ?_; rw [ba_cons])
            | ((with_reducible refine gAlloc rfl rfl ?_); (refine ev_allocL rfl hL rfl (by first | exact cells_agg _ rfl | exact cells_int _ _ | exact cells_str _ | exact cells_bool _ | exact cells_slice _ _ _ | exact cells_ptr _ | exact cells_map _ | exact cells_func _ _ _ | exact cells_nilFunc | exact cells_one (by assumption) (by assumption)) ?_; clear hL; intro gq wq hL)) | ((with_reducible refine gBox rfl rfl ?_); (refine ev_boxL rfl hL rfl rfl (by first | exact cells_agg _ rfl | exact cells_int _ _ | exact cells_str _ | exact cells_bool _ | exact cells_slice _ _ _ | exact cells_ptr _ | exact cells_map _ | exact cells_func _ _ _ | exact cells_nilFunc | exact cells_one (by assumption) (by assumption)) ?_; clear hL; intro gq wq hL)) | ((with_reducible refine gLoad rfl rfl ?_); (first | (refine ev_load1L rfl hL rfl rfl HasV.mem (by rfl) ?_) | (refine ev_loadAllL rfl hL rfl rfl HasV.mem (by rfl) ?_) | (refine ev_loadL rfl hL rfl rfl HasV.mem SegC.seg ?_))) | ((with_reducible refine gStore rfl rfl ?_); (first | (refine ev_storeC rfl hL rfl rfl rfl (by first | exact cells_agg _ rfl | exact cells_int _ _ | exact cells_str _ | exact cells_bool _ | exact cells_slice _ _ _ | exact cells_ptr _ | exact cells_map _ | exact cells_func _ _ _ | exact cells_nilFunc | exact cells_one (by assumption) (by assumption)) (by rfl) ?_) | (refine ev_storeAllC rfl hL rfl rfl rfl (by first | exact cells_agg _ rfl | exact cells_int _ _ | exact cells_str _ | exact cells_bool _ | exact cells_slice _ _ _ | exact cells_ptr _ | exact cells_map _ | exact cells_func _ _ _ | exact cells_nilFunc | exact cells_one (by assumption) (by assumption)) (by rfl) (by rfl) ?_)); clear hL; intro wq hL) | ((with_reducible refine gLoadG rfl rfl ?_ ?_); (exact wanted_some rfl rfl rfl (by with_reducible rfl)); (first | (refine ev_load1G (wanted_some rfl rfl rfl rfl) hL rfl rfl HasV.mem (by rfl) ?_) | (refine ev_loadAllG (wanted_some rfl rfl rfl rfl) hL rfl rfl HasV.mem (by rfl) ?_) | (refine ev_loadG_ (wanted_some rfl rfl rfl rfl) hL rfl rfl HasV.mem SegC.seg ?_))))
          go_roundw
          case rel => exact ⟨k + 1, 0, dch 0 :: [], by omega, by go_num, by go_num, rfl, HD2, by omega, by first | (simp; done) | (simp; omega), hL.drop⟩
          case measure => simp [intOf]; omega
        | cons c l =>
          have HD2 := Lib.hid (HD.out.skip (by simp))
          go_wp2_with (first | ((with_reducible refine gAlloc rfl rfl ?_); (refine ev_allocL rfl hL rfl (by first | exact cells_agg _ rfl | exact cells_int _ _ | exact cells_str _ | exact cells_bool _ | exact cells_slice _ _ _ | exact cells_ptr _ | exact cells_map _ | exact cells_func _ _ _ | exact cells_nilFunc | exact cells_one (by assumption) (by assumption)) ?_; clear hL; intro gq wq hL)) | ((with_reducible refine gBox rfl rfl ?_); (refine ev_boxL rfl hL rfl rfl (by first | exact cells_agg _ rfl | exact cells_int _ _ | exact cells_str _ | exact cells_bool _ | exact cells_slice _ _ _ | exact cells_ptr _ | exact cells_map _ | exact cells_func _ _ _ | exact cells_nilFunc | exact cells_one (by assumption) (by assumption)) ?_; clear hL; intro gq wq hL)) | ((with_reducible refine gLoad rfl rfl ?_); (first | (refine ev_load1L rfl hL rfl rfl HasV.mem (by rfl) ?_) | (refine ev_loadAllL rfl hL rfl rfl HasV.mem (by rfl) ?_) | (refine ev_loadL rfl hL rfl rfl HasV.mem SegC.seg ?_))) | ((with_reducible refine gStore rfl rfl ?_); (first | (refine ev_storeC rfl hL rfl rfl rfl (by first | exact cells_agg _ rfl | exact cells_int _ _ | exact cells_str _ | exact cells_bool _ | exact cells_slice _ _ _ | exact cells_ptr _ | exact cells_map _ | exact cells_func _ _ _ | exact cells_nilFunc | exact cells_one (by assumption) (by assumption)) (by rfl) ?_) | (refine ev_storeAllC rfl hL rfl rfl rfl (by first | exact cells_agg _ rfl | exact cells_int _ _ | exact cells_str _ | exact cells_bool _ | exact cells_slice _ _ _ | exact cells_ptr _ | exact cells_map _ | exact cells_func _ _ _ | exact cells_nilFunc | exact cells_one (by assumption) (by assumption)) (by rfl) (by rfl) ?_)); clear hL; intro wq hL) | ((with_reducible refine gLoadG rfl rfl ?_ ?_); (exact wanted_some rfl rfl rfl (by with_reducible rfl)); (first | (refine ev_load1G (wanted_some rfl rfl rfl rfl) hL rfl rfl HasV.mem (by rfl) ?_) | (refine ev_loadAllG (wanted_some rfl rfl rfl rfl) hL rfl rfl HasV.mem (by rfl) ?_) | (refine ev_loadG_ (wanted_some rfl rfl rfl rfl) hL rfl rfl HasV.mem SegC.seg ?_))))
          go_roundw
          case rel => exact ⟨k + 1, 0, c :: l, by omega, by go_num, rfl, rfl, HD2, by omega, by simp at hll ⊢; omega, hL⟩
          case measure => simp [intOf]; omega
    · obtain rfl : k = 20 := by omega
      have HR := Lib.hid (HD.out.done hub)
      go_wp2_with (first | ((with_reducible refine gAlloc rfl rfl ?_); (refine ev_allocL rfl hL rfl (by first | exact cells_agg _ rfl | exact cells_int _ _ | exact cells_str _ | exact cells_bool _ | exact cells_slice _ _ _ | exact cells_ptr _ | exact cells_map _ | exact cells_func _ _ _ | exact cells_nilFunc | exact cells_one (by assumption) (by assumption)) ?_; clear hL; intro gq wq hL)) | ((with_reducible refine gBox rfl rfl ?_); (refine ev_boxL rfl hL rfl rfl (by first | exact cells_agg _ rfl | exact cells_int _ _ | exact cells_str _ | exact cells_bool _ | exact cells_slice _ _ _ | exact cells_ptr _ | exact cells_map _ | exact cells_func _ _ _ | exact cells_nilFunc | exact cells_one (by assumption) (by assumption)) ?_; clear hL; intro gq wq hL)) | ((with_reducible refine gLoad rfl rfl ?_); (first | (refine ev_load1L rfl hL rfl rfl HasV.mem (by rfl) ?_) | (refine ev_loadAllL rfl hL rfl rfl HasV.mem (by rfl) ?_) | (refine ev_loadL rfl hL rfl rfl HasV.mem SegC.seg ?_))) | ((with_reducible refine gStore rfl rfl ?_); (first | (refine ev_storeC rfl hL rfl rfl rfl (by first | exact cells_agg _ rfl | exact cells_int _ _ | exact cells_str _ | exact cells_bool _ | exact cells_slice _ _ _ | exact cells_ptr _ | exact cells_map _ | exact cells_func _ _ _ | exact cells_nilFunc | exact cells_one (by assumption) (by assumption)) (by rfl) ?_) | (refine ev_storeAllC rfl hL rfl rfl rfl (by first | exact cells_agg _ rfl | exact cells_int _ _ | exact cells_str _ | exact cells_bool _ | exact cells_slice _ _ _ | exact cells_ptr _ | exact cells_map _ | exact cells_func _ _ _ | exact cells_nilFunc | exact cells_one (by assumption) (by assumption)) (by rfl) (by rfl) ?_)); clear hL; intro wq hL) | ((with_reducible refine gLoadG rfl rfl ?_ ?_); (exact wanted_some rfl rfl rfl (by with_reducible rfl)); (first | (refine ev_load1G (wanted_some rfl rfl rfl rfl) hL rfl rfl HasV.mem (by rfl) ?_) | (refine ev_loadAllG (wanted_some rfl rfl rfl rfl) hL rfl rfl HasV.mem (by rfl) ?_) | (refine ev_loadG_ (wanted_some rfl rfl rfl rfl) hL rfl rfl HasV.mem SegC.seg ?_))))
      go_ret
      exact ⟨congrArg (fun s => Ending.returned (Value.string s)) (by have hu := HU.out; unfold itoaB Lib.itoa; rw [if_neg (by omega), ← hu, HR.out]), hL.below⟩
theorem ref23_digits (n : Int) (w : World) (h0 : -9223372036854775808 ≤ n) (h1 : n ≤ 9223372036854775807) :
    Calls Tryd.prog 28 #[.int .i64 n] w fun e w' => e = .returned (.string (itoaB n)) ∧ Below w.heap.size w w' := by
  by_cases hn : n < 0
  · exact ref23_digits_neg n w h0 h1 hn
  · exact ref23_digits_pos n w h0 h1 hn
end Go.Proofs.YtebpacmhdkgfeaaDoor

/- Chapter 29: a stamp as text, on both sides. -/
namespace Go.Proofs.YtebpacmhdkgfeaaDoor
open Go.RowKit

theorem digits23_ext {W : World} {e : Ext W} (n : Int) (h : I64 n) : Calls Tryd.prog 28 #[.int .i64 n] e.w fun en w'' => en = .returned (.string (itoaB n)) ∧ ∃ m : Ext W, w'' = m.w :=
  calls_ext (ref23_digits n _ h.1 h.2)
theorem story_stamp (m : Mk) (w : World) (hb : I64 m.boot) (hn : I64 m.n) (ht : Tb w) :
    Calls Tryd.prog 23 #[m.val] w fun e w' => e = .returned (.string m.text) ∧ Below w.heap.size w w' := by
  have hL := Loc.nil w NoM
  have h1 := hb.size
  have h2 := hn.size
  go_enter Tryd.func23, Tryd.ntmps23
  go_wp2_with (first | ((with_reducible refine gAlloc rfl rfl ?_); (refine ev_allocL rfl hL rfl (by first | exact cells_agg _ rfl | exact cells_int _ _ | exact cells_str _ | exact cells_bool _ | exact cells_slice _ _ _ | exact cells_ptr _ | exact cells_map _ | exact cells_func _ _ _ | exact cells_nilFunc | exact cells_one (by assumption) (by assumption)) ?_; clear hL; intro gq wq hL)) | ((with_reducible refine gBox rfl rfl ?_); (refine ev_boxL rfl hL rfl rfl (by first | exact cells_agg _ rfl | exact cells_int _ _ | exact cells_str _ | exact cells_bool _ | exact cells_slice _ _ _ | exact cells_ptr _ | exact cells_map _ | exact cells_func _ _ _ | exact cells_nilFunc | exact cells_one (by assumption) (by assumption)) ?_; clear hL; intro gq wq hL)) | ((with_reducible refine gLoad rfl rfl ?_); (first | (refine ev_load1L rfl hL rfl rfl HasV.mem (by rfl) ?_) | (refine ev_loadAllL rfl hL rfl rfl HasV.mem (by rfl) ?_) | (refine ev_loadL rfl hL rfl rfl HasV.mem SegC.seg ?_))) | ((with_reducible refine gStore rfl rfl ?_); (first | (refine ev_storeC rfl hL rfl rfl rfl (by first | exact cells_agg _ rfl | exact cells_int _ _ | exact cells_str _ | exact cells_bool _ | exact cells_slice _ _ _ | exact cells_ptr _ | exact cells_map _ | exact cells_func _ _ _ | exact cells_nilFunc | exact cells_one (by assumption) (by assumption)) (by rfl) ?_) | (refine ev_storeAllC rfl hL rfl rfl rfl (by first | exact cells_agg _ rfl | exact cells_int _ _ | exact cells_str _ | exact cells_bool _ | exact cells_slice _ _ _ | exact cells_ptr _ | exact cells_map _ | exact cells_func _ _ _ | exact cells_nilFunc | exact cells_one (by assumption) (by assumption)) (by rfl) (by rfl) ?_)); clear hL; intro wq hL) | ((with_reducible refine gLoadG rfl rfl ?_ ?_); (exact wanted_some rfl rfl rfl (by with_reducible rfl)); (first | (refine ev_load1G (wanted_some rfl rfl rfl rfl) hL rfl rfl HasV.mem (by rfl) ?_) | (refine ev_loadAllG (wanted_some rfl rfl rfl rfl) hL rfl rfl HasV.mem (by rfl) ?_) | (refine ev_loadG_ (wanted_some rfl rfl rfl rfl) hL rfl rfl HasV.mem SegC.seg ?_))))
  have ht := ht.below hL.below
  refine wp_region_ext (by kernel_rfl) (by kernel_rfl) ?_
  repeat (first | (go_big_quiet_want; (first | refine quiet_load1L hL rfl rfl HasV.mem (by rfl) ?_ | refine quiet_loadAllL hL rfl rfl HasV.mem (by rfl) ?_ | refine quiet_loadL hL rfl rfl HasV.mem SegC.seg ?_); go_big_quiet_on; simp only [Act.put, List.setIfInBounds_toArray, List.set_cons_succ, List.set_cons_zero]) | (go_big_quiet_want; refine quiet_cat rfl rfl rfl (by simp only [ByteArray.size_append, ByteArray.size_mk']; simp; omega) ?_; go_big_quiet_on; simp only [Act.put, List.setIfInBounds_toArray, List.set_cons_succ, List.set_cons_zero]) | go_big_quiet_step (first
    | (go_at_call 24; with_reducible exact itoa_ext ht _ hb)
    | (go_at_call 24; with_reducible exact itoa_ext ht _ hn)))
  refine wpQuiet_nil ?_
  rintro _ ⟨⟨w2, hb2⟩, rfl⟩
  have hL := hL.call hb2
  go_wp2
  go_ret
  exact ⟨rfl, hL.below⟩
theorem ref29_stamp (m : Mk) (w : World) (hb : I64 m.boot) (hn : I64 m.n) :
    Calls Tryd.prog 27 #[m.val] w fun e w' => e = .returned (.string m.text) ∧ Below w.heap.size w w' := by
  have hL := Loc.nil w NoM
  have h1 := hb.size
  have h2 := hn.size
  go_enter Tryd.func27, Tryd.ntmps27
  go_wp2_with (first | ((with_reducible refine gAlloc rfl rfl ?_); (refine ev_allocL rfl hL rfl (by first | exact cells_agg _ rfl | exact cells_int _ _ | exact cells_str _ | exact cells_bool _ | exact cells_slice _ _ _ | exact cells_ptr _ | exact cells_map _ | exact cells_func _ _ _ | exact cells_nilFunc | exact cells_one (by assumption) (by assumption)) ?_; clear hL; intro gq wq hL)) | ((with_reducible refine gBox rfl rfl ?_); (refine ev_boxL rfl hL rfl rfl (by first | exact cells_agg _ rfl | exact cells_int _ _ | exact cells_str _ | exact cells_bool _ | exact cells_slice _ _ _ | exact cells_ptr _ | exact cells_map _ | exact cells_func _ _ _ | exact cells_nilFunc | exact cells_one (by assumption) (by assumption)) ?_; clear hL; intro gq wq hL)) | ((with_reducible refine gLoad rfl rfl ?_); (first | (refine ev_load1L rfl hL rfl rfl HasV.mem (by rfl) ?_) | (refine ev_loadAllL rfl hL rfl rfl HasV.mem (by rfl) ?_) | (refine ev_loadL rfl hL rfl rfl HasV.mem SegC.seg ?_))) | ((with_reducible refine gStore rfl rfl ?_); (first | (refine ev_storeC rfl hL rfl rfl rfl (by first | exact cells_agg _ rfl | exact cells_int _ _ | exact cells_str _ | exact cells_bool _ | exact cells_slice _ _ _ | exact cells_ptr _ | exact cells_map _ | exact cells_func _ _ _ | exact cells_nilFunc | exact cells_one (by assumption) (by assumption)) (by rfl) ?_) | (refine ev_storeAllC rfl hL rfl rfl rfl (by first | exact cells_agg _ rfl | exact cells_int _ _ | exact cells_str _ | exact cells_bool _ | exact cells_slice _ _ _ | exact cells_ptr _ | exact cells_map _ | exact cells_func _ _ _ | exact cells_nilFunc | exact cells_one (by assumption) (by assumption)) (by rfl) (by rfl) ?_)); clear hL; intro wq hL) | ((with_reducible refine gLoadG rfl rfl ?_ ?_); (exact wanted_some rfl rfl rfl (by with_reducible rfl)); (first | (refine ev_load1G (wanted_some rfl rfl rfl rfl) hL rfl rfl HasV.mem (by rfl) ?_) | (refine ev_loadAllG (wanted_some rfl rfl rfl rfl) hL rfl rfl HasV.mem (by rfl) ?_) | (refine ev_loadG_ (wanted_some rfl rfl rfl rfl) hL rfl rfl HasV.mem SegC.seg ?_))))
  refine wp_region_ext (by kernel_rfl) (by kernel_rfl) ?_
  repeat (first | (go_big_quiet_want; (first | refine quiet_load1L hL rfl rfl HasV.mem (by rfl) ?_ | refine quiet_loadAllL hL rfl rfl HasV.mem (by rfl) ?_ | refine quiet_loadL hL rfl rfl HasV.mem SegC.seg ?_); go_big_quiet_on; simp only [Act.put, List.setIfInBounds_toArray, List.set_cons_succ, List.set_cons_zero]) | (go_big_quiet_want; refine quiet_cat rfl rfl rfl (by simp only [ByteArray.size_append, ByteArray.size_mk']; simp; omega) ?_; go_big_quiet_on; simp only [Act.put, List.setIfInBounds_toArray, List.set_cons_succ, List.set_cons_zero]) | go_big_quiet_step (first
    | (go_at_call 28; with_reducible exact digits23_ext _ hb)
    | (go_at_call 28; with_reducible exact digits23_ext _ hn)))
  refine wpQuiet_nil ?_
  rintro _ ⟨⟨w2, hb2⟩, rfl⟩
  have hL := hL.call hb2
  go_wp2
  go_ret
  exact ⟨rfl, hL.below⟩
end Go.Proofs.YtebpacmhdkgfeaaDoor

/- Chapter 29: which stamp is less. -/
namespace Go.Proofs.YtebpacmhdkgfeaaDoor
open Go.RowKit

def Mk.less (a b : Mk) : Bool := if a.boot = b.boot then decide (a.n < b.n) else decide (a.boot < b.boot)
theorem vec_less (a b : Mk) (w : World) :
    Calls Tryd.prog 51 #[a.val, b.val] w fun e w' => e = .returned (.bool (a.less b)) ∧ Below w.heap.size w w' := by
  have hL := Loc.nil w NoM
  by_cases hb : a.boot = b.boot
  · have t0 : (a.boot != b.boot) = false := by simp [hb]
    have HB := Lib.hid hb
    clear hb
    go_enter Tryd.func51, Tryd.ntmps51
    go_wp2_with (first | ((with_reducible refine gAlloc rfl rfl ?_); (refine ev_allocL rfl hL rfl (by first | exact cells_agg _ rfl | exact cells_int _ _ | exact cells_str _ | exact cells_bool _ | exact cells_slice _ _ _ | exact cells_ptr _ | exact cells_map _ | exact cells_func _ _ _ | exact cells_nilFunc | exact cells_one (by assumption) (by assumption)) ?_; clear hL; intro gq wq hL)) | ((with_reducible refine gBox rfl rfl ?_); (refine ev_boxL rfl hL rfl rfl (by first | exact cells_agg _ rfl | exact cells_int _ _ | exact cells_str _ | exact cells_bool _ | exact cells_slice _ _ _ | exact cells_ptr _ | exact cells_map _ | exact cells_func _ _ _ | exact cells_nilFunc | exact cells_one (by assumption) (by assumption)) ?_; clear hL; intro gq wq hL)) | ((with_reducible refine gLoad rfl rfl ?_); (first | (refine ev_load1L rfl hL rfl rfl HasV.mem (by rfl) ?_) | (refine ev_loadAllL rfl hL rfl rfl HasV.mem (by rfl) ?_) | (refine ev_loadL rfl hL rfl rfl HasV.mem SegC.seg ?_))) | ((with_reducible refine gStore rfl rfl ?_); (first | (refine ev_storeC rfl hL rfl rfl rfl (by first | exact cells_agg _ rfl | exact cells_int _ _ | exact cells_str _ | exact cells_bool _ | exact cells_slice _ _ _ | exact cells_ptr _ | exact cells_map _ | exact cells_func _ _ _ | exact cells_nilFunc | exact cells_one (by assumption) (by assumption)) (by rfl) ?_) | (refine ev_storeAllC rfl hL rfl rfl rfl (by first | exact cells_agg _ rfl | exact cells_int _ _ | exact cells_str _ | exact cells_bool _ | exact cells_slice _ _ _ | exact cells_ptr _ | exact cells_map _ | exact cells_func _ _ _ | exact cells_nilFunc | exact cells_one (by assumption) (by assumption)) (by rfl) (by rfl) ?_)); clear hL; intro wq hL) | ((with_reducible refine gLoadG rfl rfl ?_ ?_); (exact wanted_some rfl rfl rfl (by with_reducible rfl)); (first | (refine ev_load1G (wanted_some rfl rfl rfl rfl) hL rfl rfl HasV.mem (by rfl) ?_) | (refine ev_loadAllG (wanted_some rfl rfl rfl rfl) hL rfl rfl HasV.mem (by rfl) ?_) | (refine ev_loadG_ (wanted_some rfl rfl rfl rfl) hL rfl rfl HasV.mem SegC.seg ?_))))
    go_ret
    exact ⟨ret_b (by unfold Mk.less; rw [if_pos HB.out]), hL.below⟩
  · have t0 : (a.boot != b.boot) = true := by simp [hb]
    have HB := Lib.hid hb
    clear hb
    go_enter Tryd.func51, Tryd.ntmps51
    go_wp2_with (first | ((with_reducible refine gAlloc rfl rfl ?_); (refine ev_allocL rfl hL rfl (by first | exact cells_agg _ rfl | exact cells_int _ _ | exact cells_str _ | exact cells_bool _ | exact cells_slice _ _ _ | exact cells_ptr _ | exact cells_map _ | exact cells_func _ _ _ | exact cells_nilFunc | exact cells_one (by assumption) (by assumption)) ?_; clear hL; intro gq wq hL)) | ((with_reducible refine gBox rfl rfl ?_); (refine ev_boxL rfl hL rfl rfl (by first | exact cells_agg _ rfl | exact cells_int _ _ | exact cells_str _ | exact cells_bool _ | exact cells_slice _ _ _ | exact cells_ptr _ | exact cells_map _ | exact cells_func _ _ _ | exact cells_nilFunc | exact cells_one (by assumption) (by assumption)) ?_; clear hL; intro gq wq hL)) | ((with_reducible refine gLoad rfl rfl ?_); (first | (refine ev_load1L rfl hL rfl rfl HasV.mem (by rfl) ?_) | (refine ev_loadAllL rfl hL rfl rfl HasV.mem (by rfl) ?_) | (refine ev_loadL rfl hL rfl rfl HasV.mem SegC.seg ?_))) | ((with_reducible refine gStore rfl rfl ?_); (first | (refine ev_storeC rfl hL rfl rfl rfl (by first | exact cells_agg _ rfl | exact cells_int _ _ | exact cells_str _ | exact cells_bool _ | exact cells_slice _ _ _ | exact cells_ptr _ | exact cells_map _ | exact cells_func _ _ _ | exact cells_nilFunc | exact cells_one (by assumption) (by assumption)) (by rfl) ?_) | (refine ev_storeAllC rfl hL rfl rfl rfl (by first | exact cells_agg _ rfl | exact cells_int _ _ | exact cells_str _ | exact cells_bool _ | exact cells_slice _ _ _ | exact cells_ptr _ | exact cells_map _ | exact cells_func _ _ _ | exact cells_nilFunc | exact cells_one (by assumption) (by assumption)) (by rfl) (by rfl) ?_)); clear hL; intro wq hL) | ((with_reducible refine gLoadG rfl rfl ?_ ?_); (exact wanted_some rfl rfl rfl (by with_reducible rfl)); (first | (refine ev_load1G (wanted_some rfl rfl rfl rfl) hL rfl rfl HasV.mem (by rfl) ?_) | (refine ev_loadAllG (wanted_some rfl rfl rfl rfl) hL rfl rfl HasV.mem (by rfl) ?_) | (refine ev_loadG_ (wanted_some rfl rfl rfl rfl) hL rfl rfl HasV.mem SegC.seg ?_))))
    go_ret
    exact ⟨ret_b (by unfold Mk.less; rw [if_neg HB.out]), hL.below⟩
theorem stamp_eq (a b : Mk) : ∀ w, (binOp .eql 23 a.val b.val).run Tryd.prog w = .ok (.bool (decide (a = b))) w := by
  have h : eqCells Tryd.prog 3 23 [.int .i64 a.boot, .int .i64 a.n] [.int .i64 b.boot, .int .i64 b.n] = some (a.boot == b.boot && (a.n == b.n && true)) := by kernel_rfl
  have e : (a.boot == b.boot && (a.n == b.n && true)) = decide (a = b) := by
    obtain ⟨a1, a2⟩ := a; obtain ⟨b1, b2⟩ := b
    rw [Bool.eq_iff_iff]; simp
  rw [e] at h
  exact run_eql_cells 3 (by decide) (by kernel_rfl) h
end Go.Proofs.YtebpacmhdkgfeaaDoor

/- Vectors: plain data. -/
namespace Go.Proofs.YtebpacmhdkgfeaaDoor
open Go.RowKit

structure V8 where
  (a0 a1 a2 a3 a4 a5 a6 a7 : Int)
  deriving DecidableEq
namespace V8
def list (v : V8) : List Int := [v.a0, v.a1, v.a2, v.a3, v.a4, v.a5, v.a6, v.a7]
def get (v : V8) (j : Nat) : Int := v.list.getD j 0
abbrev val (v : V8) : Value := .agg #[.int .i64 v.a0, .int .i64 v.a1, .int .i64 v.a2, .int .i64 v.a3, .int .i64 v.a4, .int .i64 v.a5, .int .i64 v.a6, .int .i64 v.a7]
def okN (n : Int) : Bool := decide (0 ≤ n ∧ n ≤ 1099511627776)
def good (v : V8) : Bool := v.list.all okN
theorem list_length (v : V8) : v.list.length = 8 := rfl
theorem take_succ (v : V8) (j : Nat) (h : j < 8) : v.list.take (j + 1) = v.list.take j ++ [v.get j] := by
  rw [List.take_succ_eq_append_getElem (by rw [list_length]; exact h)]
  congr 2
  unfold get
  rw [List.getD_eq_getElem?_getD, List.getElem?_eq_getElem (by rw [list_length]; exact h)]
  rfl
theorem take_all (v : V8) : v.list.take 8 = v.list := rfl
end V8

theorem idx8 (v : V8) (j : Nat) (hj : j < 8) : ∀ w, (Instr.index 25 v.val (.int .i64 (j : Int))).run Tryd.prog w = .ok (.int .i64 (v.get j)) w := by
  have h : j = 0 ∨ j = 1 ∨ j = 2 ∨ j = 3 ∨ j = 4 ∨ j = 5 ∨ j = 6 ∨ j = 7 := by omega
  rcases h with rfl | rfl | rfl | rfl | rfl | rfl | rfl | rfl <;> intro w <;> kernel_rfl

def V8.zero : V8 := ⟨0, 0, 0, 0, 0, 0, 0, 0⟩
def V8.cells (v : V8) : List Value := [.int .i64 v.a0, .int .i64 v.a1, .int .i64 v.a2, .int .i64 v.a3, .int .i64 v.a4, .int .i64 v.a5, .int .i64 v.a6, .int .i64 v.a7]
theorem V8.cells_get (v : V8) (k : Nat) (h : k < 8) : v.cells[k]? = some (.int .i64 (v.get k)) := by
  have e : k = 0 ∨ k = 1 ∨ k = 2 ∨ k = 3 ∨ k = 4 ∨ k = 5 ∨ k = 6 ∨ k = 7 := by omega
  rcases e with rfl | rfl | rfl | rfl | rfl | rfl | rfl | rfl <;> rfl
end Go.Proofs.YtebpacmhdkgfeaaDoor

/- Chapter 29: how two events stand. -/
namespace Go.Proofs.YtebpacmhdkgfeaaDoor
open Go.RowKit

structure Evt where
  at_ : Mk
  vol : Int
  (knew seen : V8)
  (na : Option Addr)
  (nn nc : Nat)
  (la : Option Addr)
  (ln lc : Nat)
def Evt.cells (e : Evt) : List Value := [.int .i64 e.at_.boot, .int .i64 e.at_.n, .int .i64 e.vol, .int .i64 e.knew.a0, .int .i64 e.knew.a1, .int .i64 e.knew.a2, .int .i64 e.knew.a3, .int .i64 e.knew.a4, .int .i64 e.knew.a5, .int .i64 e.knew.a6, .int .i64 e.knew.a7, .int .i64 e.seen.a0, .int .i64 e.seen.a1, .int .i64 e.seen.a2, .int .i64 e.seen.a3, .int .i64 e.seen.a4, .int .i64 e.seen.a5, .int .i64 e.seen.a6, .int .i64 e.seen.a7, .slice e.na e.nn e.nc, .slice e.la e.ln e.lc]
def Evt.cmp (a b : Evt) : Int := if a.at_.less b.at_ = true then -1 else if a.at_ = b.at_ then (if a.vol < b.vol then -1 else if a.vol = b.vol then 0 else 1) else 1
set_option maxHeartbeats 1000000
theorem order_less (a b : Evt) (w : World) (hl : a.at_.less b.at_ = true) (he : decide (a.at_ = b.at_) = false) :
    Calls Tryd.prog 32 #[.agg a.cells.toArray, .agg b.cells.toArray] w fun e w' => e = .returned (.int .i64 (-1)) ∧ Below w.heap.size w w' := by
  have hL := Loc.nil w NoM
  have hq : ∀ w, Hid (Calls Tryd.prog 51 #[.agg #[.int .i64 a.at_.boot, .int .i64 a.at_.n], .agg #[.int .i64 b.at_.boot, .int .i64 b.at_.n]] w fun e w' => e = .returned (.bool true) ∧ Below w.heap.size w w') := fun w => hide (by have q := vec_less a.at_ b.at_ w; rw [hl] at q; exact q)
  have heq : ∀ w, (binOp .eql 23 (.agg #[.int .i64 a.at_.boot, .int .i64 a.at_.n]) (.agg #[.int .i64 b.at_.boot, .int .i64 b.at_.n])).run Tryd.prog w = .ok (.bool false) w := fun w => by have q := stamp_eq a.at_ b.at_ w; rw [he] at q; exact q
  clear hl he
  unfold Evt.cells
  go_enter Tryd.func32, Tryd.ntmps32
  go_wp2_with (first
    | (go_at_call 51; (with_reducible refine (unhide (hq _)).mono ?_); rintro e w3 ⟨rfl, hb3⟩; have hL := hL.call hb3; clear hb3 hq)
    | ((with_reducible refine gAlloc rfl rfl ?_); (refine ev_allocL rfl hL rfl (by first | exact cells_agg _ rfl | exact cells_int _ _ | exact cells_str _ | exact cells_bool _ | exact cells_slice _ _ _ | exact cells_ptr _ | exact cells_map _ | exact cells_func _ _ _ | exact cells_nilFunc | exact cells_one (by assumption) (by assumption)) ?_; clear hL; intro gq wq hL)) | ((with_reducible refine gBox rfl rfl ?_); (refine ev_boxL rfl hL rfl rfl (by first | exact cells_agg _ rfl | exact cells_int _ _ | exact cells_str _ | exact cells_bool _ | exact cells_slice _ _ _ | exact cells_ptr _ | exact cells_map _ | exact cells_func _ _ _ | exact cells_nilFunc | exact cells_one (by assumption) (by assumption)) ?_; clear hL; intro gq wq hL)) | ((with_reducible refine gLoad rfl rfl ?_); (first | (refine ev_load1L rfl hL rfl rfl HasV.mem (by rfl) ?_) | (refine ev_loadAllL rfl hL rfl rfl HasV.mem (by rfl) ?_) | (refine ev_loadL rfl hL rfl rfl HasV.mem SegC.seg ?_))) | ((with_reducible refine gStore rfl rfl ?_); (first | (refine ev_storeC rfl hL rfl rfl rfl (by first | exact cells_agg _ rfl | exact cells_int _ _ | exact cells_str _ | exact cells_bool _ | exact cells_slice _ _ _ | exact cells_ptr _ | exact cells_map _ | exact cells_func _ _ _ | exact cells_nilFunc | exact cells_one (by assumption) (by assumption)) (by rfl) ?_) | (refine ev_storeAllC rfl hL rfl rfl rfl (by first | exact cells_agg _ rfl | exact cells_int _ _ | exact cells_str _ | exact cells_bool _ | exact cells_slice _ _ _ | exact cells_ptr _ | exact cells_map _ | exact cells_func _ _ _ | exact cells_nilFunc | exact cells_one (by assumption) (by assumption)) (by rfl) (by rfl) ?_)); clear hL; intro wq hL) | ((with_reducible refine gLoadG rfl rfl ?_ ?_); (exact wanted_some rfl rfl rfl (by with_reducible rfl)); (first | (refine ev_load1G (wanted_some rfl rfl rfl rfl) hL rfl rfl HasV.mem (by rfl) ?_) | (refine ev_loadAllG (wanted_some rfl rfl rfl rfl) hL rfl rfl HasV.mem (by rfl) ?_) | (refine ev_loadG_ (wanted_some rfl rfl rfl rfl) hL rfl rfl HasV.mem SegC.seg ?_))))
  go_ret
  exact ⟨rfl, hL.below⟩
theorem order_vol (a b : Evt) (w : World) (hl : a.at_.less b.at_ = false) (he : decide (a.at_ = b.at_) = true) (hv : a.vol < b.vol) :
    Calls Tryd.prog 32 #[.agg a.cells.toArray, .agg b.cells.toArray] w fun e w' => e = .returned (.int .i64 (-1)) ∧ Below w.heap.size w w' := by
  have hL := Loc.nil w NoM
  have hq : ∀ w, Hid (Calls Tryd.prog 51 #[.agg #[.int .i64 a.at_.boot, .int .i64 a.at_.n], .agg #[.int .i64 b.at_.boot, .int .i64 b.at_.n]] w fun e w' => e = .returned (.bool false) ∧ Below w.heap.size w w') := fun w => hide (by have q := vec_less a.at_ b.at_ w; rw [hl] at q; exact q)
  have heq : ∀ w, (binOp .eql 23 (.agg #[.int .i64 a.at_.boot, .int .i64 a.at_.n]) (.agg #[.int .i64 b.at_.boot, .int .i64 b.at_.n])).run Tryd.prog w = .ok (.bool true) w := fun w => by have q := stamp_eq a.at_ b.at_ w; rw [he] at q; exact q
  clear hl he
  unfold Evt.cells
  go_enter Tryd.func32, Tryd.ntmps32
  go_wp2_with (first
    | (go_at_call 51; (with_reducible refine (unhide (hq _)).mono ?_); rintro e w3 ⟨rfl, hb3⟩; have hL := hL.call hb3; clear hb3 hq)
    | ((with_reducible refine gAlloc rfl rfl ?_); (refine ev_allocL rfl hL rfl (by first | exact cells_agg _ rfl | exact cells_int _ _ | exact cells_str _ | exact cells_bool _ | exact cells_slice _ _ _ | exact cells_ptr _ | exact cells_map _ | exact cells_func _ _ _ | exact cells_nilFunc | exact cells_one (by assumption) (by assumption)) ?_; clear hL; intro gq wq hL)) | ((with_reducible refine gBox rfl rfl ?_); (refine ev_boxL rfl hL rfl rfl (by first | exact cells_agg _ rfl | exact cells_int _ _ | exact cells_str _ | exact cells_bool _ | exact cells_slice _ _ _ | exact cells_ptr _ | exact cells_map _ | exact cells_func _ _ _ | exact cells_nilFunc | exact cells_one (by assumption) (by assumption)) ?_; clear hL; intro gq wq hL)) | ((with_reducible refine gLoad rfl rfl ?_); (first | (refine ev_load1L rfl hL rfl rfl HasV.mem (by rfl) ?_) | (refine ev_loadAllL rfl hL rfl rfl HasV.mem (by rfl) ?_) | (refine ev_loadL rfl hL rfl rfl HasV.mem SegC.seg ?_))) | ((with_reducible refine gStore rfl rfl ?_); (first | (refine ev_storeC rfl hL rfl rfl rfl (by first | exact cells_agg _ rfl | exact cells_int _ _ | exact cells_str _ | exact cells_bool _ | exact cells_slice _ _ _ | exact cells_ptr _ | exact cells_map _ | exact cells_func _ _ _ | exact cells_nilFunc | exact cells_one (by assumption) (by assumption)) (by rfl) ?_) | (refine ev_storeAllC rfl hL rfl rfl rfl (by first | exact cells_agg _ rfl | exact cells_int _ _ | exact cells_str _ | exact cells_bool _ | exact cells_slice _ _ _ | exact cells_ptr _ | exact cells_map _ | exact cells_func _ _ _ | exact cells_nilFunc | exact cells_one (by assumption) (by assumption)) (by rfl) (by rfl) ?_)); clear hL; intro wq hL) | ((with_reducible refine gLoadG rfl rfl ?_ ?_); (exact wanted_some rfl rfl rfl (by with_reducible rfl)); (first | (refine ev_load1G (wanted_some rfl rfl rfl rfl) hL rfl rfl HasV.mem (by rfl) ?_) | (refine ev_loadAllG (wanted_some rfl rfl rfl rfl) hL rfl rfl HasV.mem (by rfl) ?_) | (refine ev_loadG_ (wanted_some rfl rfl rfl rfl) hL rfl rfl HasV.mem SegC.seg ?_))))
  go_ret
  exact ⟨rfl, hL.below⟩
theorem order_same (a b : Evt) (w : World) (hl : a.at_.less b.at_ = false) (he : decide (a.at_ = b.at_) = true) (hv : a.vol = b.vol) :
    Calls Tryd.prog 32 #[.agg a.cells.toArray, .agg b.cells.toArray] w fun e w' => e = .returned (.int .i64 (0)) ∧ Below w.heap.size w w' := by
  have hL := Loc.nil w NoM
  have hq : ∀ w, Hid (Calls Tryd.prog 51 #[.agg #[.int .i64 a.at_.boot, .int .i64 a.at_.n], .agg #[.int .i64 b.at_.boot, .int .i64 b.at_.n]] w fun e w' => e = .returned (.bool false) ∧ Below w.heap.size w w') := fun w => hide (by have q := vec_less a.at_ b.at_ w; rw [hl] at q; exact q)
  have heq : ∀ w, (binOp .eql 23 (.agg #[.int .i64 a.at_.boot, .int .i64 a.at_.n]) (.agg #[.int .i64 b.at_.boot, .int .i64 b.at_.n])).run Tryd.prog w = .ok (.bool true) w := fun w => by have q := stamp_eq a.at_ b.at_ w; rw [he] at q; exact q
  have t1 : decide (a.vol < b.vol) = false := by simp; omega
  have t2 : (a.vol == b.vol) = true := by simp [hv]
  have hv2 : ¬ a.vol < b.vol := by omega
  clear hl he hv
  unfold Evt.cells
  go_enter Tryd.func32, Tryd.ntmps32
  go_wp2_with (first
    | (go_at_call 51; (with_reducible refine (unhide (hq _)).mono ?_); rintro e w3 ⟨rfl, hb3⟩; have hL := hL.call hb3; clear hb3 hq)
    | ((with_reducible refine gAlloc rfl rfl ?_); (refine ev_allocL rfl hL rfl (by first | exact cells_agg _ rfl | exact cells_int _ _ | exact cells_str _ | exact cells_bool _ | exact cells_slice _ _ _ | exact cells_ptr _ | exact cells_map _ | exact cells_func _ _ _ | exact cells_nilFunc | exact cells_one (by assumption) (by assumption)) ?_; clear hL; intro gq wq hL)) | ((with_reducible refine gBox rfl rfl ?_); (refine ev_boxL rfl hL rfl rfl (by first | exact cells_agg _ rfl | exact cells_int _ _ | exact cells_str _ | exact cells_bool _ | exact cells_slice _ _ _ | exact cells_ptr _ | exact cells_map _ | exact cells_func _ _ _ | exact cells_nilFunc | exact cells_one (by assumption) (by assumption)) ?_; clear hL; intro gq wq hL)) | ((with_reducible refine gLoad rfl rfl ?_); (first | (refine ev_load1L rfl hL rfl rfl HasV.mem (by rfl) ?_) | (refine ev_loadAllL rfl hL rfl rfl HasV.mem (by rfl) ?_) | (refine ev_loadL rfl hL rfl rfl HasV.mem SegC.seg ?_))) | ((with_reducible refine gStore rfl rfl ?_); (first | (refine ev_storeC rfl hL rfl rfl rfl (by first | exact cells_agg _ rfl | exact cells_int _ _ | exact cells_str _ | exact cells_bool _ | exact cells_slice _ _ _ | exact cells_ptr _ | exact cells_map _ | exact cells_func _ _ _ | exact cells_nilFunc | exact cells_one (by assumption) (by assumption)) (by rfl) ?_) | (refine ev_storeAllC rfl hL rfl rfl rfl (by first | exact cells_agg _ rfl | exact cells_int _ _ | exact cells_str _ | exact cells_bool _ | exact cells_slice _ _ _ | exact cells_ptr _ | exact cells_map _ | exact cells_func _ _ _ | exact cells_nilFunc | exact cells_one (by assumption) (by assumption)) (by rfl) (by rfl) ?_)); clear hL; intro wq hL) | ((with_reducible refine gLoadG rfl rfl ?_ ?_); (exact wanted_some rfl rfl rfl (by with_reducible rfl)); (first | (refine ev_load1G (wanted_some rfl rfl rfl rfl) hL rfl rfl HasV.mem (by rfl) ?_) | (refine ev_loadAllG (wanted_some rfl rfl rfl rfl) hL rfl rfl HasV.mem (by rfl) ?_) | (refine ev_loadG_ (wanted_some rfl rfl rfl rfl) hL rfl rfl HasV.mem SegC.seg ?_))))
  go_ret
  exact ⟨rfl, hL.below⟩
theorem order_volgt (a b : Evt) (w : World) (hl : a.at_.less b.at_ = false) (he : decide (a.at_ = b.at_) = true) (hv : ¬ a.vol < b.vol) (hv2 : ¬ a.vol = b.vol) :
    Calls Tryd.prog 32 #[.agg a.cells.toArray, .agg b.cells.toArray] w fun e w' => e = .returned (.int .i64 (1)) ∧ Below w.heap.size w w' := by
  have hL := Loc.nil w NoM
  have hq : ∀ w, Hid (Calls Tryd.prog 51 #[.agg #[.int .i64 a.at_.boot, .int .i64 a.at_.n], .agg #[.int .i64 b.at_.boot, .int .i64 b.at_.n]] w fun e w' => e = .returned (.bool false) ∧ Below w.heap.size w w') := fun w => hide (by have q := vec_less a.at_ b.at_ w; rw [hl] at q; exact q)
  have heq : ∀ w, (binOp .eql 23 (.agg #[.int .i64 a.at_.boot, .int .i64 a.at_.n]) (.agg #[.int .i64 b.at_.boot, .int .i64 b.at_.n])).run Tryd.prog w = .ok (.bool true) w := fun w => by have q := stamp_eq a.at_ b.at_ w; rw [he] at q; exact q
  have t1 : decide (a.vol < b.vol) = false := by simp; omega
  have t2 : (a.vol == b.vol) = false := by simp [hv2]
  clear hl he
  unfold Evt.cells
  go_enter Tryd.func32, Tryd.ntmps32
  go_wp2_with (first
    | (go_at_call 51; (with_reducible refine (unhide (hq _)).mono ?_); rintro e w3 ⟨rfl, hb3⟩; have hL := hL.call hb3; clear hb3 hq)
    | ((with_reducible refine gAlloc rfl rfl ?_); (refine ev_allocL rfl hL rfl (by first | exact cells_agg _ rfl | exact cells_int _ _ | exact cells_str _ | exact cells_bool _ | exact cells_slice _ _ _ | exact cells_ptr _ | exact cells_map _ | exact cells_func _ _ _ | exact cells_nilFunc | exact cells_one (by assumption) (by assumption)) ?_; clear hL; intro gq wq hL)) | ((with_reducible refine gBox rfl rfl ?_); (refine ev_boxL rfl hL rfl rfl (by first | exact cells_agg _ rfl | exact cells_int _ _ | exact cells_str _ | exact cells_bool _ | exact cells_slice _ _ _ | exact cells_ptr _ | exact cells_map _ | exact cells_func _ _ _ | exact cells_nilFunc | exact cells_one (by assumption) (by assumption)) ?_; clear hL; intro gq wq hL)) | ((with_reducible refine gLoad rfl rfl ?_); (first | (refine ev_load1L rfl hL rfl rfl HasV.mem (by rfl) ?_) | (refine ev_loadAllL rfl hL rfl rfl HasV.mem (by rfl) ?_) | (refine ev_loadL rfl hL rfl rfl HasV.mem SegC.seg ?_))) | ((with_reducible refine gStore rfl rfl ?_); (first | (refine ev_storeC rfl hL rfl rfl rfl (by first | exact cells_agg _ rfl | exact cells_int _ _ | exact cells_str _ | exact cells_bool _ | exact cells_slice _ _ _ | exact cells_ptr _ | exact cells_map _ | exact cells_func _ _ _ | exact cells_nilFunc | exact cells_one (by assumption) (by assumption)) (by rfl) ?_) | (refine ev_storeAllC rfl hL rfl rfl rfl (by first | exact cells_agg _ rfl | exact cells_int _ _ | exact cells_str _ | exact cells_bool _ | exact cells_slice _ _ _ | exact cells_ptr _ | exact cells_map _ | exact cells_func _ _ _ | exact cells_nilFunc | exact cells_one (by assumption) (by assumption)) (by rfl) (by rfl) ?_)); clear hL; intro wq hL) | ((with_reducible refine gLoadG rfl rfl ?_ ?_); (exact wanted_some rfl rfl rfl (by with_reducible rfl)); (first | (refine ev_load1G (wanted_some rfl rfl rfl rfl) hL rfl rfl HasV.mem (by rfl) ?_) | (refine ev_loadAllG (wanted_some rfl rfl rfl rfl) hL rfl rfl HasV.mem (by rfl) ?_) | (refine ev_loadG_ (wanted_some rfl rfl rfl rfl) hL rfl rfl HasV.mem SegC.seg ?_))))
  go_ret
  exact ⟨rfl, hL.below⟩
theorem order_more (a b : Evt) (w : World) (hl : a.at_.less b.at_ = false) (he : decide (a.at_ = b.at_) = false) :
    Calls Tryd.prog 32 #[.agg a.cells.toArray, .agg b.cells.toArray] w fun e w' => e = .returned (.int .i64 (1)) ∧ Below w.heap.size w w' := by
  have hL := Loc.nil w NoM
  have hq : ∀ w, Hid (Calls Tryd.prog 51 #[.agg #[.int .i64 a.at_.boot, .int .i64 a.at_.n], .agg #[.int .i64 b.at_.boot, .int .i64 b.at_.n]] w fun e w' => e = .returned (.bool false) ∧ Below w.heap.size w w') := fun w => hide (by have q := vec_less a.at_ b.at_ w; rw [hl] at q; exact q)
  have heq : ∀ w, (binOp .eql 23 (.agg #[.int .i64 a.at_.boot, .int .i64 a.at_.n]) (.agg #[.int .i64 b.at_.boot, .int .i64 b.at_.n])).run Tryd.prog w = .ok (.bool false) w := fun w => by have q := stamp_eq a.at_ b.at_ w; rw [he] at q; exact q
  clear hl he
  unfold Evt.cells
  go_enter Tryd.func32, Tryd.ntmps32
  go_wp2_with (first
    | (go_at_call 51; (with_reducible refine (unhide (hq _)).mono ?_); rintro e w3 ⟨rfl, hb3⟩; have hL := hL.call hb3; clear hb3 hq)
    | ((with_reducible refine gAlloc rfl rfl ?_); (refine ev_allocL rfl hL rfl (by first | exact cells_agg _ rfl | exact cells_int _ _ | exact cells_str _ | exact cells_bool _ | exact cells_slice _ _ _ | exact cells_ptr _ | exact cells_map _ | exact cells_func _ _ _ | exact cells_nilFunc | exact cells_one (by assumption) (by assumption)) ?_; clear hL; intro gq wq hL)) | ((with_reducible refine gBox rfl rfl ?_); (refine ev_boxL rfl hL rfl rfl (by first | exact cells_agg _ rfl | exact cells_int _ _ | exact cells_str _ | exact cells_bool _ | exact cells_slice _ _ _ | exact cells_ptr _ | exact cells_map _ | exact cells_func _ _ _ | exact cells_nilFunc | exact cells_one (by assumption) (by assumption)) ?_; clear hL; intro gq wq hL)) | ((with_reducible refine gLoad rfl rfl ?_); (first | (refine ev_load1L rfl hL rfl rfl HasV.mem (by rfl) ?_) | (refine ev_loadAllL rfl hL rfl rfl HasV.mem (by rfl) ?_) | (refine ev_loadL rfl hL rfl rfl HasV.mem SegC.seg ?_))) | ((with_reducible refine gStore rfl rfl ?_); (first | (refine ev_storeC rfl hL rfl rfl rfl (by first | exact cells_agg _ rfl | exact cells_int _ _ | exact cells_str _ | exact cells_bool _ | exact cells_slice _ _ _ | exact cells_ptr _ | exact cells_map _ | exact cells_func _ _ _ | exact cells_nilFunc | exact cells_one (by assumption) (by assumption)) (by rfl) ?_) | (refine ev_storeAllC rfl hL rfl rfl rfl (by first | exact cells_agg _ rfl | exact cells_int _ _ | exact cells_str _ | exact cells_bool _ | exact cells_slice _ _ _ | exact cells_ptr _ | exact cells_map _ | exact cells_func _ _ _ | exact cells_nilFunc | exact cells_one (by assumption) (by assumption)) (by rfl) (by rfl) ?_)); clear hL; intro wq hL) | ((with_reducible refine gLoadG rfl rfl ?_ ?_); (exact wanted_some rfl rfl rfl (by with_reducible rfl)); (first | (refine ev_load1G (wanted_some rfl rfl rfl rfl) hL rfl rfl HasV.mem (by rfl) ?_) | (refine ev_loadAllG (wanted_some rfl rfl rfl rfl) hL rfl rfl HasV.mem (by rfl) ?_) | (refine ev_loadG_ (wanted_some rfl rfl rfl rfl) hL rfl rfl HasV.mem SegC.seg ?_))))
  go_ret
  exact ⟨rfl, hL.below⟩
theorem Mk.less_ne (a b : Mk) (h : a.less b = true) : decide (a = b) = false := by
  rw [decide_eq_false_iff_not]
  rintro rfl
  unfold Mk.less at h
  rw [if_pos rfl] at h
  simp at h
theorem story_order (a b : Evt) (w : World) :
    Calls Tryd.prog 32 #[.agg a.cells.toArray, .agg b.cells.toArray] w fun e w' => e = .returned (.int .i64 (a.cmp b)) ∧ Below w.heap.size w w' := by
  unfold Evt.cmp
  cases hl : a.at_.less b.at_
  · rw [if_neg (by simp)]
    by_cases he : a.at_ = b.at_
    · rw [if_pos he]
      by_cases hv : a.vol < b.vol
      · rw [if_pos hv]; exact order_vol a b w hl (by simpa using he) hv
      · rw [if_neg hv]
        by_cases hv2 : a.vol = b.vol
        · rw [if_pos hv2]; exact order_same a b w hl (by simpa using he) hv2
        · rw [if_neg hv2]; exact order_volgt a b w hl (by simpa using he) hv hv2
    · rw [if_neg he]; exact order_more a b w hl (by simpa using he)
  · rw [if_pos rfl]; exact order_less a b w hl (Mk.less_ne _ _ hl)
end Go.Proofs.YtebpacmhdkgfeaaDoor

/- Events on rows: a literal as a row of one's own; append of a slice that reads. Over any program. -/
namespace Go.Proofs.YtebpacmhdkgfeaaDoor
open Go.RowKit
/-- A row that is not there yet. -/
theorem Loc.rowOff {α : Type} {w0 w : World} {M : Nat → Prop} {l : List Item} (h : Loc w0 M w l) (E : Enc α) (base : Nat) (e : TypeId) : Loc w0 M w (row E base e (.slice none 0 0) [] :: l) :=
  h.callNew (Below.refl _ _) (row_at (Enc.O.none _ _ _)) fun k hk => by cases hk
section
variable {P : Program} {ops : Array Oper} {rest : List Oper} {o : Oper} {a : Act} {Q : Exit → Act → World → Prop} {W w0 : World} {M : Nat → Prop} {l : List Item}
/-- A slice made of its parts, as a row of one's own. -/
theorem ev_litRow {α : Type} {E : Enc α} {t : TypeId} {n : Nat} {parts : Array (Nat × Operand)} {e : TypeId} {z : Value} {base : Nat} (xs : List α) [ht : SliceT P t e] [hz : ZeroT P e z] [hs : SizeT P e E.sz] (hgd : o.guard = none) (hL : Loc w0 M W l) (ho : o.op = .buildSlice t n parts)
    (hn : decide (n * E.sz ≤ 16777216) = true) (h0 : decide (0 < n * E.sz) = true) (hfill : Instr.fill (fun i => some (i * E.sz, E.sz)) ((Array.range (n * E.sz)).map fun j => z.cells[j % z.cells.size]!) (parts.map fun (i, x) => (i, a.eval x)).toList = some (E.all xs).toArray)
    (hl : xs.length = n) (hbase : base ≤ w0.heap.size)
    (h : ∀ g w1, Loc w0 M w1 (row E base e (.slice (some ⟨g, 0, none⟩) n n) xs :: l) → wpList P ops Q rest (a.put o.dst (.slice (some ⟨g, 0, none⟩) n n)) w1) : wpList P ops Q (o :: rest) a W := by
  have hm : xs.length ≤ maxLen := by
    have h1 := of_decide_eq_true hn
    have h2 := E.pos
    have h3 : n ≤ n * E.sz := Nat.le_mul_of_pos_right n h2
    rw [hl]; unfold maxLen; omega
  have hb : base ≤ W.heap.size := Nat.le_trans hbase hL.size
  refine event hgd (v := .slice (some ⟨W.heap.size, 0, none⟩) n n) (w1 := W.alloc (.cells (E.all xs).toArray e)) ?_ (h _ _ (hL.callNew (bl_alloc (Below.refl _ _) _) (row_at (by have := Enc.O.lit (E := E) (w := W) (base := base) (e := e) (E.all xs).toArray xs rfl hb hm; rw [hl] at this; exact this)) fun k hk => by
    have hk' : (Value.slice (some ⟨W.heap.size, 0, none⟩) n n).ownBlock = some k := hk
    simp [Value.ownBlock] at hk'
    omega))
  obtain ⟨i, hi, hzz⟩ := Option.map_eq_some_iff.1 hz.zero
  have hsz : i.size = E.sz := by have := hs.size; simpa [hi] using this
  have h1 : ¬ n * E.sz > 2 ^ 24 := by have := of_decide_eq_true hn; omega
  have h2 : ¬ n * E.sz = 0 := by have := of_decide_eq_true h0; omega
  simp at hfill
  simp [execOp, ho, Instr.buildSlice, run_underlying ht.slice, sizeOf, typeInfo, hi, hsz, zeroValue, hzz, h1, h2, hfill, newRow]
/-- The empty literal. -/
theorem ev_lit0 {α : Type} (E : Enc α) {t e : TypeId} {z : Value} (base : Nat) [ht : SliceT P t e] [hz : ZeroT P e z] [hs : SizeT P e E.sz] (hgd : o.guard = none) (hL : Loc w0 M W l) (ho : o.op = .buildSlice t 0 #[]) (hbase : base ≤ w0.heap.size)
    (h : ∀ g w1, Loc w0 M w1 (row E base e (.slice (some ⟨g, 0, none⟩) 0 0) [] :: l) → wpList P ops Q rest (a.put o.dst (.slice (some ⟨g, 0, none⟩) 0 0)) w1) : wpList P ops Q (o :: rest) a W := by
  have hb : base ≤ W.heap.size := Nat.le_trans hbase hL.size
  refine event hgd (v := .slice (some ⟨W.heap.size, 0, none⟩) 0 0) (w1 := W.alloc (.cells #[] e)) ?_ (h _ _ (hL.callNew (bl_alloc (Below.refl _ _) _) (row_at (Enc.O.lit (E := E) (w := W) (base := base) (e := e) #[] [] rfl hb (by simp [maxLen]))) fun k hk => by
    have hk' : (Value.slice (some ⟨W.heap.size, 0, none⟩) 0 0).ownBlock = some k := hk
    simp [Value.ownBlock] at hk'
    omega))
  obtain ⟨i, hi, hzz⟩ := Option.map_eq_some_iff.1 hz.zero
  have hsz : i.size = E.sz := by have := hs.size; simpa [hi] using this
  simp [execOp, ho, Instr.buildSlice, run_underlying ht.slice, sizeOf, typeInfo, hi, hsz, zeroValue, hzz, Instr.fill, newRow]
  congr 2
  exact Array.eq_empty_of_size_eq_zero (by simp)
/-- append of what a slice reads as onto a row of one's own. -/
theorem ev_appL {α : Type} {E : Enc α} {s x : Operand} {t e : TypeId} {z : Value} {by_ : Nat} {base : Nat} {v xv : Value} {xs : List α} {f : Value → List Item} [ht : SliceT P t e] [hz : ZeroT P e z] [hsz : SizeT P e E.sz] [hb : BytesT P e by_]
    (ys : List α) (hgd : o.guard = none) (hL : Loc w0 M W l) (ho : o.op = .call { callee := .builtin .append, args := #[s, x], argTypes := #[t, t] }) (hs : a.eval s = v) (hx : a.eval x = xv)
    (hR : E.R W xv ys) (hsw : ∀ v', Swap (row E base e v xs) (row E base e v' (xs ++ ys)) l (f v')) (hzc : z.cells.size = E.sz) (hby : decide (by_ ≤ 1000) = true) (h63 : xs.length + ys.length ≤ 100000000000) (hbase : base ≤ W.heap.size)
    (h : ∀ v' w1, Loc w0 M w1 (f v') → wpList P ops Q rest (a.put o.dst v') w1) : wpList P ops Q (o :: rest) a W := by
  have hown : E.O W base e v xs := hL.own (hsw v).mem
  refine Enc.app (E := E) hgd s x t t ho z by_ ht.slice info_of hzc hs hown hx (hR.src ht.slice) h63 (of_decide_eq_true hby) hbase ?_
  intro v' w1 h1 h2 h3
  exact h v' w1 (hL.grow (hsw _) h2 h1 (h3.imp id fun h => ⟨_, h, Nat.le_refl _⟩))
end
end Go.Proofs.YtebpacmhdkgfeaaDoor

/- Events on rows: a store of an element; '[]byte(s)' as bytes that may be written. Over any program. -/
namespace Go.Proofs.YtebpacmhdkgfeaaDoor
open Go.RowKit

theorem bytesWorld_frozen (w : World) (e : TypeId) (s : ByteArray) (j : Nat) (hj : j < s.size) : (Lib.bytesWorld w e s).frozen? ⟨w.heap.size, j, none⟩ = false := by
  have hs : s.data.size = s.size := rfl
  have h : ¬ (Lib.bytesCells w e s).size ≤ j := by
    simp [Lib.bytesCells]
    omega
  simp [World.frozen?, Lib.bytesWorld_at_new, h]
/-- '[]byte(s)', named, its bytes free to be written. -/
theorem ev_s2bF {P : Program} {ops : Array Oper} {rest : List Oper} {o : Oper} {a : Act} {Q : Exit → Act → World → Prop} {W : World} {src dst e : TypeId} {x : Operand} {s : ByteArray} [hd : SliceT P dst e] (hgd : o.guard = none) (ho : o.op = .convert src dst x) (hx : a.eval x = .string s)
    (hs : P.underlying src = some .string) (he : P.underlying e = some (.int .u8))
    (h : ∀ g c w1, Below W.heap.size W w1 → W.heap.size ≤ g → s.size ≤ c → (∀ j, j < s.size → w1.cell? ⟨g, j, none⟩ = some (.int .u8 (s.data.toList.getD j 0).toNat)) → (∀ j, j < s.size → w1.frozen? ⟨g, j, none⟩ = false) →
      wpList P ops Q rest (a.put o.dst (.slice (some ⟨g, 0, none⟩) s.size c)) w1) : wpList P ops Q (o :: rest) a W := by
  refine event hgd (v := .slice (some ⟨W.heap.size, 0, none⟩) s.size (grownCap W s.size 0 e)) (w1 := Lib.bytesWorld W e s) ?_ (h _ _ _ ⟨rfl, rfl, rfl, ?_, fun k hk => Lib.bytesWorld_at_old W e s k hk⟩ (Nat.le_refl _) (grownCap_ge W s.size 0 e) (fun j hj => Lib.bytesWorld_cell W e s j hj) (fun j hj => bytesWorld_frozen W e s j hj))
  · simp only [execOp, ho, hx, Sem.run_bind, Lib.run_convert_string_bytes W src dst e s hs hd.slice he, Result.andThen_ok, Sem.run_pure]
  · rw [Lib.bytesWorld_size]; omega
/-- Bytes by their cells. -/
theorem read_cells {w : World} {g c : Nat} (l : List UInt8) (hc : l.length ≤ c) (hm : l.length ≤ 9223372036854775807) (h : ∀ j, j < l.length → w.cell? ⟨g, j, none⟩ = some (.int .u8 (l.getD j 0).toNat)) : encB.R w (.slice (some ⟨g, 0, none⟩) l.length c) l := by
  refine ⟨by rw [Enc.all_length], _, c, rfl, hc, hm, .inr ⟨_, rfl, fun j u hu => ?_⟩⟩
  rw [encB_all] at hu
  have hj : j < l.length := by have := (List.getElem?_eq_some_iff.1 hu).1; simpa using this
  have e1 : (⟨g, 0, none⟩ : Addr).add j = ⟨g, j, none⟩ := by unfold Addr.add; split <;> simp_all
  rw [e1, h j hj]
  rw [List.getElem?_map, List.getElem?_eq_getElem hj] at hu
  simp only [Option.map_some, Option.some.injEq] at hu
  rw [← hu]
  simp [List.getD_eq_getElem?_getD, List.getElem?_eq_getElem hj]

/-! ### A store of an element of a row of one's own -/
theorem Enc.all_set {α : Type} (E : Enc α) (xs : List α) (i : Nat) (hi : i < xs.length) (y : α) : E.all (xs.set i y) = (E.all xs).take (i * E.sz) ++ E.cells y ++ (E.all xs).drop (i * E.sz + E.sz) := by
  induction xs generalizing i with
  | nil => simp at hi
  | cons x xs ih =>
    have h : E.all (x :: xs) = E.cells x ++ E.all xs := by simp [Enc.all]
    cases i with
    | zero =>
      have h2 : E.all ((x :: xs).set 0 y) = E.cells y ++ E.all xs := by simp [Enc.all]
      rw [h2, h]
      simp [List.drop_append, E.len]
    | succ i =>
      have h2 : E.all ((x :: xs).set (i + 1) y) = E.cells x ++ E.all (xs.set i y) := by simp [Enc.all]
      have e1 : (i + 1) * E.sz = E.sz + i * E.sz := by rw [Nat.add_mul]; omega
      rw [h2, h, ih i (by simpa using hi), e1, List.take_append, List.drop_append]
      rw [List.take_of_length_le (l := E.cells x) (by rw [E.len]; omega), E.len, List.drop_of_length_le (l := E.cells x) (by rw [E.len]; omega)]
      simp only [List.append_assoc, List.nil_append]
      rw [Nat.add_sub_cancel_left, show E.sz + i * E.sz + E.sz - E.sz = i * E.sz + E.sz from by omega]
section
variable {P : Program} {ops : Array Oper} {rest : List Oper} {o : Oper} {a : Act} {Q : Exit → Act → World → Prop} {W w0 : World} {M : Nat → Prop} {l l' : List Item}
theorem O_set {α : Type} {E : Enc α} {w : World} {base g n c : Nat} {e : TypeId} {xs : List α} (h : E.O w base e (.slice (some ⟨g, 0, none⟩) n c) xs) (i : Nat) (hi : i < xs.length) (y : α) :
    ∃ w1, (storeCells ⟨g, i * E.sz, none⟩ (E.cells y) 0).run P w = .ok () w1 ∧ E.O w1 base e (.slice (some ⟨g, 0, none⟩) n c) (xs.set i y) ∧ Mod (· = g) w w1 := by
  obtain ⟨hl, h2⟩ := h
  rcases h2 with ⟨hn, _⟩ | ⟨g', cap, cur, hv, hb, hg, hnc, hcm, hcs, htake⟩
  · cases hn
  · injection hv with hv1 hv2 hv3
    injection hv1 with hv1
    injection hv1 with hv1
    subst hv1 hv2 hv3
    have hsz : i * E.sz + E.sz ≤ xs.length * E.sz := by
      have : (i + 1) * E.sz ≤ xs.length * E.sz := Nat.mul_le_mul_right _ hi
      rw [Nat.add_mul] at this; omega
    have hcap : xs.length * E.sz ≤ c * E.sz := Nat.mul_le_mul_right _ hnc
    have hst := run_storeCells_at P g (i * E.sz) e (E.cells y) 0 cur w hg (by rw [E.len, hcs]; omega) (E.one y)
    simp only [Nat.add_zero, E.len] at hst
    refine ⟨_, hst, ⟨E.all_length _, .inr ⟨g, c, _, by rw [List.length_set], hb, setRow_heap w g cur _ e _ hg, by rw [List.length_set]; exact hnc, hcm, ?_, ?_⟩⟩, ⟨rfl, rfl, rfl, by simp, fun k _ hk => setRow_other w g k _ hk⟩⟩
    · simp only [List.size_toArray, List.length_append, List.length_take, List.length_drop, Array.length_toList, E.len, hcs]
      omega
    · rw [List.length_set, E.all_set xs i hi y, ← htake, List.take_take, Nat.min_eq_left (by omega)]
      have hlen : cur.toList.length = c * E.sz := by rw [Array.length_toList, hcs]
      rw [List.append_assoc, List.append_assoc, List.take_append, List.take_append, List.length_take, hlen, Nat.min_eq_left (a := i * E.sz) (b := c * E.sz) (by omega), E.len,
        List.take_of_length_le (l := cur.toList.take (i * E.sz)) (by rw [List.length_take]; omega), List.take_of_length_le (l := E.cells y) (by rw [E.len]; omega), List.drop_take]
      rw [show xs.length * E.sz - i * E.sz - E.sz = xs.length * E.sz - (i * E.sz + E.sz) from by omega]
theorem ev_setRow {α : Type} {E : Enc α} {ty e : TypeId} {p x : Operand} {g base n c off : Nat} {xs : List α} {v : Value} [hn : SizeT P ty E.sz] (i : Nat) (y : α) (hgd : o.guard = none) (hL : Loc w0 M W l) (ho : o.op = .store ty p x)
    (hp : a.eval p = .pointer (some ⟨g, off, none⟩)) (hoff : off = i * E.sz) (hx : a.eval x = v) (hc : CellsOf v (E.cells y)) (hi : i < xs.length)
    (hs : Swap (row E base e (.slice (some ⟨g, 0, none⟩) n c) xs) (row E base e (.slice (some ⟨g, 0, none⟩) n c) (xs.set i y)) l l')
    (h : ∀ w1, Loc w0 M w1 l' → wpList P ops Q rest (a.put o.dst undef) w1) : wpList P ops Q (o :: rest) a W := by
  subst hoff
  obtain ⟨w1, hst, hO, hm⟩ := O_set (P := P) (hL.own hs.mem) i hi y
  refine wpList_plain hgd fun K hK => ?_
  obtain ⟨inf, hii, hsz⟩ := Option.map_eq_some_iff.1 hn.size
  have hst2 : (storeVar ty ⟨g, i * E.sz, none⟩ v).run P W = .ok () w1 := by
    simp [storeVar, sizeOf, typeInfo, hii, hsz, hc.eq, E.len, hst]
  unfold Oper.wp execOp
  simp only [ho, hp, hx, Instr.storeAt, Instr.sureAddr, Sem.run_bind, Sem.run_pure, Result.andThen_ok, hst2]
  refine hK _ _ (h _ (hL.swap hs (hm.mono fun k _ hk => ?_) (row_at hO) fun _ hk => .inl hk))
  show (Value.slice (some ⟨g, 0, none⟩) n c).ownBlock = some k
  rw [hk]; rfl
end
theorem Loc.gone {w0 w w1 : World} {M : Nat → Prop} {l : List Item} {g : Nat} {cs : List Value} {t : TypeId} (h : Loc w0 M w (var g cs t :: l)) (hp : Put w w1 g) : Loc w0 M w1 l := by
  have hg := h.new (var g cs t) (.head _) g rfl
  have ha := (List.pairwise_cons.1 h.apart).1
  refine ⟨h.mod.trans (Mod.of_put hp) fun b hb hk => ?_, fun i hi => (h.at_ i (.tail _ hi)).keep hp.size fun k hk => hp.block k ((h.at_ i (.tail _ hi)).lt k hk) fun e => ha i hi g rfl (e ▸ hk), fun i hi => h.new i (.tail _ hi), (List.pairwise_cons.1 h.apart).2⟩
  cases hk
  rcases hg with h1 | h1
  · omega
  · exact h1
theorem Loc.turn {w0 w w1 : World} {M : Nat → Prop} {l : List Item} {g : Nat} {cs cs' : List Value} {t : TypeId} (h : Loc w0 M w (var g cs t :: l)) (hp : Put w w1 g) (hx : Box w1 g cs'.toArray t) : Loc w0 M w1 (var g cs' t :: l) := h.put (.here _) hp hx
end Go.Proofs.YtebpacmhdkgfeaaDoor

/- append of zeros onto the nil slice (slices.Grow): room for a row of one's own. What a variable holds, as a slice that reads. Over any program. -/
namespace Go.Proofs.YtebpacmhdkgfeaaDoor
open Go.RowKit

section
variable {P : Program} {ops : Array Oper} {rest : List Oper} {o : Oper} {a : Act} {Q : Exit → Act → World → Prop} {W w0 : World} {M : Nat → Prop} {l : List Item}
theorem ev_growNil {α : Type} (E : Enc α) {s x : Operand} {t tn e : TypeId} {z : Value} {by_ n : Nat} {k kn : IntKind} (base : Nat) [ht : SliceT P t e] [hz : ZeroT P e z] [hsz : SizeT P e E.sz] [hb : BytesT P e by_]
    (hgd : o.guard = none) (hL : Loc w0 M W l) (ho : o.op = .call { callee := .builtin .append, args := #[s, x], argTypes := #[t, tn] }) (hs : a.eval s = .slice none 0 0) (hx : a.eval x = .int k (n : Int)) (htn : P.underlying tn = some (.int kn))
    (hzc : z.cells.size = E.sz) (hby : decide (by_ ≤ 1000) = true) (h0 : 0 < n) (hn : n ≤ 100000000000) (hbase : base ≤ w0.heap.size)
    (h : ∀ g G w1, n ≤ G → G ≤ 9223372036854775807 → Loc w0 M w1 (row E base e (.slice (some ⟨g, 0, none⟩) 0 G) [] :: l) → wpList P ops Q rest (a.put o.dst (.slice (some ⟨g, 0, none⟩) n G)) w1) : wpList P ops Q (o :: rest) a W := by
  obtain ⟨i, hi, hzz⟩ := Option.map_eq_some_iff.1 hz.zero
  have his : i.size = E.sz := by have := hsz.size; simpa [hi] using this
  have hib : i.bytes = by_ := by have := hb.bytes; simpa [hi] using this
  have hb1 := of_decide_eq_true hby
  have hp := E.pos
  have hbig : n * i.bytes ≤ 140737488355328 := by
    rw [hib]
    calc n * by_ ≤ 100000000000 * 1000 := Nat.mul_le_mul hn hb1
      _ ≤ 140737488355328 := by decide
  have hr := Lib.run_append_grow_zeros W t tn o.type e i z k kn ht.slice htn hi hzz none 0 0 [] (run_firstCells_none W.drew i.size 0 0 0) n h0 (by rw [his]; exact hp) (by omega) (by omega) (by omega) (growslice_fits (by omega) (by rw [Nat.zero_add]; exact hbig))
  rw [Nat.zero_add] at hr
  have hG := grownCap_ge W n 0 e
  have hG63 := grownCap_le_maxLen W n 0 e (by unfold maxLen; omega)
  generalize grownCap W n 0 e = G at *
  unfold maxLen at hG63
  have hbb : base ≤ W.heap.size := Nat.le_trans hbase hL.size
  refine event hgd (v := .slice (some ⟨W.heap.size, 0, none⟩) n G) ?_ (h W.heap.size G _ hG (by omega) (hL.callNew (w1 := W.drew.alloc (.cells (#[] ++ Builtin.zeroCells z.cells n ++ Builtin.zeroCells z.cells (G - n)) e)) (bl_alloc (show Below W.heap.size W W.drew from ⟨rfl, rfl, rfl, Nat.le_refl _, fun _ _ => rfl⟩) _) (row_at ⟨by simp [Enc.all], .inr ⟨W.heap.size, G, #[] ++ Builtin.zeroCells z.cells n ++ Builtin.zeroCells z.cells (G - n), rfl, hbb, ?_, by simp, by unfold maxLen; omega, ?_, by simp [Enc.all]⟩⟩) fun k hk => ?_))
  · simp only [execOp, ho, resolve, invoke, builtin, Sem.run_bind, Sem.run_pure, Result.andThen_ok, List.map_toArray, List.map_cons, List.map_nil, hs, hx, hr]
  · exact heap_alloc_new W.drew _
  · simp only [Array.empty_append, Array.size_append, Builtin.zeroCells, Array.size_map, Array.size_range, hzc, ← Nat.add_mul]
    congr 1
    omega
  · have hk' : (Value.slice (some ⟨W.heap.size, 0, none⟩) 0 G).ownBlock = some k := hk
    simp [Value.ownBlock] at hk'
    omega
end
/-- A call that hands back a row of its own. -/
theorem Loc.takeRow {α : Type} {E : Enc α} {w0 w w1 : World} {M : Nat → Prop} {l : List Item} {e : TypeId} {v : Value} {xs : List α} (h : Loc w0 M w l) (h3 : Loc w NoM w1 [row E w.heap.size e v xs]) : Loc w0 M w1 (row E w0.heap.size e v xs :: l) :=
  h.callNew h3.below (row_at ((h3.own (.head _)).weaken h.size)) fun k hk => (h3.new _ (.head _) k hk).elim id fun h => h.elim
/-- What a variable holds whole, as a slice of so many. -/
theorem R_box {α : Type} {E : Enc α} {w : World} {g : Nat} {cs : List Value} {t : TypeId} (xs : List α) (h : Box w g cs.toArray t) (hc : cs = E.all xs) (hm : xs.length ≤ 9223372036854775807) : E.R w (.slice (some ⟨g, 0, none⟩) xs.length xs.length) xs := by
  subst hc
  refine ⟨by rw [Enc.all_length], some ⟨g, 0, none⟩, xs.length, rfl, Nat.le_refl _, hm, .inr ⟨_, rfl, fun j u hj => ?_⟩⟩
  have ha : (⟨g, 0, none⟩ : Addr).add j = ⟨g, j, none⟩ := by unfold Addr.add; split <;> simp_all
  rw [ha, h.cell j]
  simpa using hj
/-- A slice's three parts. -/
structure Sl where
  a : Option Addr
  (n c : Nat)
def Sl.val (s : Sl) : Value := .slice s.a s.n s.c
def encSl : Enc Sl := ⟨1, by decide, fun s => [.slice s.a s.n s.c], fun _ => rfl, fun _ u hu => by rw [List.mem_singleton.1 hu]; rfl⟩
end Go.Proofs.YtebpacmhdkgfeaaDoor

/- States as they lie in memory, and what they say. -/
namespace Go.Proofs.YtebpacmhdkgfeaaDoor
open Go.ChangeShapes Go.WideShapes Go.RowKit Go.Deep

structure Atr where
  at_ : Mk
  (mode time : Int)
  deriving DecidableEq
structure Siz where
  at_ : Mk
  n : Int
  deriving DecidableEq
structure Pce where
  idx : Int
  at_ : Mk
  data : ByteArray
  deriving DecidableEq
structure Xat where
  name : ByteArray
  at_ : Mk
  val : ByteArray
  gone : Bool
  deriving DecidableEq
structure IHd where
  id : Mk
  kind : Int
  text : ByteArray
  attr : Atr
  size : Siz
  deriving DecidableEq
structure Ino where
  hd : IHd
  (p x : Sl)
structure Lnk where
  (id node at_ parent : Mk)
  name : ByteArray
  (alive dead : V8)
  deriving DecidableEq
structure Sta where
  seen : V8
  (nodes links : Sl)
structure InoD where
  hd : IHd
  ps : List Pce
  xs : List Xat
  deriving DecidableEq
/-- An inode as it lies there, and what it says. -/
structure Nd where
  s : Ino
  d : InoD
structure StaD where
  seen : V8
  nodes : List InoD
  links : List Lnk
  deriving DecidableEq
def Pce.cells (p : Pce) : List Value := [.int .i64 p.idx, .int .i64 p.at_.boot, .int .i64 p.at_.n, .string p.data]
def Xat.cells (x : Xat) : List Value := [.string x.name, .int .i64 x.at_.boot, .int .i64 x.at_.n, .string x.val, .bool x.gone]
def Ino.cells (i : Ino) : List Value := [.int .i64 i.hd.id.boot, .int .i64 i.hd.id.n, .int .i64 i.hd.kind, .string i.hd.text, .int .i64 i.hd.attr.at_.boot, .int .i64 i.hd.attr.at_.n, .int .i64 i.hd.attr.mode, .int .u64 i.hd.attr.time,
  .int .i64 i.hd.size.at_.boot, .int .i64 i.hd.size.at_.n, .int .i64 i.hd.size.n, .slice i.p.a i.p.n i.p.c, .slice i.x.a i.x.n i.x.c]
def Lnk.cells (l : Lnk) : List Value := [.int .i64 l.id.boot, .int .i64 l.id.n, .int .i64 l.node.boot, .int .i64 l.node.n, .int .i64 l.at_.boot, .int .i64 l.at_.n, .int .i64 l.parent.boot, .int .i64 l.parent.n, .string l.name,
  .int .i64 l.alive.a0, .int .i64 l.alive.a1, .int .i64 l.alive.a2, .int .i64 l.alive.a3, .int .i64 l.alive.a4, .int .i64 l.alive.a5, .int .i64 l.alive.a6, .int .i64 l.alive.a7,
  .int .i64 l.dead.a0, .int .i64 l.dead.a1, .int .i64 l.dead.a2, .int .i64 l.dead.a3, .int .i64 l.dead.a4, .int .i64 l.dead.a5, .int .i64 l.dead.a6, .int .i64 l.dead.a7]
def Sta.cells (s : Sta) : List Value := [.int .i64 s.seen.a0, .int .i64 s.seen.a1, .int .i64 s.seen.a2, .int .i64 s.seen.a3, .int .i64 s.seen.a4, .int .i64 s.seen.a5, .int .i64 s.seen.a6, .int .i64 s.seen.a7, .slice s.nodes.a s.nodes.n s.nodes.c, .slice s.links.a s.links.n s.links.c]
theorem ones_of {cs : List Value} (h : cs.all (·.oneCell') = true) : ∀ u ∈ cs, u.oneCell' = true := fun u hu => List.all_eq_true.1 h u hu
def encPc : Enc Pce := ⟨4, by decide, Pce.cells, fun _ => rfl, fun _ => ones_of rfl⟩
def encXt : Enc Xat := ⟨5, by decide, Xat.cells, fun _ => rfl, fun _ => ones_of rfl⟩
def encN : Enc Nd := ⟨13, by decide, fun n => n.s.cells, fun _ => rfl, fun _ => ones_of rfl⟩
def encK : Enc Lnk := ⟨25, by decide, Lnk.cells, fun _ => rfl, fun _ => ones_of rfl⟩
instance : SizeT Tryd.prog 80 encPc.sz := inferInstanceAs (SizeT Tryd.prog 80 4)
instance : SizeT Tryd.prog 82 encXt.sz := inferInstanceAs (SizeT Tryd.prog 82 5)
instance : SizeT Tryd.prog 62 encN.sz := inferInstanceAs (SizeT Tryd.prog 62 13)
instance : SizeT Tryd.prog 65 encK.sz := inferInstanceAs (SizeT Tryd.prog 65 25)

/-! ### What may lie there -/
structure Mk.I (m : Mk) : Prop where
  b : I64 m.boot
  n : I64 m.n
structure V8.I (v : V8) : Prop where
  all : ∀ k, k < 8 → I64 (v.list.getD k 0)
structure Pce.wf (B : Nat) (p : Pce) : Prop where
  idx : I64 p.idx
  at_ : p.at_.I
  data : p.data.size ≤ B
structure Xat.wf (B : Nat) (x : Xat) : Prop where
  name : x.name.size ≤ B
  at_ : x.at_.I
  val : x.val.size ≤ B
structure IHd.wf (B : Nat) (h : IHd) : Prop where
  id : h.id.I
  kind : I64 h.kind
  text : h.text.size ≤ B
  attr : h.attr.at_.I
  mode : I64 h.attr.mode
  time : 0 ≤ h.attr.time ∧ h.attr.time ≤ 18446744073709551615
  size : h.size.at_.I
  n : I64 h.size.n
structure Lnk.wf (B : Nat) (l : Lnk) : Prop where
  id : l.id.I
  node : l.node.I
  at_ : l.at_.I
  parent : l.parent.I
  name : l.name.size ≤ B
  alive : l.alive.I
  dead : l.dead.I
structure InoD.wf (B : Nat) (d : InoD) : Prop where
  hd : d.hd.wf B
  ps : ∀ p ∈ d.ps, p.wf B
  xs : ∀ x ∈ d.xs, x.wf B
structure StaD.wf (B : Nat) (d : StaD) : Prop where
  seen : d.seen.I
  nodes : ∀ n ∈ d.nodes, n.wf B
  links : ∀ l ∈ d.links, l.wf B

theorem StaD.wf.mono {B B' : Nat} {d : StaD} (h : d.wf B) (hB : B ≤ B') : d.wf B' :=
  ⟨h.seen, fun n hn => ⟨{ (h.nodes n hn).hd with text := Nat.le_trans (h.nodes n hn).hd.text hB }, fun p hp => { (h.nodes n hn).ps p hp with data := Nat.le_trans ((h.nodes n hn).ps p hp).data hB }, fun x hx => { (h.nodes n hn).xs x hx with name := Nat.le_trans ((h.nodes n hn).xs x hx).name hB, val := Nat.le_trans ((h.nodes n hn).xs x hx).val hB }⟩,
    fun l hl => { h.links l hl with name := Nat.le_trans (h.links l hl).name hB }⟩

/-! ### What memory says -/
structure Ino.Ok (w : World) (i : Ino) (d : InoD) : Prop where
  hd : i.hd = d.hd
  ps : encPc.R w i.p.val d.ps
  xs : encXt.R w i.x.val d.xs
structure Sta.Ok (w : World) (s : Sta) (d : StaD) : Prop where
  seen : s.seen = d.seen
  nodes : ∃ ns : List Nd, encN.R w s.nodes.val ns ∧ (∀ n ∈ ns, n.s.Ok w n.d) ∧ ns.map (·.d) = d.nodes
  links : encK.R w s.links.val d.links
theorem Ino.Ok.below {w w1 : World} {i : Ino} {d : InoD} (h : i.Ok w d) (hb : Below w.heap.size w w1) : i.Ok w1 d := ⟨h.hd, h.ps.below hb, h.xs.below hb⟩
theorem Sta.Ok.below {w w1 : World} {s : Sta} {d : StaD} (h : s.Ok w d) (hb : Below w.heap.size w w1) : s.Ok w1 d := by
  obtain ⟨ns, h1, h2, h3⟩ := h.nodes
  exact ⟨h.seen, ⟨ns, h1.below hb, fun n hn => (h2 n hn).below hb, h3⟩, h.links.below hb⟩

/-! ### Opened -/
theorem legs_pc : legs Tryd.prog 6 80 = some [.int .i64, .int .i64, .int .i64, .str] := by kernel_rfl
theorem legs_xt : legs Tryd.prog 6 82 = some [.str, .int .i64, .int .i64, .str, .bool] := by kernel_rfl
theorem legs_n : legs Tryd.prog 6 62 = some [.int .i64, .int .i64, .int .i64, .str, .int .i64, .int .i64, .int .i64, .int .u64, .int .i64, .int .i64, .int .i64, .sl 59, .sl 60] := by kernel_rfl
theorem legs_k : legs Tryd.prog 6 65 = some [.int .i64, .int .i64, .int .i64, .int .i64, .int .i64, .int .i64, .int .i64, .int .i64, .str, .int .i64, .int .i64, .int .i64, .int .i64, .int .i64, .int .i64, .int .i64, .int .i64, .int .i64, .int .i64, .int .i64, .int .i64, .int .i64, .int .i64, .int .i64, .int .i64] := by kernel_rfl
theorem legs_s : legs Tryd.prog 6 29 = some [.int .i64, .int .i64, .int .i64, .int .i64, .int .i64, .int .i64, .int .i64, .int .i64, .sl 26, .sl 27] := by kernel_rfl
theorem i64_lit {n : Int} (h : (Lit.int .i64 n).wf = true) : I64 n := by
  have h1 : IntKind.i64.min ≤ n ∧ n ≤ IntKind.i64.max := by simpa [Lit.wf] using h
  exact h1
theorem u64_lit {n : Int} (h : (Lit.int .u64 n).wf = true) : 0 ≤ n ∧ n ≤ 18446744073709551615 := by
  have h1 : IntKind.u64.min ≤ n ∧ n ≤ IntKind.u64.max := by simpa [Lit.wf] using h
  exact h1
theorem v8_i {v : V8} (h0 : I64 v.a0) (h1 : I64 v.a1) (h2 : I64 v.a2) (h3 : I64 v.a3) (h4 : I64 v.a4) (h5 : I64 v.a5) (h6 : I64 v.a6) (h7 : I64 v.a7) : v.I := ⟨fun k hk => by
  have e : k = 0 ∨ k = 1 ∨ k = 2 ∨ k = 3 ∨ k = 4 ∨ k = 5 ∨ k = 6 ∨ k = 7 := by omega
  rcases e with rfl | rfl | rfl | rfl | rfl | rfl | rfl | rfl <;> assumption⟩
section
variable {H : Type} {enc : TypeId × Value → H} {w : World} {base : Nat} {spare : Nat → Bool} {held : Bool} {K : DataW H → Prop} {B : Nat}
theorem open_pc (hK : Keep K B) {fuel : Nat} {cs : List Value} {x : DataW H × List MemPlace} (h : DataW.trod enc Tryd.prog w base spare held fuel 80 cs = some x) (hx : K x.1) : ∃ d : Pce, cs = encPc.cells d ∧ d.wf B := by
  have hf := legs_fits hK 6 _ _ _ _ _ legs_pc h hx
  have hl := hf.length
  match cs, hl with
  | [c0, c1, c2, c3], _ =>
    obtain ⟨⟨n0, rfl, w0⟩, ⟨n1, rfl, w1⟩, ⟨n2, rfl, w2⟩, ⟨s, rfl, ws⟩, -⟩ := hf
    exact ⟨⟨n0, ⟨n1, n2⟩, s⟩, rfl, i64_lit w0, ⟨i64_lit w1, i64_lit w2⟩, ws⟩
theorem open_xt (hK : Keep K B) {fuel : Nat} {cs : List Value} {x : DataW H × List MemPlace} (h : DataW.trod enc Tryd.prog w base spare held fuel 82 cs = some x) (hx : K x.1) : ∃ d : Xat, cs = encXt.cells d ∧ d.wf B := by
  have hf := legs_fits hK 6 _ _ _ _ _ legs_xt h hx
  have hl := hf.length
  match cs, hl with
  | [c0, c1, c2, c3, c4], _ =>
    obtain ⟨⟨s, rfl, ws⟩, ⟨n1, rfl, w1⟩, ⟨n2, rfl, w2⟩, ⟨s2, rfl, ws2⟩, ⟨b, rfl⟩, -⟩ := hf
    exact ⟨⟨s, ⟨n1, n2⟩, s2, b⟩, rfl, ws, ⟨i64_lit w1, i64_lit w2⟩, ws2⟩
theorem open_k (hK : Keep K B) {fuel : Nat} {cs : List Value} {x : DataW H × List MemPlace} (h : DataW.trod enc Tryd.prog w base spare held fuel 65 cs = some x) (hx : K x.1) : ∃ d : Lnk, cs = encK.cells d ∧ d.wf B := by
  have hf := legs_fits hK 6 _ _ _ _ _ legs_k h hx
  have hl := hf.length
  match cs, hl with
  | [c0, c1, c2, c3, c4, c5, c6, c7, c8, c9, c10, c11, c12, c13, c14, c15, c16, c17, c18, c19, c20, c21, c22, c23, c24], _ =>
    obtain ⟨⟨n0, rfl, w0⟩, ⟨n1, rfl, w1⟩, ⟨n2, rfl, w2⟩, ⟨n3, rfl, w3⟩, ⟨n4, rfl, w4⟩, ⟨n5, rfl, w5⟩, ⟨n6, rfl, w6⟩, ⟨n7, rfl, w7⟩, ⟨s, rfl, ws⟩, ⟨m0, rfl, v0⟩, ⟨m1, rfl, v1⟩, ⟨m2, rfl, v2⟩, ⟨m3, rfl, v3⟩, ⟨m4, rfl, v4⟩, ⟨m5, rfl, v5⟩, ⟨m6, rfl, v6⟩, ⟨m7, rfl, v7⟩,
      ⟨k0, rfl, u0⟩, ⟨k1, rfl, u1⟩, ⟨k2, rfl, u2⟩, ⟨k3, rfl, u3⟩, ⟨k4, rfl, u4⟩, ⟨k5, rfl, u5⟩, ⟨k6, rfl, u6⟩, ⟨k7, rfl, u7⟩, -⟩ := hf
    exact ⟨⟨⟨n0, n1⟩, ⟨n2, n3⟩, ⟨n4, n5⟩, ⟨n6, n7⟩, s, ⟨m0, m1, m2, m3, m4, m5, m6, m7⟩, ⟨k0, k1, k2, k3, k4, k5, k6, k7⟩⟩, rfl, ⟨i64_lit w0, i64_lit w1⟩, ⟨i64_lit w2, i64_lit w3⟩, ⟨i64_lit w4, i64_lit w5⟩, ⟨i64_lit w6, i64_lit w7⟩, ws,
      v8_i (i64_lit v0) (i64_lit v1) (i64_lit v2) (i64_lit v3) (i64_lit v4) (i64_lit v5) (i64_lit v6) (i64_lit v7), v8_i (i64_lit u0) (i64_lit u1) (i64_lit u2) (i64_lit u3) (i64_lit u4) (i64_lit u5) (i64_lit u6) (i64_lit u7)⟩
theorem slice_val {t e : TypeId} (hu : Tryd.prog.underlying t = some (.slice e)) {v : Value} (h : TrodS K enc Tryd.prog w base spare held t v) : ∃ s : Sl, v = .slice s.a s.n s.c := by
  obtain ⟨fuel, x, h, -⟩ := h
  rcases open_slice hu h with ⟨h0, -⟩ | ⟨a, len, cap, m, n, D, Pl, hcs, -⟩
  · injection h0 with h0 _; exact ⟨⟨none, 0, 0⟩, h0⟩
  · injection hcs with hcs _; exact ⟨⟨some a, len, cap⟩, hcs⟩
theorem open_n (hK : Keep K B) {fuel : Nat} {cs : List Value} {x : DataW H × List MemPlace} (h : DataW.trod enc Tryd.prog w base spare held fuel 62 cs = some x) (hx : K x.1) : ∃ n : Nd, cs = encN.cells n ∧ n.s.Ok w n.d ∧ n.d.wf B := by
  have hf := legs_fits hK 6 _ _ _ _ _ legs_n h hx
  have hl := hf.length
  match cs, hl with
  | [c0, c1, c2, c3, c4, c5, c6, c7, c8, c9, c10, c11, c12], _ =>
    obtain ⟨⟨n0, rfl, w0⟩, ⟨n1, rfl, w1⟩, ⟨n2, rfl, w2⟩, ⟨s, rfl, ws⟩, ⟨n4, rfl, w4⟩, ⟨n5, rfl, w5⟩, ⟨n6, rfl, w6⟩, ⟨n7, rfl, w7⟩, ⟨n8, rfl, w8⟩, ⟨n9, rfl, w9⟩, ⟨n10, rfl, w10⟩, hp, hq, -⟩ := hf
    replace hp : TrodS K enc Tryd.prog w base spare held 59 c11 := hp
    replace hq : TrodS K enc Tryd.prog w base spare held 60 c12 := hq
    obtain ⟨p, rfl⟩ := slice_val Tryd.underlying59 hp
    obtain ⟨q, rfl⟩ := slice_val Tryd.underlying60 hq
    obtain ⟨ps, hps, wps⟩ := open_row encPc Tryd.underlying59 (by kernel_rfl) hK (fun _ _ _ h hx => open_pc hK h hx) hp
    obtain ⟨xs, hxs, wxs⟩ := open_row encXt Tryd.underlying60 (by kernel_rfl) hK (fun _ _ _ h hx => open_xt hK h hx) hq
    exact ⟨⟨⟨⟨⟨n0, n1⟩, n2, s, ⟨⟨n4, n5⟩, n6, n7⟩, ⟨⟨n8, n9⟩, n10⟩⟩, p, q⟩, ⟨⟨⟨n0, n1⟩, n2, s, ⟨⟨n4, n5⟩, n6, n7⟩, ⟨⟨n8, n9⟩, n10⟩⟩, ps, xs⟩⟩, rfl, ⟨rfl, hps, hxs⟩,
      ⟨⟨i64_lit w0, i64_lit w1⟩, i64_lit w2, ws, ⟨i64_lit w4, i64_lit w5⟩, i64_lit w6, u64_lit w7, ⟨i64_lit w8, i64_lit w9⟩, i64_lit w10⟩, wps, wxs⟩
theorem open_s (hK : Keep K B) {fuel : Nat} {cs : List Value} {x : DataW H × List MemPlace} (h : DataW.trod enc Tryd.prog w base spare held fuel 29 cs = some x) (hx : K x.1) : ∃ s : Sta, cs = s.cells ∧ ∃ d, s.Ok w d ∧ d.wf B := by
  have hf := legs_fits hK 6 _ _ _ _ _ legs_s h hx
  have hl := hf.length
  match cs, hl with
  | [c0, c1, c2, c3, c4, c5, c6, c7, c8, c9], _ =>
    obtain ⟨⟨n0, rfl, w0⟩, ⟨n1, rfl, w1⟩, ⟨n2, rfl, w2⟩, ⟨n3, rfl, w3⟩, ⟨n4, rfl, w4⟩, ⟨n5, rfl, w5⟩, ⟨n6, rfl, w6⟩, ⟨n7, rfl, w7⟩, hp, hq, -⟩ := hf
    replace hp : TrodS K enc Tryd.prog w base spare held 26 c8 := hp
    replace hq : TrodS K enc Tryd.prog w base spare held 27 c9 := hq
    obtain ⟨p, rfl⟩ := slice_val Tryd.underlying26 hp
    obtain ⟨q, rfl⟩ := slice_val Tryd.underlying27 hq
    obtain ⟨ns, hns, wns⟩ := open_row encN Tryd.underlying26 (by kernel_rfl) hK (fun _ _ _ h hx => open_n hK h hx) hp
    obtain ⟨ls, hls, wls⟩ := open_row encK Tryd.underlying27 (by kernel_rfl) hK (fun _ _ _ h hx => open_k hK h hx) hq
    exact ⟨⟨⟨n0, n1, n2, n3, n4, n5, n6, n7⟩, p, q⟩, rfl, ⟨⟨n0, n1, n2, n3, n4, n5, n6, n7⟩, ns.map (·.d), ls⟩, ⟨rfl, ⟨ns, hns, fun n hn => (wns n hn).1, rfl⟩, hls⟩,
      v8_i (i64_lit w0) (i64_lit w1) (i64_lit w2) (i64_lit w3) (i64_lit w4) (i64_lit w5) (i64_lit w6) (i64_lit w7), fun d hd => by obtain ⟨n, hn, rfl⟩ := List.mem_map.1 hd; exact (wns n hn).2, wls⟩
end
end Go.Proofs.YtebpacmhdkgfeaaDoor

/- Is a stamp, is a vector zero? -/
namespace Go.Proofs.YtebpacmhdkgfeaaDoor
open Go.RowKit

def Mk.zero : Mk := ⟨0, 0⟩
theorem stamp_nz (m : Mk) : ∀ w, (binOp .neq 23 m.val (.agg #[.int .i64 0, .int .i64 0])).run Tryd.prog w = .ok (.bool (!decide (m = Mk.zero))) w := by
  have h : eqCells Tryd.prog 3 23 [.int .i64 m.boot, .int .i64 m.n] [.int .i64 0, .int .i64 0] = some (m.boot == 0 && (m.n == 0 && true)) := by kernel_rfl
  have e : (m.boot == 0 && (m.n == 0 && true)) = decide (m = Mk.zero) := by
    obtain ⟨a1, a2⟩ := m
    rw [Bool.eq_iff_iff]; simp [Mk.zero]
  rw [e] at h
  exact run_neq_cells 3 (by decide) (by kernel_rfl) h
theorem vec_nz (v : V8) : ∀ w, (binOp .neq 25 v.val (.agg #[.int .i64 0, .int .i64 0, .int .i64 0, .int .i64 0, .int .i64 0, .int .i64 0, .int .i64 0, .int .i64 0])).run Tryd.prog w = .ok (.bool (!decide (v = V8.zero))) w := by
  have h : eqCells Tryd.prog 3 25 [.int .i64 v.a0, .int .i64 v.a1, .int .i64 v.a2, .int .i64 v.a3, .int .i64 v.a4, .int .i64 v.a5, .int .i64 v.a6, .int .i64 v.a7] [.int .i64 0, .int .i64 0, .int .i64 0, .int .i64 0, .int .i64 0, .int .i64 0, .int .i64 0, .int .i64 0] = some (v.a0 == 0 && (v.a1 == 0 && (v.a2 == 0 && (v.a3 == 0 && (v.a4 == 0 && (v.a5 == 0 && (v.a6 == 0 && (v.a7 == 0 && true)))))))) := by kernel_rfl
  have e : (v.a0 == 0 && (v.a1 == 0 && (v.a2 == 0 && (v.a3 == 0 && (v.a4 == 0 && (v.a5 == 0 && (v.a6 == 0 && (v.a7 == 0 && true)))))))) = decide (v = V8.zero) := by
    obtain ⟨a0, a1, a2, a3, a4, a5, a6, a7⟩ := v
    rw [Bool.eq_iff_iff]; simp [V8.zero]
  rw [e] at h
  exact run_neq_cells 3 (by decide) (by kernel_rfl) h
end Go.Proofs.YtebpacmhdkgfeaaDoor

/- Events as they lie in memory, and what they say. -/
namespace Go.Proofs.YtebpacmhdkgfeaaDoor
open Go.ChangeShapes Go.WideShapes Go.RowKit Go.Deep

def Evt.sta (e : Evt) : Sta := ⟨e.seen, ⟨e.na, e.nn, e.nc⟩, ⟨e.la, e.ln, e.lc⟩⟩
/-- What chapter 29 lets in. -/
structure StaD.small (d : StaD) : Prop where
  nodes : d.nodes.length ≤ 1000
  links : d.links.length ≤ 1000
  ps : ∀ n ∈ d.nodes, n.ps.length ≤ 1000
  xs : ∀ n ∈ d.nodes, n.xs.length ≤ 1000
structure Evt.Ok (w : World) (B : Nat) (e : Evt) (d : StaD) : Prop where
  sta : e.sta.Ok w d
  wf : d.wf B
  at_ : e.at_.I
  vol : I64 e.vol
  knew : e.knew.I
theorem Evt.Ok.below {w w1 : World} {B : Nat} {e : Evt} {d : StaD} (h : e.Ok w B d) (hb : Below w.heap.size w w1) : e.Ok w1 B d := ⟨h.sta.below hb, h.wf, h.at_, h.vol, h.knew⟩
/-- An event as it lies there, and what it wrote. -/
structure Ep where
  e : Evt
  d : StaD
def encEp : Enc Ep := ⟨21, by decide, fun p => p.e.cells, fun _ => rfl, fun _ => ones_of rfl⟩
instance : SizeT Tryd.prog 31 encEp.sz := inferInstanceAs (SizeT Tryd.prog 31 21)
def Ep.Ok (w : World) (B : Nat) (p : Ep) : Prop := p.e.Ok w B p.d
def Lnk.about (id : Mk) (l : Lnk) : Bool := decide (l.id = id) || (decide (l.node = id) && !decide (l.at_ = Mk.zero))
def StaD.about (id : Mk) (d : StaD) : Bool := d.nodes.any (fun n => decide (n.hd.id = id)) || d.links.any (Lnk.about id)
theorem legs_e : legs Tryd.prog 8 31 = some [.int .i64, .int .i64, .int .i64, .int .i64, .int .i64, .int .i64, .int .i64, .int .i64, .int .i64, .int .i64, .int .i64, .int .i64, .int .i64, .int .i64, .int .i64, .int .i64, .int .i64, .int .i64, .int .i64, .sl 26, .sl 27] := by kernel_rfl
section
variable {H : Type} {enc : TypeId × Value → H} {w : World} {base : Nat} {spare : Nat → Bool} {held : Bool} {K : DataW H → Prop} {B : Nat}
theorem open_e (hK : Keep K B) {fuel : Nat} {cs : List Value} {x : DataW H × List MemPlace} (h : DataW.trod enc Tryd.prog w base spare held fuel 31 cs = some x) (hx : K x.1) : ∃ p : Ep, cs = encEp.cells p ∧ p.Ok w B := by
  have hf := legs_fits hK 8 _ _ _ _ _ legs_e h hx
  have hl := hf.length
  match cs, hl with
  | [c0, c1, c2, c3, c4, c5, c6, c7, c8, c9, c10, c11, c12, c13, c14, c15, c16, c17, c18, c19, c20], _ =>
    obtain ⟨⟨a0, rfl, u0⟩, ⟨a1, rfl, u1⟩, ⟨a2, rfl, u2⟩, ⟨b0, rfl, v0⟩, ⟨b1, rfl, v1⟩, ⟨b2, rfl, v2⟩, ⟨b3, rfl, v3⟩, ⟨b4, rfl, v4⟩, ⟨b5, rfl, v5⟩, ⟨b6, rfl, v6⟩, ⟨b7, rfl, v7⟩, ⟨n0, rfl, w0⟩, ⟨n1, rfl, w1⟩, ⟨n2, rfl, w2⟩, ⟨n3, rfl, w3⟩, ⟨n4, rfl, w4⟩, ⟨n5, rfl, w5⟩, ⟨n6, rfl, w6⟩, ⟨n7, rfl, w7⟩, hp, hq, -⟩ := hf
    replace hp : TrodS K enc Tryd.prog w base spare held 26 c19 := hp
    replace hq : TrodS K enc Tryd.prog w base spare held 27 c20 := hq
    obtain ⟨p, rfl⟩ := slice_val Tryd.underlying26 hp
    obtain ⟨q, rfl⟩ := slice_val Tryd.underlying27 hq
    obtain ⟨ns, hns, wns⟩ := open_row encN Tryd.underlying26 (by kernel_rfl) hK (fun _ _ _ h hx => open_n hK h hx) hp
    obtain ⟨ls, hls, wls⟩ := open_row encK Tryd.underlying27 (by kernel_rfl) hK (fun _ _ _ h hx => open_k hK h hx) hq
    exact ⟨⟨⟨⟨a0, a1⟩, a2, ⟨b0, b1, b2, b3, b4, b5, b6, b7⟩, ⟨n0, n1, n2, n3, n4, n5, n6, n7⟩, p.a, p.n, p.c, q.a, q.n, q.c⟩, ⟨⟨n0, n1, n2, n3, n4, n5, n6, n7⟩, ns.map (·.d), ls⟩⟩, rfl, ⟨⟨rfl, ⟨ns, hns, fun n hn => (wns n hn).1, rfl⟩, hls⟩,
      ⟨v8_i (i64_lit w0) (i64_lit w1) (i64_lit w2) (i64_lit w3) (i64_lit w4) (i64_lit w5) (i64_lit w6) (i64_lit w7), fun d hd => by obtain ⟨n, hn, rfl⟩ := List.mem_map.1 hd; exact (wns n hn).2, wls⟩,
      ⟨i64_lit u0, i64_lit u1⟩, i64_lit u2, v8_i (i64_lit v0) (i64_lit v1) (i64_lit v2) (i64_lit v3) (i64_lit v4) (i64_lit v5) (i64_lit v6) (i64_lit v7)⟩⟩
theorem legs_mk : legs Tryd.prog 8 23 = some [.int .i64, .int .i64] := by kernel_rfl
theorem open_mk (hK : Keep K B) {fuel : Nat} {cs : List Value} {x : DataW H × List MemPlace} (h : DataW.trod enc Tryd.prog w base spare held fuel 23 cs = some x) (hx : K x.1) : ∃ m : Mk, cs = [.int .i64 m.boot, .int .i64 m.n] ∧ m.I := by
  have hf := legs_fits hK 8 _ _ _ _ _ legs_mk h hx
  have hl := hf.length
  match cs, hl with
  | [c0, c1], _ =>
    obtain ⟨⟨a0, rfl, u0⟩, ⟨a1, rfl, u1⟩, -⟩ := hf
    exact ⟨⟨a0, a1⟩, rfl, ⟨i64_lit u0, i64_lit u1⟩⟩
end
end Go.Proofs.YtebpacmhdkgfeaaDoor

/- slices.Clone of events. -/
namespace Go.Proofs.YtebpacmhdkgfeaaDoor
open Go.RowKit

set_option maxHeartbeats 2000000 in
theorem clone_events (v : Value) (xs : List Ep) (w : World) (h : encEp.R w v xs) (hn : xs.length ≤ 1000000000) :
    Calls Tryd.prog 13 #[v] w fun e w' => ∃ u, e = .returned u ∧ Loc w NoM w' [row encEp w.heap.size 31 u xs] := by
  have hL := Loc.nil w NoM
  have HR := Lib.hid h
  obtain ⟨ao, c, rfl, hel⟩ := R_elem h
  have hq : ∀ w, (binOp .eql 38 (.slice ao xs.length c) (.slice none 0 0)).run Tryd.prog w = .ok (.bool ao.isNone) w := fun w => Lib.run_eql_slice_nil w 38 31 ao xs.length c 0 0 Tryd.underlying38
  clear h
  cases ao with
  | none =>
    obtain rfl : xs = [] := by
      cases xs with
      | nil => rfl
      | cons x l => obtain ⟨g, off, e, -⟩ := hel 0 (by simp); cases e
    have hq : ∀ w, (binOp .eql 38 (.slice none 0 c) (.slice none 0 0)).run Tryd.prog w = .ok (.bool true) w := hq
    have hL := hL.rowOff encEp w.heap.size 31
    clear HR hel
    show Calls _ _ #[.slice none 0 c] w _
    go_enter Tryd.func13, Tryd.ntmps13
    go_wp2_with (first | ((with_reducible refine gAlloc rfl rfl ?_); (refine ev_allocL rfl hL rfl (by first | exact cells_agg _ rfl | exact cells_int _ _ | exact cells_str _ | exact cells_bool _ | exact cells_slice _ _ _ | exact cells_ptr _ | exact cells_map _ | exact cells_func _ _ _ | exact cells_nilFunc | exact cells_one (by assumption) (by assumption)) ?_; clear hL; intro gq wq hL)) | ((with_reducible refine gBox rfl rfl ?_); (refine ev_boxL rfl hL rfl rfl (by first | exact cells_agg _ rfl | exact cells_int _ _ | exact cells_str _ | exact cells_bool _ | exact cells_slice _ _ _ | exact cells_ptr _ | exact cells_map _ | exact cells_func _ _ _ | exact cells_nilFunc | exact cells_one (by assumption) (by assumption)) ?_; clear hL; intro gq wq hL)) | ((with_reducible refine gLoad rfl rfl ?_); (first | (refine ev_load1L rfl hL rfl rfl HasV.mem (by rfl) ?_) | (refine ev_loadAllL rfl hL rfl rfl HasV.mem (by rfl) ?_) | (refine ev_loadL rfl hL rfl rfl HasV.mem SegC.seg ?_))) | ((with_reducible refine gStore rfl rfl ?_); (first | (refine ev_storeC rfl hL rfl rfl rfl (by first | exact cells_agg _ rfl | exact cells_int _ _ | exact cells_str _ | exact cells_bool _ | exact cells_slice _ _ _ | exact cells_ptr _ | exact cells_map _ | exact cells_func _ _ _ | exact cells_nilFunc | exact cells_one (by assumption) (by assumption)) (by rfl) ?_) | (refine ev_storeAllC rfl hL rfl rfl rfl (by first | exact cells_agg _ rfl | exact cells_int _ _ | exact cells_str _ | exact cells_bool _ | exact cells_slice _ _ _ | exact cells_ptr _ | exact cells_map _ | exact cells_func _ _ _ | exact cells_nilFunc | exact cells_one (by assumption) (by assumption)) (by rfl) (by rfl) ?_)); clear hL; intro wq hL) | ((with_reducible refine gLoadG rfl rfl ?_ ?_); (exact wanted_some rfl rfl rfl (by with_reducible rfl)); (first | (refine ev_load1G (wanted_some rfl rfl rfl rfl) hL rfl rfl HasV.mem (by rfl) ?_) | (refine ev_loadAllG (wanted_some rfl rfl rfl rfl) hL rfl rfl HasV.mem (by rfl) ?_) | (refine ev_loadG_ (wanted_some rfl rfl rfl rfl) hL rfl rfl HasV.mem SegC.seg ?_))))
    go_ret
    exact ⟨_, rfl, hL⟩
  | some a =>
    have hq : ∀ w, (binOp .eql 38 (.slice (some a) xs.length c) (.slice none 0 0)).run Tryd.prog w = .ok (.bool false) w := hq
    clear hel
    go_enter Tryd.func13, Tryd.ntmps13
    go_wp2_with (first
      | ((with_reducible refine gLit rfl rfl ?_); refine ev_lit0 encEp w.heap.size rfl hL rfl (Nat.le_refl _) ?_; clear hL; intro gq wq hL)
      | ((with_reducible refine gAlloc rfl rfl ?_); (refine ev_allocL rfl hL rfl (by first | exact cells_agg _ rfl | exact cells_int _ _ | exact cells_str _ | exact cells_bool _ | exact cells_slice _ _ _ | exact cells_ptr _ | exact cells_map _ | exact cells_func _ _ _ | exact cells_nilFunc | exact cells_one (by assumption) (by assumption)) ?_; clear hL; intro gq wq hL)) | ((with_reducible refine gBox rfl rfl ?_); (refine ev_boxL rfl hL rfl rfl (by first | exact cells_agg _ rfl | exact cells_int _ _ | exact cells_str _ | exact cells_bool _ | exact cells_slice _ _ _ | exact cells_ptr _ | exact cells_map _ | exact cells_func _ _ _ | exact cells_nilFunc | exact cells_one (by assumption) (by assumption)) ?_; clear hL; intro gq wq hL)) | ((with_reducible refine gLoad rfl rfl ?_); (first | (refine ev_load1L rfl hL rfl rfl HasV.mem (by rfl) ?_) | (refine ev_loadAllL rfl hL rfl rfl HasV.mem (by rfl) ?_) | (refine ev_loadL rfl hL rfl rfl HasV.mem SegC.seg ?_))) | ((with_reducible refine gStore rfl rfl ?_); (first | (refine ev_storeC rfl hL rfl rfl rfl (by first | exact cells_agg _ rfl | exact cells_int _ _ | exact cells_str _ | exact cells_bool _ | exact cells_slice _ _ _ | exact cells_ptr _ | exact cells_map _ | exact cells_func _ _ _ | exact cells_nilFunc | exact cells_one (by assumption) (by assumption)) (by rfl) ?_) | (refine ev_storeAllC rfl hL rfl rfl rfl (by first | exact cells_agg _ rfl | exact cells_int _ _ | exact cells_str _ | exact cells_bool _ | exact cells_slice _ _ _ | exact cells_ptr _ | exact cells_map _ | exact cells_func _ _ _ | exact cells_nilFunc | exact cells_one (by assumption) (by assumption)) (by rfl) (by rfl) ?_)); clear hL; intro wq hL) | ((with_reducible refine gLoadG rfl rfl ?_ ?_); (exact wanted_some rfl rfl rfl (by with_reducible rfl)); (first | (refine ev_load1G (wanted_some rfl rfl rfl rfl) hL rfl rfl HasV.mem (by rfl) ?_) | (refine ev_loadAllG (wanted_some rfl rfl rfl rfl) hL rfl rfl HasV.mem (by rfl) ?_) | (refine ev_loadG_ (wanted_some rfl rfl rfl rfl) hL rfl rfl HasV.mem SegC.seg ?_)))
      | (at_builtin; refine ev_appL (E := encEp) xs rfl hL rfl rfl rfl (HR.out.below hL.below) (by first | exact fun _ => .here _ | exact fun _ => .there _ (.here _) | exact fun _ => .there _ (.there _ (.here _)) | exact fun _ => .there _ (.there _ (.there _ (.here _))) | exact fun _ => .there _ (.there _ (.there _ (.there _ (.here _)))) | exact fun _ => .there _ (.there _ (.there _ (.there _ (.there _ (.here _))))) | exact fun _ => .there _ (.there _ (.there _ (.there _ (.there _ (.there _ (.here _))))))) rfl rfl (by simpa using Nat.le_trans hn (by decide)) hL.size ?_; clear hL; intro v' wq hL))
    go_ret
    exact ⟨_, rfl, by simpa using hL⟩
end Go.Proofs.YtebpacmhdkgfeaaDoor

/- Stable sorting, in plain lists: what is sorted and keeps each class of equals in its order is one list; how pieces go together. -/
namespace Go.Proofs.YtebpacmhdkgfeaaDoor.Stab
variable {α : Type} (lt : α → α → Bool)

/-- A strict order by keys. -/
structure Ord (lt : α → α → Bool) : Prop where
  asymm : ∀ x y, lt x y = true → lt y x = false
  part : ∀ x y z, lt x z = true → lt x y = true ∨ lt y z = true
namespace Ord
variable {lt} (h : Ord lt)
include h
theorem irrefl (x : α) : lt x x = false := by
  cases hx : lt x x
  · rfl
  · have := h.asymm x x hx; rw [hx] at this; exact this
theorem trans {x y z : α} (h1 : lt x y = true) (h2 : lt y z = true) : lt x z = true := by
  rcases h.part x z y h1 with h3 | h3
  · exact h3
  · have := h.asymm y z h2; rw [this] at h3; cases h3
/-- le is transitive. -/
theorem le_trans {x y z : α} (h1 : lt y x = false) (h2 : lt z y = false) : lt z x = false := by
  cases h3 : lt z x
  · rfl
  · rcases h.part z y x h3 with h4 | h4
    · rw [h2] at h4; cases h4
    · rw [h1] at h4; cases h4
theorem lt_le {x y z : α} (h1 : lt x y = true) (h2 : lt z y = false) : lt x z = true := by
  rcases h.part x z y h1 with h3 | h3
  · exact h3
  · rw [h2] at h3; cases h3
theorem le_lt {x y z : α} (h1 : lt y x = false) (h2 : lt y z = true) : lt x z = true := by
  rcases h.part y x z h2 with h3 | h3
  · rw [h1] at h3; cases h3
  · exact h3
end Ord
def eqv (z x : α) : Bool := !lt z x && !lt x z
def Sorted (l : List α) : Prop := l.Pairwise fun x y => lt y x = false
/-- l' is l in order, equals in their old order. -/
structure Of (l l' : List α) : Prop where
  sorted : Sorted lt l'
  perm : l'.Perm l
  cls : ∀ z, l'.filter (eqv lt z) = l.filter (eqv lt z)
variable {lt}
theorem Of.refl {l : List α} (h : Sorted lt l) : Of lt l l := ⟨h, .refl _, fun _ => rfl⟩
theorem Of.len {l l' : List α} (h : Of lt l l') : l'.length = l.length := h.perm.length_eq
theorem Of.mem {l l' : List α} (h : Of lt l l') {x : α} : x ∈ l' ↔ x ∈ l := h.perm.mem_iff
/-- First rearranged so that classes stay, then sorted. -/
theorem Of.of_cls {l m l' : List α} (h : Of lt m l') (hp : m.Perm l) (hc : ∀ z, m.filter (eqv lt z) = l.filter (eqv lt z)) : Of lt l l' := ⟨h.sorted, h.perm.trans hp, fun z => (h.cls z).trans (hc z)⟩
theorem Of.append (ho : Ord lt) {l1 l2 k1 k2 : List α} (h1 : Of lt l1 k1) (h2 : Of lt l2 k2) (h : ∀ x ∈ l1, ∀ y ∈ l2, lt y x = false) : Of lt (l1 ++ l2) (k1 ++ k2) := by
  refine ⟨List.pairwise_append.2 ⟨h1.sorted, h2.sorted, fun x hx y hy => h x (h1.mem.1 hx) y (h2.mem.1 hy)⟩, h1.perm.append h2.perm, fun z => ?_⟩
  rw [List.filter_append, List.filter_append, h1.cls, h2.cls]
theorem eqv_refl (ho : Ord lt) (x : α) : eqv lt x x = true := by simp [eqv, ho.irrefl]
theorem Of.uniq (ho : Ord lt) : ∀ {l k1 k2 : List α}, Of lt l k1 → Of lt l k2 → k1 = k2 := by
  have key : ∀ (k1 k2 : List α), Sorted lt k1 → Sorted lt k2 → k1.Perm k2 → (∀ z, k1.filter (eqv lt z) = k2.filter (eqv lt z)) → k1 = k2 := by
    intro k1
    induction k1 with
    | nil => intro k2 _ _ hp _; exact (hp.symm.eq_nil).symm
    | cons a t ih =>
      intro k2 s1 s2 hp hc
      match k2, s2, hp, hc with
      | [], _, hp, _ => exact hp.eq_nil
      | b :: u, s2, hp, hc =>
        have p1 := List.pairwise_cons.1 s1
        have p2 := List.pairwise_cons.1 s2
        have hab : lt b a = false := by
          have hm : b ∈ a :: t := hp.mem_iff.2 (.head _)
          rcases List.mem_cons.1 hm with rfl | hm
          · exact ho.irrefl _
          · exact p1.1 b hm
        have hba : lt a b = false := by
          have hm : a ∈ b :: u := hp.mem_iff.1 (.head _)
          rcases List.mem_cons.1 hm with rfl | hm
          · exact ho.irrefl _
          · exact p2.1 a hm
        have e1 : eqv lt a b = true := by simp [eqv, hab, hba]
        have h1 := hc a
        rw [List.filter_cons_of_pos (by exact eqv_refl ho a), List.filter_cons_of_pos (by exact e1)] at h1
        injection h1 with hh _
        subst hh
        congr 1
        refine ih u p1.2 p2.2 (List.perm_cons a |>.1 hp) fun z => ?_
        have h2 := hc z
        by_cases hz : eqv lt z a = true
        · rw [List.filter_cons_of_pos hz, List.filter_cons_of_pos hz] at h2
          injection h2
        · rw [List.filter_cons_of_neg hz, List.filter_cons_of_neg hz] at h2
          exact h2
  intro l k1 k2 h1 h2
  exact key k1 k2 h1.sorted h2.sorted (h1.perm.trans h2.perm.symm) fun z => (h1.cls z).trans (h2.cls z).symm

/-- One more, behind all that are not greater. -/
def ins (lt : α → α → Bool) (x : α) : List α → List α
  | [] => [x]
  | y :: l => if lt x y = true then x :: y :: l else y :: ins lt x l
/-- One behind the other. -/
def isort (lt : α → α → Bool) (l : List α) : List α := l.foldl (fun acc x => ins lt x acc) []
theorem isort_snoc (l : List α) (x : α) : isort lt (l ++ [x]) = ins lt x (isort lt l) := by simp [isort]
theorem ins_split (x : α) : ∀ (l1 l2 : List α), (∀ y ∈ l1, lt x y = false) → (∀ y ∈ l2.head?, lt x y = true) → ins lt x (l1 ++ l2) = l1 ++ x :: l2
  | [], [], _, _ => rfl
  | [], y :: l2, _, h2 => by show ins lt x (y :: l2) = _; unfold ins; rw [if_pos (h2 y rfl)]; rfl
  | y :: l1, l2, h1, h2 => by
    show ins lt x (y :: (l1 ++ l2)) = _
    unfold ins
    rw [if_neg (by rw [h1 y (.head _)]; simp), ins_split x l1 l2 (fun z hz => h1 z (.tail _ hz)) h2]; rfl
theorem ins_perm (x : α) : ∀ l : List α, (ins lt x l).Perm (l ++ [x])
  | [] => .refl _
  | y :: l => by
    unfold ins
    split
    · have : (x :: (y :: l)).Perm ((y :: l) ++ [x]) := List.perm_append_comm (l₁ := [x])
      exact this
    · exact (ins_perm x l).cons y
theorem ins_of (ho : Ord lt) (x : α) {l : List α} (hs : Sorted lt l) : Of lt (l ++ [x]) (ins lt x l) := by
  refine ⟨?_, ins_perm x l, ?_⟩
  · induction l with
    | nil => exact List.pairwise_singleton _ _
    | cons y l ih =>
      have p := List.pairwise_cons.1 hs
      unfold ins
      split
      · rename_i h
        refine List.pairwise_cons.2 ⟨fun z hz => ?_, hs⟩
        rcases List.mem_cons.1 hz with rfl | hz
        · exact ho.asymm _ _ h
        · exact ho.le_trans (ho.asymm _ _ h) (p.1 z hz)
      · rename_i h
        refine List.pairwise_cons.2 ⟨fun z hz => ?_, ih p.2⟩
        have hm := (ins_perm x l).mem_iff.1 hz
        rcases List.mem_append.1 hm with hm | hm
        · exact p.1 z hm
        · rw [List.mem_singleton.1 hm]; simpa using h
  · intro z
    induction l with
    | nil => rfl
    | cons y l ih =>
      have p := List.pairwise_cons.1 hs
      unfold ins
      split
      · rename_i h
        by_cases hz : eqv lt z x = true
        · -- nothing behind x is its equal
          have hn : (y :: l).filter (eqv lt z) = [] := by
            rw [List.filter_eq_nil_iff]
            intro u hu he
            have hxu : lt x u = true := by
              rcases List.mem_cons.1 hu with rfl | hu
              · exact h
              · exact ho.lt_le h (p.1 u hu)
            simp only [eqv, Bool.and_eq_true, Bool.not_eq_true'] at hz he
            rcases ho.part x z u hxu with h3 | h3
            · rw [hz.2] at h3; cases h3
            · rw [he.1] at h3; cases h3
          rw [List.filter_append, hn, List.filter_cons_of_pos hz, hn]
          simp [hz]
        · rw [List.filter_cons_of_neg hz, List.filter_append]
          simp [hz]
      · rw [List.cons_append, List.filter_cons, List.filter_cons, ih p.2]
theorem isort_of (ho : Ord lt) (l : List α) : Of lt l (isort lt l) := by
  have key : ∀ k : List α, Of lt k.reverse (isort lt k.reverse) := by
    intro k
    induction k with
    | nil => exact ⟨.nil, .refl _, fun _ => rfl⟩
    | cons x k ih =>
      rw [List.reverse_cons, isort_snoc]
      have h1 := ins_of ho x ih.sorted
      refine h1.of_cls (ih.perm.append_right _) fun z => ?_
      rw [List.filter_append, List.filter_append, ih.cls]
  have := key l.reverse
  rwa [List.reverse_reverse] at this
/-- Two sorted runs, where the second piece of the one and the first of the other are exchanged. -/
theorem Of.cross (ho : Ord lt) {A1 A2 B1 B2 L R : List α} (hA : ∀ x ∈ A1, ∀ y ∈ A2, lt y x = false) (hB : ∀ x ∈ B1, ∀ y ∈ B2, lt y x = false) (h12 : ∀ x ∈ A1, ∀ y ∈ B2, lt y x = false) (h21 : ∀ x ∈ B1, ∀ y ∈ A2, lt x y = true)
    (hL : Of lt (A1 ++ B1) L) (hR : Of lt (A2 ++ B2) R) : Of lt ((A1 ++ A2) ++ (B1 ++ B2)) (L ++ R) := by
  have h := Of.append ho hL hR (fun x hx y hy => by
    rcases List.mem_append.1 hx with hx | hx <;> rcases List.mem_append.1 hy with hy | hy
    · exact hA x hx y hy
    · exact h12 x hx y hy
    · exact ho.asymm _ _ (h21 x hx y hy)
    · exact hB x hx y hy)
  refine h.of_cls ?_ fun z => ?_
  · have e1 : (A1 ++ B1 ++ (A2 ++ B2)).Perm (A1 ++ (B1 ++ A2) ++ B2) := by simp
    have e2 : (A1 ++ (B1 ++ A2) ++ B2).Perm (A1 ++ (A2 ++ B1) ++ B2) := ((List.perm_append_comm).append_left _).append_right _
    exact e1.trans (e2.trans (by simp))
  · simp only [List.filter_append, List.append_assoc]
    congr 1
    rw [← List.append_assoc, ← List.append_assoc]
    congr 1
    -- of B1 and A2 one has no equal of z
    by_cases hb : B1.filter (eqv lt z) = []
    · rw [hb]; simp
    · have ha : A2.filter (eqv lt z) = [] := by
        rw [List.filter_eq_nil_iff]
        intro y hy he
        obtain ⟨x, hx⟩ := List.exists_mem_of_ne_nil _ hb
        obtain ⟨hx1, hx2⟩ := List.mem_filter.1 hx
        have h3 := h21 x hx1 y hy
        simp only [eqv, Bool.and_eq_true, Bool.not_eq_true'] at hx2 he
        rcases ho.part x z y h3 with h4 | h4
        · rw [hx2.2] at h4; cases h4
        · rw [he.1] at h4; cases h4
      rw [ha]; simp

/-! ### Exchanges -/
theorem nil_or_snoc (l : List α) : l = [] ∨ ∃ l' x, l = l' ++ [x] := by
  rcases List.eq_nil_or_concat l with h | ⟨l', x, h⟩
  · exact .inl h
  · exact .inr ⟨l', x, by rw [h]; simp⟩
theorem exch_at (L1 L2 L3 : List α) (x y : α) : (L1 ++ x :: (L2 ++ y :: L3))[L1.length]? = some x ∧ (L1 ++ x :: (L2 ++ y :: L3))[L1.length + 1 + L2.length]? = some y ∧
    ((L1 ++ x :: (L2 ++ y :: L3)).set L1.length y).set (L1.length + 1 + L2.length) x = L1 ++ y :: (L2 ++ x :: L3) := by
  refine ⟨by simp, ?_, ?_⟩
  · rw [List.getElem?_append_right (by omega), show L1.length + 1 + L2.length - L1.length = L2.length + 1 from by omega, List.getElem?_cons_succ, List.getElem?_append_right (by omega), Nat.sub_self]; rfl
  · rw [List.set_append_right _ _ (by omega), Nat.sub_self, List.set_cons_zero, List.set_append_right _ _ (by omega), show L1.length + 1 + L2.length - L1.length = L2.length + 1 from by omega, List.set_cons_succ, List.set_append_right _ _ (by omega), Nat.sub_self, List.set_cons_zero]
theorem exch_at' (L1 L2 L3 : List α) (x y : α) : ((L1 ++ x :: (L2 ++ y :: L3)).set (L1.length + 1 + L2.length) x).set L1.length y = L1 ++ y :: (L2 ++ x :: L3) := by
  rw [List.set_comm _ _ (by omega)]
  exact (exch_at L1 L2 L3 x y).2.2
theorem take_snoc' {l : List α} {i : Nat} {x : α} (h : l[i]? = some x) : l.take (i + 1) = l.take i ++ [x] := by
  obtain ⟨hi, rfl⟩ := List.getElem?_eq_some_iff.1 h
  exact List.take_succ_eq_append_getElem hi
theorem drop_cons' {l : List α} {i : Nat} {x : α} (h : l[i]? = some x) : l.drop i = x :: l.drop (i + 1) := by
  obtain ⟨hi, rfl⟩ := List.getElem?_eq_some_iff.1 h
  exact List.drop_eq_getElem_cons hi
theorem swap_step (P A M B R : List α) (i : Nat) (x y : α) (hx : A[i]? = some x) (hy : B[i]? = some y) (_ : A.length = B.length) :
    (P ++ (B.take i ++ A.drop i) ++ M ++ (A.take i ++ B.drop i) ++ R)[(P ++ B.take i).length]? = some x ∧ (P ++ (B.take i ++ A.drop i) ++ M ++ (A.take i ++ B.drop i) ++ R)[(P ++ B.take i).length + 1 + (A.drop (i + 1) ++ M ++ A.take i).length]? = some y ∧
    ((P ++ (B.take i ++ A.drop i) ++ M ++ (A.take i ++ B.drop i) ++ R).set (P ++ B.take i).length y).set ((P ++ B.take i).length + 1 + (A.drop (i + 1) ++ M ++ A.take i).length) x = P ++ (B.take (i + 1) ++ A.drop (i + 1)) ++ M ++ (A.take (i + 1) ++ B.drop (i + 1)) ++ R := by
  have e1 : P ++ (B.take i ++ A.drop i) ++ M ++ (A.take i ++ B.drop i) ++ R = (P ++ B.take i) ++ x :: ((A.drop (i + 1) ++ M ++ A.take i) ++ y :: (B.drop (i + 1) ++ R)) := by
    rw [drop_cons' hx, drop_cons' hy]; simp
  have e2 : P ++ (B.take (i + 1) ++ A.drop (i + 1)) ++ M ++ (A.take (i + 1) ++ B.drop (i + 1)) ++ R = (P ++ B.take i) ++ y :: ((A.drop (i + 1) ++ M ++ A.take i) ++ x :: (B.drop (i + 1) ++ R)) := by
    rw [take_snoc' hx, take_snoc' hy]; simp
  rw [e1, e2]
  exact exch_at _ _ _ _ _
theorem one_left (ho : Ord lt) {x : α} {B1 B3 : List α} (hs : Sorted lt (B1 ++ B3)) (h1 : ∀ y ∈ B1, lt y x = true) (h3 : ∀ y ∈ B3, lt y x = false) : Of lt ([x] ++ (B1 ++ B3)) (B1 ++ x :: B3) := by
  have hp := List.pairwise_append.1 hs
  have hR : Sorted lt (x :: B3) := List.pairwise_cons.2 ⟨h3, hp.2.1⟩
  have := Of.cross (A1 := []) (A2 := [x]) (B1 := B1) (B2 := B3) (L := B1) (R := x :: B3) ho (by simp) (fun y hy z hz => hp.2.2 y hy z hz) (by simp) (fun y hy z hz => by rw [List.mem_singleton.1 hz]; exact h1 y hy) (by simpa using Of.refl hp.1) (Of.refl hR)
  simpa using this
theorem one_right (ho : Ord lt) {y : α} {A1 A3 : List α} (hs : Sorted lt (A1 ++ A3)) (h1 : ∀ z ∈ A1, lt y z = false) (h3 : ∀ z ∈ A3, lt y z = true) : Of lt ((A1 ++ A3) ++ [y]) (A1 ++ y :: A3) := by
  have hp := List.pairwise_append.1 hs
  have hL : Sorted lt (A1 ++ [y]) := List.pairwise_append.2 ⟨hp.1, List.pairwise_singleton _ _, fun z hz u hu => by rw [List.mem_singleton.1 hu]; exact h1 z hz⟩
  have := Of.cross (A1 := A1) (A2 := A3) (B1 := [y]) (B2 := []) (L := A1 ++ [y]) (R := A3) ho (fun z hz u hu => hp.2.2 z hz u hu) (by simp) (by simp) (fun z hz u hu => by rw [List.mem_singleton.1 hz]; exact h3 u hu) (Of.refl hL) (by simpa using Of.refl hp.2.1)
  simpa using this
end Go.Proofs.YtebpacmhdkgfeaaDoor.Stab

/- Merging by halves, in plain lists. -/
namespace Go.Proofs.YtebpacmhdkgfeaaDoor.Stab
variable {α : Type} {lt : α → α → Bool}
theorem sorted_le (ho : Ord lt) {l : List α} (h : Sorted lt l) {i j : Nat} {x y : α} (hij : i ≤ j) (hx : l[i]? = some x) (hy : l[j]? = some y) : lt y x = false := by
  obtain ⟨h1, rfl⟩ := List.getElem?_eq_some_iff.1 hx
  obtain ⟨h2, rfl⟩ := List.getElem?_eq_some_iff.1 hy
  rcases Nat.lt_or_eq_of_le hij with h3 | rfl
  · exact List.pairwise_iff_getElem.1 h i j h1 h2 h3
  · exact ho.irrefl _
/-- What the search tells of a place: b's is, or is not, ahead of a's. -/
def At (lt : α → α → Bool) (A B : List α) (i j : Nat) (v : Bool) : Prop := ∀ x y, A[i]? = some x → B[j]? = some y → lt y x = v
theorem At.down (ho : Ord lt) {A B : List α} (hA : Sorted lt A) (hB : Sorted lt B) {i j i' j' : Nat} (hi : i' ≤ i) (hj : j ≤ j') (hiA : i < A.length) (hjB : j < B.length) (h : At lt A B i j false) : At lt A B i' j' false := by
  intro x y hx hy
  obtain ⟨x0, hx0⟩ : ∃ x0, A[i]? = some x0 := ⟨_, List.getElem?_eq_getElem hiA⟩
  obtain ⟨y0, hy0⟩ : ∃ y0, B[j]? = some y0 := ⟨_, List.getElem?_eq_getElem hjB⟩
  have h1 := h x0 y0 hx0 hy0
  have h2 := sorted_le ho hA hi hx hx0
  have h3 := sorted_le ho hB hj hy0 hy
  exact ho.le_trans (ho.le_trans h2 h1) h3
theorem At.up (ho : Ord lt) {A B : List α} (hA : Sorted lt A) (hB : Sorted lt B) {i j i' j' : Nat} (hi : i ≤ i') (hj : j' ≤ j) (hiA : i < A.length) (hjB : j < B.length) (h : At lt A B i j true) : At lt A B i' j' true := by
  intro x y hx hy
  obtain ⟨x0, hx0⟩ : ∃ x0, A[i]? = some x0 := ⟨_, List.getElem?_eq_getElem hiA⟩
  obtain ⟨y0, hy0⟩ : ∃ y0, B[j]? = some y0 := ⟨_, List.getElem?_eq_getElem hjB⟩
  have h1 := h x0 y0 hx0 hy0
  have h2 := sorted_le ho hA hi hx0 hx
  have h3 := sorted_le ho hB hj hy hy0
  exact ho.lt_le (ho.le_lt h3 h1) h2
theorem Sorted.take {l : List α} (h : Sorted lt l) (k : Nat) : Sorted lt (l.take k) := List.Pairwise.sublist (List.take_sublist _ _) h
theorem Sorted.drop {l : List α} (h : Sorted lt l) (k : Nat) : Sorted lt (l.drop k) := List.Pairwise.sublist (List.drop_sublist _ _) h
/-- Where the two are cut they may be exchanged. -/
theorem sym_cross (ho : Ord lt) {A B L R : List α} (hA : Sorted lt A) (hB : Sorted lt B) (k1 k2 : Nat) (hk1 : k1 ≤ A.length) (hk2 : k2 ≤ B.length) (p1 : 0 < k1 → At lt A B (k1 - 1) k2 false) (p2 : 0 < k2 → At lt A B k1 (k2 - 1) true)
    (hL : Of lt (A.take k1 ++ B.take k2) L) (hR : Of lt (A.drop k1 ++ B.drop k2) R) : Of lt (A ++ B) (L ++ R) := by
  have e : A ++ B = (A.take k1 ++ A.drop k1) ++ (B.take k2 ++ B.drop k2) := by rw [List.take_append_drop, List.take_append_drop]
  rw [e]
  refine Of.cross ho ?_ ?_ ?_ ?_ hL hR
  · have h := hA
    rw [← List.take_append_drop k1 A] at h
    exact fun x hx y hy => (List.pairwise_append.1 h).2.2 x hx y hy
  · have h := hB
    rw [← List.take_append_drop k2 B] at h
    exact fun x hx y hy => (List.pairwise_append.1 h).2.2 x hx y hy
  · intro x hx y hy
    obtain ⟨i, hi⟩ := List.mem_iff_getElem?.1 hx
    obtain ⟨j, hj⟩ := List.mem_iff_getElem?.1 hy
    rw [List.getElem?_drop] at hj
    have hik : i < k1 ∧ i < A.length := by have := (List.getElem?_eq_some_iff.1 hi).1; rw [List.length_take] at this; omega
    rw [List.getElem?_take_of_lt hik.1] at hi
    have hjB := (List.getElem?_eq_some_iff.1 hj).1
    exact At.down ho hA hB (i := k1 - 1) (j := k2) (by omega) (by omega) (by omega) (by omega) (p1 (by omega)) x y hi hj
  · intro x hx y hy
    obtain ⟨j, hj⟩ := List.mem_iff_getElem?.1 hx
    obtain ⟨i, hi⟩ := List.mem_iff_getElem?.1 hy
    rw [List.getElem?_drop] at hi
    have hjk : j < k2 ∧ j < B.length := by have := (List.getElem?_eq_some_iff.1 hj).1; rw [List.length_take] at this; omega
    rw [List.getElem?_take_of_lt hjk.1] at hj
    have hiA := (List.getElem?_eq_some_iff.1 hi).1
    exact At.up ho hA hB (i := k1) (j := k2 - 1) (by omega) (by omega) (by omega) (by omega) (p2 (by omega)) y x hi hj
end Go.Proofs.YtebpacmhdkgfeaaDoor.Stab

/- Where the halves of a merge are cut. -/
namespace Go.Proofs.YtebpacmhdkgfeaaDoor.Stab
variable {α : Type} {lt : α → α → Bool}
theorem Of.self (ho : Ord lt) {l : List α} (h : Sorted lt l) : Of lt l l := ⟨h, .refl _, fun _ => rfl⟩
structure SymCut (lt : α → α → Bool) (A B A1 A2 B1 B2 : List α) (a m b mid e i : Nat) : Prop where
  eA : A = A1 ++ A2
  eB : B = B1 ++ B2
  num : i = a + A1.length ∧ mid = i + B1.length ∧ e = mid + A2.length ∧ b = e + B2.length ∧ m = i + A2.length
  s : Sorted lt A1 ∧ Sorted lt B1 ∧ Sorted lt A2 ∧ Sorted lt B2
  o1 : A1 = [] ∨ B1 = [] → Of lt (A1 ++ B1) (A1 ++ B1)
  o2 : A2 = [] ∨ B2 = [] → Of lt (A2 ++ B2) (A2 ++ B2)
  cross : ∀ L R, Of lt (A1 ++ B1) L → Of lt (A2 ++ B2) R → Of lt (A ++ B) (L ++ R)
theorem Of.skip (ho : Ord lt) {A B : List α} (hA : Sorted lt A) (hB : Sorted lt B) (h : A = [] ∨ B = []) : Of lt (A ++ B) (A ++ B) := by
  rcases h with rfl | rfl
  · exact Of.self ho (by simpa using hB)
  · exact Of.self ho (by simpa using hA)
theorem symCut (ho : Ord lt) {A B : List α} {a m b mid e i : Nat} (hA : Sorted lt A) (hB : Sorted lt B) (h1 : a ≤ i) (h2 : i ≤ mid) (h3 : m = a + A.length) (h4 : b = m + B.length) (h5 : i ≤ m) (h6 : mid - i ≤ B.length) (h7 : e + i = mid + m)
    (f1 : a < i → At lt A B (i - 1 - a) (mid - i) false) (f2 : i < mid → At lt A B (i - a) (mid - 1 - i) true) : SymCut lt A B (A.take (i - a)) (A.drop (i - a)) (B.take (mid - i)) (B.drop (mid - i)) a m b mid e i := by
  have s1 := hA.take (i - a)
  have s2 := hA.drop (i - a)
  have s3 := hB.take (mid - i)
  have s4 := hB.drop (mid - i)
  refine ⟨(List.take_append_drop _ _).symm, (List.take_append_drop _ _).symm, ?_, ⟨s1, s3, s2, s4⟩, Of.skip ho s1 s3, Of.skip ho s2 s4, fun L R hL hR => ?_⟩
  · simp only [List.length_take, List.length_drop]
    omega
  · refine sym_cross ho hA hB (i - a) (mid - i) (by omega) h6 (fun h => ?_) (fun h => ?_) hL hR
    · rw [show i - a - 1 = i - 1 - a from by omega]; exact f1 (by omega)
    · rw [show mid - i - 1 = mid - 1 - i from by omega]; exact f2 (by omega)
end Go.Proofs.YtebpacmhdkgfeaaDoor.Stab
