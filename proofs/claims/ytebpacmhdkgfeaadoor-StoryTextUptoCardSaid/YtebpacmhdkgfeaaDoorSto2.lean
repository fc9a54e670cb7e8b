/- Chapter 29: words with commas between, the document's way. -/
import Derived.Test.YtebpacmhdkgfeaaDoorSto1
import Derived.Test.YtebpacmhdkgfeaaDoorSeenA
import Derived.Test.YtebpacmhdkgfeaaDoorLoc2
namespace Go.Proofs.YtebpacmhdkgfeaaDoor
open Go.RowKit

def joinB (xs : List ByteArray) : ByteArray := ⟨(Lib.join (xs.map (·.data.toList)) ([44] : List UInt8)).toArray⟩
theorem joinB_nil : joinB [] = ⟨#[]⟩ := rfl
theorem ba_toList (x : ByteArray) : (⟨x.data.toList.toArray⟩ : ByteArray) = x := by cases x; rfl
theorem ba_nil (x : ByteArray) : (⟨#[]⟩ : ByteArray) ++ x = x := by cases x; rw [ByteArray.mk_append_mk]; simp
theorem joinB_one (x : ByteArray) : joinB [x] = x := by
  unfold joinB
  rw [List.map_singleton, Lib.join_one]
theorem joinB_snoc (xs : List ByteArray) (x : ByteArray) (h : xs ≠ []) : joinB (xs ++ [x]) = joinB xs ++ ⟨#[44]⟩ ++ x := by
  unfold joinB
  rw [List.map_append, List.map_singleton, join_snoc, if_neg (by simpa using h)]
  obtain ⟨d⟩ := x
  rw [ByteArray.mk_append_mk, ByteArray.mk_append_mk]
theorem joinB_size (n : Nat) (xs : List ByteArray) (hx : ∀ x ∈ xs, x.size ≤ n) : ∀ k, k ≤ xs.length → (joinB (xs.take k)).size ≤ k * (n + 1) := by
  intro k
  induction k with
  | zero => intro _; simp [joinB_nil, ByteArray.size]
  | succ k ih =>
    intro hk
    have h1 := ih (by omega)
    have h2 := hx xs[k] (List.getElem_mem _)
    have h3 : xs.take (k + 1) = xs.take k ++ [xs[k]] := (List.take_append_getElem (by omega)).symm
    rw [h3, Nat.add_mul]
    by_cases h : xs.take k = []
    · rw [h, List.nil_append, joinB_one]; omega
    · rw [joinB_snoc _ _ h]
      simp only [ByteArray.size_append]
      have : (⟨#[44]⟩ : ByteArray).size = 1 := rfl
      omega
theorem joinB_step (xs : List ByteArray) (k : Nat) (hk : k < xs.length) : joinB (xs.take (k + 1)) = if k = 0 then xs[k] else joinB (xs.take k) ++ ⟨#[44]⟩ ++ xs[k] := by
  have h3 : xs.take (k + 1) = xs.take k ++ [xs[k]] := (List.take_append_getElem hk).symm
  rw [h3]
  split
  · rename_i h; subst h; exact joinB_one _
  · rename_i h
    exact joinB_snoc _ _ (by intro h1; have := congrArg List.length h1; rw [List.length_take] at this; simp only [List.length_nil] at this; omega)
set_option maxHeartbeats 1000000 in
theorem ref29_join (v : Value) (xs : List ByteArray) (w : World) (h : encS.R w v xs) (hx : ∀ x ∈ xs, x.size ≤ 1000000000) (hn : xs.length ≤ 1000000) :
    Calls Tryd.prog 49 #[v] w fun e w' => e = .returned (.string (joinB xs)) ∧ Below w.heap.size w w' := by
  have hL := Loc.nil w NoM
  obtain ⟨ao, c, rfl, hel⟩ := R_elem h
  have HX := Lib.hid hx
  clear hx h
  go_enter Tryd.func49, Tryd.ntmps49
  go_wp2_with (first | ((with_reducible refine gAlloc rfl rfl ?_); (refine ev_allocL rfl hL rfl (by first | exact cells_agg _ rfl | exact cells_int _ _ | exact cells_str _ | exact cells_bool _ | exact cells_slice _ _ _ | exact cells_ptr _ | exact cells_map _ | exact cells_func _ _ _ | exact cells_nilFunc | exact cells_one (by assumption) (by assumption)) ?_; clear hL; intro gq wq hL)) | ((with_reducible refine gBox rfl rfl ?_); (refine ev_boxL rfl hL rfl rfl (by first | exact cells_agg _ rfl | exact cells_int _ _ | exact cells_str _ | exact cells_bool _ | exact cells_slice _ _ _ | exact cells_ptr _ | exact cells_map _ | exact cells_func _ _ _ | exact cells_nilFunc | exact cells_one (by assumption) (by assumption)) ?_; clear hL; intro gq wq hL)) | ((with_reducible refine gLoad rfl rfl ?_); (first | (refine ev_load1L rfl hL rfl rfl HasV.mem (by rfl) ?_) | (refine ev_loadAllL rfl hL rfl rfl HasV.mem (by rfl) ?_) | (refine ev_loadL rfl hL rfl rfl HasV.mem SegC.seg ?_))) | ((with_reducible refine gStore rfl rfl ?_); (first | (refine ev_storeC rfl hL rfl rfl rfl (by first | exact cells_agg _ rfl | exact cells_int _ _ | exact cells_str _ | exact cells_bool _ | exact cells_slice _ _ _ | exact cells_ptr _ | exact cells_map _ | exact cells_func _ _ _ | exact cells_nilFunc | exact cells_one (by assumption) (by assumption)) (by rfl) ?_) | (refine ev_storeAllC rfl hL rfl rfl rfl (by first | exact cells_agg _ rfl | exact cells_int _ _ | exact cells_str _ | exact cells_bool _ | exact cells_slice _ _ _ | exact cells_ptr _ | exact cells_map _ | exact cells_func _ _ _ | exact cells_nilFunc | exact cells_one (by assumption) (by assumption)) (by rfl) (by rfl) ?_)); clear hL; intro wq hL) | ((with_reducible refine gLoadG rfl rfl ?_ ?_); (exact wanted_some rfl rfl rfl (by with_reducible rfl)); (first | (refine ev_load1G (wanted_some rfl rfl rfl rfl) hL rfl rfl HasV.mem (by rfl) ?_) | (refine ev_loadAllG (wanted_some rfl rfl rfl rfl) hL rfl rfl HasV.mem (by rfl) ?_) | (refine ev_loadG_ (wanted_some rfl rfl rfl rfl) hL rfl rfl HasV.mem SegC.seg ?_))))
  go_loopw [3, 8] (fun s i wr => ∃ k : Nat, k ≤ xs.length ∧ i = .int .i64 k ∧ s = .string (joinB (xs.take k)) ∧ Loc w NoM wr []) (fun _ i _ => xs.length - (intOf i).toNat)
  case atStart => exact ⟨0, by omega, rfl, rfl, hL⟩
  case round =>
    clear hL
    obtain ⟨k, hk, rfl, rfl, hL⟩ := hrel
    by_cases hlt : k < xs.length
    · obtain ⟨g, off, rfl, hr⟩ := hel k hlt
      have hrW : wr.rangeAt g (off + k * 1) [.string xs[k]] := range_below hr hL.below
      clear hr
      have hs1 : (joinB (xs.take k)).size ≤ k * 1000000001 := joinB_size 1000000000 xs HX.out k hk
      have hs2 : xs[k].size ≤ 1000000000 := HX.out _ (List.getElem_mem hlt)
      have HT := Lib.hid (joinB_step xs k hlt)
      generalize xs[k] = x at *
      have hs3 : (joinB (xs.take k)).size ≤ 1000000000000000 := by omega
      by_cases hz : k = 0
      · have t1 : decide ((0 : Int) < (k : Int)) = false := by simp; omega
        have hk0 : ¬ 0 < k := by omega
        have HJ := Lib.hid (show joinB (xs.take (k + 1)) = joinB (xs.take k) ++ x from by rw [HT.out, if_pos hz, hz, List.take_zero, joinB_nil]; exact (ba_nil x).symm)
        generalize joinB (xs.take k) = S at *
        clear hz
        go_wp2_with (first
          | ((with_reducible refine gIndex rfl rfl ?_); refine ev_indexL rfl rfl rfl rfl hlt ?_)
          | ((with_reducible refine gate (N := 12) rfl ?_); refine ev_loadR1 (v := .string x) rfl rfl rfl hrW ?_)
          | ((with_reducible refine gCat rfl rfl ?_); refine ev_cat rfl rfl rfl rfl (by simp only [ByteArray.size_append, ByteArray.size_mk']; simp; omega) ?_) | ((with_reducible refine gAlloc rfl rfl ?_); (refine ev_allocL rfl hL rfl (by first | exact cells_agg _ rfl | exact cells_int _ _ | exact cells_str _ | exact cells_bool _ | exact cells_slice _ _ _ | exact cells_ptr _ | exact cells_map _ | exact cells_func _ _ _ | exact cells_nilFunc | exact cells_one (by assumption) (by assumption)) ?_; clear hL; intro gq wq hL)) | ((with_reducible refine gBox rfl rfl ?_); (refine ev_boxL rfl hL rfl rfl (by first | exact cells_agg _ rfl | exact cells_int _ _ | exact cells_str _ | exact cells_bool _ | exact cells_slice _ _ _ | exact cells_ptr _ | exact cells_map _ | exact cells_func _ _ _ | exact cells_nilFunc | exact cells_one (by assumption) (by assumption)) ?_; clear hL; intro gq wq hL)) | ((with_reducible refine gLoad rfl rfl ?_); (first | (refine ev_load1L rfl hL rfl rfl HasV.mem (by rfl) ?_) | (refine ev_loadAllL rfl hL rfl rfl HasV.mem (by rfl) ?_) | (refine ev_loadL rfl hL rfl rfl HasV.mem SegC.seg ?_))) | ((with_reducible refine gStore rfl rfl ?_); (first | (refine ev_storeC rfl hL rfl rfl rfl (by first | exact cells_agg _ rfl | exact cells_int _ _ | exact cells_str _ | exact cells_bool _ | exact cells_slice _ _ _ | exact cells_ptr _ | exact cells_map _ | exact cells_func _ _ _ | exact cells_nilFunc | exact cells_one (by assumption) (by assumption)) (by rfl) ?_) | (refine ev_storeAllC rfl hL rfl rfl rfl (by first | exact cells_agg _ rfl | exact cells_int _ _ | exact cells_str _ | exact cells_bool _ | exact cells_slice _ _ _ | exact cells_ptr _ | exact cells_map _ | exact cells_func _ _ _ | exact cells_nilFunc | exact cells_one (by assumption) (by assumption)) (by rfl) (by rfl) ?_)); clear hL; intro wq hL) | ((with_reducible refine gLoadG rfl rfl ?_ ?_); (exact wanted_some rfl rfl rfl (by with_reducible rfl)); (first | (refine ev_load1G (wanted_some rfl rfl rfl rfl) hL rfl rfl HasV.mem (by rfl) ?_) | (refine ev_loadAllG (wanted_some rfl rfl rfl rfl) hL rfl rfl HasV.mem (by rfl) ?_) | (refine ev_loadG_ (wanted_some rfl rfl rfl rfl) hL rfl rfl HasV.mem SegC.seg ?_))))
        go_roundw
        case rel => exact ⟨k + 1, by omega, by go_num, by rw [HJ.out], hL⟩
        case measure => simp [intOf]; omega
      · have t1 : decide ((0 : Int) < (k : Int)) = true := by simp; omega
        have hk0 : 0 < k := by omega
        have HJ := Lib.hid (show joinB (xs.take (k + 1)) = joinB (xs.take k) ++ ⟨#[44]⟩ ++ x from by rw [HT.out, if_neg hz])
        generalize joinB (xs.take k) = S at *
        clear hz
        go_wp2_with (first
          | ((with_reducible refine gIndex rfl rfl ?_); refine ev_indexL rfl rfl rfl rfl hlt ?_)
          | ((with_reducible refine gate (N := 12) rfl ?_); refine ev_loadR1 (v := .string x) rfl rfl rfl hrW ?_)
          | ((with_reducible refine gCat rfl rfl ?_); refine ev_cat rfl rfl rfl rfl (by simp only [ByteArray.size_append, ByteArray.size_mk']; simp; omega) ?_) | ((with_reducible refine gAlloc rfl rfl ?_); (refine ev_allocL rfl hL rfl (by first | exact cells_agg _ rfl | exact cells_int _ _ | exact cells_str _ | exact cells_bool _ | exact cells_slice _ _ _ | exact cells_ptr _ | exact cells_map _ | exact cells_func _ _ _ | exact cells_nilFunc | exact cells_one (by assumption) (by assumption)) ?_; clear hL; intro gq wq hL)) | ((with_reducible refine gBox rfl rfl ?_); (refine ev_boxL rfl hL rfl rfl (by first | exact cells_agg _ rfl | exact cells_int _ _ | exact cells_str _ | exact cells_bool _ | exact cells_slice _ _ _ | exact cells_ptr _ | exact cells_map _ | exact cells_func _ _ _ | exact cells_nilFunc | exact cells_one (by assumption) (by assumption)) ?_; clear hL; intro gq wq hL)) | ((with_reducible refine gLoad rfl rfl ?_); (first | (refine ev_load1L rfl hL rfl rfl HasV.mem (by rfl) ?_) | (refine ev_loadAllL rfl hL rfl rfl HasV.mem (by rfl) ?_) | (refine ev_loadL rfl hL rfl rfl HasV.mem SegC.seg ?_))) | ((with_reducible refine gStore rfl rfl ?_); (first | (refine ev_storeC rfl hL rfl rfl rfl (by first | exact cells_agg _ rfl | exact cells_int _ _ | exact cells_str _ | exact cells_bool _ | exact cells_slice _ _ _ | exact cells_ptr _ | exact cells_map _ | exact cells_func _ _ _ | exact cells_nilFunc | exact cells_one (by assumption) (by assumption)) (by rfl) ?_) | (refine ev_storeAllC rfl hL rfl rfl rfl (by first | exact cells_agg _ rfl | exact cells_int _ _ | exact cells_str _ | exact cells_bool _ | exact cells_slice _ _ _ | exact cells_ptr _ | exact cells_map _ | exact cells_func _ _ _ | exact cells_nilFunc | exact cells_one (by assumption) (by assumption)) (by rfl) (by rfl) ?_)); clear hL; intro wq hL) | ((with_reducible refine gLoadG rfl rfl ?_ ?_); (exact wanted_some rfl rfl rfl (by with_reducible rfl)); (first | (refine ev_load1G (wanted_some rfl rfl rfl rfl) hL rfl rfl HasV.mem (by rfl) ?_) | (refine ev_loadAllG (wanted_some rfl rfl rfl rfl) hL rfl rfl HasV.mem (by rfl) ?_) | (refine ev_loadG_ (wanted_some rfl rfl rfl rfl) hL rfl rfl HasV.mem SegC.seg ?_))))
        go_roundw
        case rel => exact ⟨k + 1, by omega, by go_num, by rw [HJ.out], hL⟩
        case measure => simp [intOf]; omega
    · obtain rfl : k = xs.length := by omega
      have HT := Lib.hid (show xs.take xs.length = xs from List.take_length)
      rw [HT.out]
      go_wp2
      go_ret
      exact ⟨rfl, hL.below⟩
end Go.Proofs.YtebpacmhdkgfeaaDoor
