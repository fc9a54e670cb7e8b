/- Layer 18's example. -/
import Derived.Test.YtbkffeabikjnhaaDoorTex3
import Derived.Test.YtbkffeabikjnhaaDoorGet
import Derived.Test.YtbkffeabikjnhaaDoorGetNo
namespace Go.Proofs.YtbkffeabikjnhaaDoor
open Go.RowKit

abbrev exM : Msg := ⟨3, 0, 1, 2, ⟨0, 0⟩, ⟨0, 0⟩, 0, 0, ⟨3, 0, 5, 0, 0, 0, 0, 0⟩, ⟨#[]⟩⟩
theorem exM_ok : exM.ok = true := by decide
theorem exZ_code : exZ.code = 201 := by decide
abbrev exT : ByteArray := ⟨#[115, 97, 109, 101, 32, 48, 62, 49, 32, 118, 50, 32, 115, 101, 101, 110, 61, 51, 44, 48, 44, 53]⟩
theorem exM_text : exM.textB = exT := by decide +kernel
theorem i64_lit (n : Int) (h : decide (-9223372036854775808 ≤ n ∧ n ≤ 9223372036854775807) = true) : I64 n := (of_decide_eq_true h : -9223372036854775808 ≤ n ∧ n ≤ 9223372036854775807)
theorem exM_wf : exM.wf := by
  refine ⟨i64_lit _ rfl, i64_lit _ rfl, i64_lit _ rfl, i64_lit _ rfl, i64_lit _ rfl, i64_lit _ rfl, i64_lit _ rfl, i64_lit _ rfl, i64_lit _ rfl, i64_lit _ rfl, ?_, by decide⟩
  intro k hk
  have e : k = 0 ∨ k = 1 ∨ k = 2 ∨ k = 3 ∨ k = 4 ∨ k = 5 ∨ k = 6 ∨ k = 7 := by omega
  rcases e with rfl | rfl | rfl | rfl | rfl | rfl | rfl | rfl <;> exact i64_lit _ rfl
theorem ex_put : ∃ S : ByteArray, (∀ w, Calls Tryd.prog 25 #[exM.val] w fun e w' => e = .returned (.tuple #[.string S, .int .i64 0]) ∧ Below w.heap.size w w') ∧
    (∀ w, Calls Tryd.prog 27 #[.string S] w fun e w' => e = .returned (.tuple #[exM.val, .int .i64 0]) ∧ Below w.heap.size w w') :=
  ⟨_, fun w => msg_put exM w exM_ok, fun w => msg_get exM w exM_ok⟩
theorem ex_text (w : World) (ht : Tb w) : Calls Tryd.prog 21 #[exM.val] w fun e w' => e = .returned (.string exT) ∧ Below w.heap.size w w' := by
  have h := msg_text exM w exM_wf ht
  rw [exM_text] at h
  exact h
theorem ex_zero (w : World) : Calls Tryd.prog 17 #[exZ.val] w fun e w' => e = .returned (.int .i64 201) ∧ Below w.heap.size w w' := by
  have h := msg_check exZ w
  rw [exZ_code] at h
  exact h
set_option maxHeartbeats 1000000 in
theorem law18_awake (w : World) (ht0 : Tb w) :
    Calls Tryd.prog 16 #[] w fun e w' => e = .returned (.bool true) ∧ Below w.heap.size w w' := by
  obtain ⟨S, hput, hget⟩ := ex_put
  have hL := Loc.nil w NoM
  have heq : ∀ w, (binOp .eql 41 exM.val exM.val).run Tryd.prog w = .ok (.bool true) w := fun w => by rw [msg_eq]; rfl
  have ht := fun w (hb : Below w.heap.size w w) => hb
  clear ht
  go_enter Tryd.func16, Tryd.ntmps16
  go_wp2_with (first
    | (go_at_call 25; have hq := hput; (with_reducible refine (hq _).mono ?_); rintro e w3 ⟨rfl, hb3⟩; have hL := hL.call hb3; clear hb3 hq hput)
    | (go_at_call 27; have hq := hget; (with_reducible refine (hq _).mono ?_); rintro e w3 ⟨rfl, hb3⟩; have hL := hL.call hb3; clear hb3 hq hget)
    | (go_at_call 21; have hq := ex_text; (with_reducible refine (hq _ (ht0.below hL.below)).mono ?_); rintro e w3 ⟨rfl, hb3⟩; have hL := hL.call hb3; clear hb3 hq)
    | (go_at_call 17; have hq := ex_zero; (with_reducible refine (hq _).mono ?_); rintro e w3 ⟨rfl, hb3⟩; have hL := hL.call hb3; clear hb3 hq)
    | ((with_reducible refine gAlloc rfl rfl ?_); (refine ev_allocL rfl hL rfl (by first | exact cells_agg _ rfl | exact cells_int _ _ | exact cells_str _ | exact cells_bool _ | exact cells_slice _ _ _ | exact cells_ptr _ | exact cells_map _ | exact cells_func _ _ _ | exact cells_nilFunc | exact cells_one (by assumption) (by assumption)) ?_; clear hL; intro gq wq hL)) | ((with_reducible refine gBox rfl rfl ?_); (refine ev_boxL rfl hL rfl rfl (by first | exact cells_agg _ rfl | exact cells_int _ _ | exact cells_str _ | exact cells_bool _ | exact cells_slice _ _ _ | exact cells_ptr _ | exact cells_map _ | exact cells_func _ _ _ | exact cells_nilFunc | exact cells_one (by assumption) (by assumption)) ?_; clear hL; intro gq wq hL)) | ((with_reducible refine gLoad rfl rfl ?_); (first | (refine ev_load1L rfl hL rfl rfl HasV.mem (by rfl) ?_) | (refine ev_loadAllL rfl hL rfl rfl HasV.mem (by rfl) ?_) | (refine ev_loadL rfl hL rfl rfl HasV.mem SegC.seg ?_))) | ((with_reducible refine gStore rfl rfl ?_); (first | (refine ev_storeC rfl hL rfl rfl rfl (by first | exact cells_agg _ rfl | exact cells_int _ _ | exact cells_str _ | exact cells_bool _ | exact cells_slice _ _ _ | exact cells_ptr _ | exact cells_map _ | exact cells_func _ _ _ | exact cells_nilFunc | exact cells_one (by assumption) (by assumption)) (by rfl) ?_) | (refine ev_storeAllC rfl hL rfl rfl rfl (by first | exact cells_agg _ rfl | exact cells_int _ _ | exact cells_str _ | exact cells_bool _ | exact cells_slice _ _ _ | exact cells_ptr _ | exact cells_map _ | exact cells_func _ _ _ | exact cells_nilFunc | exact cells_one (by assumption) (by assumption)) (by rfl) (by rfl) ?_)); clear hL; intro wq hL) | ((with_reducible refine gLoadG rfl rfl ?_ ?_); (exact wanted_some rfl rfl rfl (by with_reducible rfl)); (first | (refine ev_load1G (wanted_some rfl rfl rfl rfl) hL rfl rfl HasV.mem (by rfl) ?_) | (refine ev_loadAllG (wanted_some rfl rfl rfl rfl) hL rfl rfl HasV.mem (by rfl) ?_) | (refine ev_loadG_ (wanted_some rfl rfl rfl rfl) hL rfl rfl HasV.mem SegC.seg ?_))))
  go_ret
  exact ⟨rfl, hL.below⟩
theorem aw18_ext {W : World} {e : Ext W} (ht : Tb W) : Calls Tryd.prog 16 #[] e.w fun en w'' => en = .returned (.bool true) ∧ ∃ m : Ext W, w'' = m.w :=
  calls_ext (law18_awake _ (ht.below e.ok))
theorem aw18_c (w : World) (ht : Tb w) : Calls Tryd.prog 16 #[] w fun e w' => e = .returned (.bool true) ∧ Below w.heap.size w w' := law18_awake w ht
end Go.Proofs.YtbkffeabikjnhaaDoor
