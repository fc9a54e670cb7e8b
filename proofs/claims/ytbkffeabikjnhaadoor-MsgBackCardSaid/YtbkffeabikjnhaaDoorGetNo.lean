/- msg.Get of what is not sealed. -/
import Derived.Test.YtbkffeabikjnhaaDoorGet
import Derived.Test.YtbkffeabikjnhaaDoorTab
import Derived.Test.YtbkffeabikjnhaaDoorLoc2
namespace Go.Proofs.YtbkffeabikjnhaaDoor
open Go.RowKit

theorem res_ct2 {P : Program} {fn : Func} {W w0 : World} {M : Nat → Prop} {l : List Item} {p q : Tmp} {ty : TypeId} {n g : Nat} {cs : List Value} {t : TypeId} {v : Value} [ha : AggT P ty] [hn : SizeT P ty n] (h : fn.results = #[.cell p ty, .tmp q]) (hL : Loc w0 M W l) (tmps : Array Value) (hp : tmps.getD p undef = .pointer (some ⟨g, 0, none⟩)) (hq : tmps.getD q undef = v) (hm : var g cs t ∈ l) (hs : cs.length = n) :
    (results fn tmps).run P W = .ok (.tuple #[.agg cs.toArray, v]) W :=
  results_cell_tmp h tmps W g t cs.toArray v hp hq (hL.box hm) ha.agg (by rw [List.size_toArray, hs]; exact hn.size)
abbrev exZ : Msg := ⟨0, 0, 0, 0, ⟨0, 0⟩, ⟨0, 0⟩, 0, 0, ⟨0, 0, 0, 0, 0, 0, 0, 0⟩, ⟨#[]⟩⟩
theorem msg_GetNo (s : ByteArray) (w : World) (hs : s.size ≤ 10000000000) (ho : openOk s = false) :
    Calls Tryd.prog 27 #[.string s] w fun e w' => e = .returned (.tuple #[exZ.val, .int .i64 201]) ∧ Below w.heap.size w w' := by
  have hL := Loc.nil w NoM
  have hO := fun w => hide (crc_open s w hs)
  rw [ho] at hO
  generalize (if 8 ≤ s.size then openCut s else ⟨#[]⟩) = b at hO
  go_enter Tryd.func27, Tryd.ntmps27
  go_wp2_with (first
    | (go_at_call 70; (with_reducible refine (unhide (hO _)).mono ?_); rintro e w2 ⟨rfl, hb2⟩; have hL := hL.call hb2; clear hb2)
    | ((with_reducible refine gAlloc rfl rfl ?_); (refine ev_allocL rfl hL rfl (by first | exact cells_agg _ rfl | exact cells_int _ _ | exact cells_str _ | exact cells_bool _ | exact cells_slice _ _ _ | exact cells_ptr _ | exact cells_map _ | exact cells_func _ _ _ | exact cells_nilFunc | exact cells_one (by assumption) (by assumption)) ?_; clear hL; intro gq wq hL)) | ((with_reducible refine gBox rfl rfl ?_); (refine ev_boxL rfl hL rfl rfl (by first | exact cells_agg _ rfl | exact cells_int _ _ | exact cells_str _ | exact cells_bool _ | exact cells_slice _ _ _ | exact cells_ptr _ | exact cells_map _ | exact cells_func _ _ _ | exact cells_nilFunc | exact cells_one (by assumption) (by assumption)) ?_; clear hL; intro gq wq hL)) | ((with_reducible refine gLoad rfl rfl ?_); (first | (refine ev_load1L rfl hL rfl rfl HasV.mem (by rfl) ?_) | (refine ev_loadAllL rfl hL rfl rfl HasV.mem (by rfl) ?_) | (refine ev_loadL rfl hL rfl rfl HasV.mem SegC.seg ?_))) | ((with_reducible refine gStore rfl rfl ?_); (first | (refine ev_storeC rfl hL rfl rfl rfl (by first | exact cells_agg _ rfl | exact cells_int _ _ | exact cells_str _ | exact cells_bool _ | exact cells_slice _ _ _ | exact cells_ptr _ | exact cells_map _ | exact cells_func _ _ _ | exact cells_nilFunc | exact cells_one (by assumption) (by assumption)) (by rfl) ?_) | (refine ev_storeAllC rfl hL rfl rfl rfl (by first | exact cells_agg _ rfl | exact cells_int _ _ | exact cells_str _ | exact cells_bool _ | exact cells_slice _ _ _ | exact cells_ptr _ | exact cells_map _ | exact cells_func _ _ _ | exact cells_nilFunc | exact cells_one (by assumption) (by assumption)) (by rfl) (by rfl) ?_)); clear hL; intro wq hL) | ((with_reducible refine gLoadG rfl rfl ?_ ?_); (exact wanted_some rfl rfl rfl (by with_reducible rfl)); (first | (refine ev_load1G (wanted_some rfl rfl rfl rfl) hL rfl rfl HasV.mem (by rfl) ?_) | (refine ev_loadAllG (wanted_some rfl rfl rfl rfl) hL rfl rfl HasV.mem (by rfl) ?_) | (refine ev_loadG_ (wanted_some rfl rfl rfl rfl) hL rfl rfl HasV.mem SegC.seg ?_))))
  have hx := hL.box (by first | exact .head _ | exact .tail _ (.head _) | exact .tail _ (.tail _ (.head _)) | exact .tail _ (.tail _ (.tail _ (.head _))) | exact .tail _ (.tail _ (.tail _ (.tail _ (.head _)))) | exact .tail _ (.tail _ (.tail _ (.tail _ (.tail _ (.head _))))) | exact .tail _ (.tail _ (.tail _ (.tail _ (.tail _ (.tail _ (.head _)))))) | exact .tail _ (.tail _ (.tail _ (.tail _ (.tail _ (.tail _ (.tail _ (.head _))))))) | exact .tail _ (.tail _ (.tail _ (.tail _ (.tail _ (.tail _ (.tail _ (.tail _ (.head _)))))))))
  exact bodyPost_ret (results_cell_tmp rfl _ _ _ 41 exZ.arr _ rfl rfl hx aggMsg sizeMsg) rfl ⟨rfl, hL.below⟩
end Go.Proofs.YtbkffeabikjnhaaDoor
