/- A message as bytes: the program's and the document's. -/
import Derived.Test.YtbkffeabikjnhaaDoorRefPut
namespace Go.Proofs.YtbkffeabikjnhaaDoor
open Go.RowKit

def Msg.putB (m : Msg) : ByteArray := if m.ok = true then ⟨(sealed m.bytes).toArray⟩ else ⟨#[]⟩
theorem rputmNo (m : Msg) (w : World) (hok : m.ok = false) :
    Calls Tryd.prog 26 #[m.val] w fun e w' => e = .returned (.tuple #[.string ⟨#[]⟩, .int .i64 201]) ∧ Below w.heap.size w w' := by
  have hL := Loc.nil w NoM
  have hc := fun w => hide (ref_check m w)
  rw [show m.code = 201 by simp [Msg.code, hok]] at hc
  clear hok
  go_enter Tryd.func26, Tryd.ntmps26
  go_wp2_with (first
    | (go_at_call 18; (with_reducible refine (unhide (hc _)).mono ?_); rintro e w2 ⟨rfl, hb2⟩; have hL := hL.call hb2; clear hb2)
    | ((with_reducible refine gAlloc rfl rfl ?_); (refine ev_allocL rfl hL rfl (by first | exact cells_agg _ rfl | exact cells_int _ _ | exact cells_str _ | exact cells_bool _ | exact cells_slice _ _ _ | exact cells_ptr _ | exact cells_map _ | exact cells_func _ _ _ | exact cells_nilFunc | exact cells_one (by assumption) (by assumption)) ?_; clear hL; intro gq wq hL)) | ((with_reducible refine gBox rfl rfl ?_); (refine ev_boxL rfl hL rfl rfl (by first | exact cells_agg _ rfl | exact cells_int _ _ | exact cells_str _ | exact cells_bool _ | exact cells_slice _ _ _ | exact cells_ptr _ | exact cells_map _ | exact cells_func _ _ _ | exact cells_nilFunc | exact cells_one (by assumption) (by assumption)) ?_; clear hL; intro gq wq hL)) | ((with_reducible refine gLoad rfl rfl ?_); (first | (refine ev_load1L rfl hL rfl rfl (by first | exact .head _ | exact .tail _ (.head _) | exact .tail _ (.tail _ (.head _)) | exact .tail _ (.tail _ (.tail _ (.head _))) | exact .tail _ (.tail _ (.tail _ (.tail _ (.head _)))) | exact .tail _ (.tail _ (.tail _ (.tail _ (.tail _ (.head _))))) | exact .tail _ (.tail _ (.tail _ (.tail _ (.tail _ (.tail _ (.head _)))))) | exact .tail _ (.tail _ (.tail _ (.tail _ (.tail _ (.tail _ (.tail _ (.head _))))))) | exact .tail _ (.tail _ (.tail _ (.tail _ (.tail _ (.tail _ (.tail _ (.tail _ (.head _))))))))) (by rfl) ?_) | (refine ev_loadAllL rfl hL rfl rfl (by first | exact .head _ | exact .tail _ (.head _) | exact .tail _ (.tail _ (.head _)) | exact .tail _ (.tail _ (.tail _ (.head _))) | exact .tail _ (.tail _ (.tail _ (.tail _ (.head _)))) | exact .tail _ (.tail _ (.tail _ (.tail _ (.tail _ (.head _))))) | exact .tail _ (.tail _ (.tail _ (.tail _ (.tail _ (.tail _ (.head _)))))) | exact .tail _ (.tail _ (.tail _ (.tail _ (.tail _ (.tail _ (.tail _ (.head _))))))) | exact .tail _ (.tail _ (.tail _ (.tail _ (.tail _ (.tail _ (.tail _ (.tail _ (.head _))))))))) (by rfl) ?_) | (refine ev_loadL rfl hL rfl rfl (by first | exact .head _ | exact .tail _ (.head _) | exact .tail _ (.tail _ (.head _)) | exact .tail _ (.tail _ (.tail _ (.head _))) | exact .tail _ (.tail _ (.tail _ (.tail _ (.head _)))) | exact .tail _ (.tail _ (.tail _ (.tail _ (.tail _ (.head _))))) | exact .tail _ (.tail _ (.tail _ (.tail _ (.tail _ (.tail _ (.head _)))))) | exact .tail _ (.tail _ (.tail _ (.tail _ (.tail _ (.tail _ (.tail _ (.head _))))))) | exact .tail _ (.tail _ (.tail _ (.tail _ (.tail _ (.tail _ (.tail _ (.tail _ (.head _))))))))) (by repeat (first | exact .nil _ | with_reducible apply Seg.take | with_reducible apply Seg.skip)) ?_))) | ((with_reducible refine gStore rfl rfl ?_); (refine ev_storeL rfl hL rfl rfl rfl (by first | exact cells_agg _ rfl | exact cells_int _ _ | exact cells_str _ | exact cells_bool _ | exact cells_slice _ _ _ | exact cells_ptr _ | exact cells_map _ | exact cells_func _ _ _ | exact cells_nilFunc | exact cells_one (by assumption) (by assumption)) (by rfl) (by first | exact .here _ | exact .there _ (.here _) | exact .there _ (.there _ (.here _)) | exact .there _ (.there _ (.there _ (.here _))) | exact .there _ (.there _ (.there _ (.there _ (.here _)))) | exact .there _ (.there _ (.there _ (.there _ (.there _ (.here _))))) | exact .there _ (.there _ (.there _ (.there _ (.there _ (.there _ (.here _)))))) | exact .there _ (.there _ (.there _ (.there _ (.there _ (.there _ (.there _ (.here _)))))))) (by first | exact SetAt.all rfl | repeat (first | exact .nil _ | with_reducible apply SetAt.put | with_reducible apply SetAt.skip)) ?_; clear hL; intro wq hL)) | ((with_reducible refine gLoadG rfl rfl ?_ ?_); (exact wanted_some rfl rfl rfl (by with_reducible rfl)); (first | (refine ev_load1G (wanted_some rfl rfl rfl rfl) hL rfl rfl (by first | exact .head _ | exact .tail _ (.head _) | exact .tail _ (.tail _ (.head _)) | exact .tail _ (.tail _ (.tail _ (.head _))) | exact .tail _ (.tail _ (.tail _ (.tail _ (.head _)))) | exact .tail _ (.tail _ (.tail _ (.tail _ (.tail _ (.head _))))) | exact .tail _ (.tail _ (.tail _ (.tail _ (.tail _ (.tail _ (.head _)))))) | exact .tail _ (.tail _ (.tail _ (.tail _ (.tail _ (.tail _ (.tail _ (.head _))))))) | exact .tail _ (.tail _ (.tail _ (.tail _ (.tail _ (.tail _ (.tail _ (.tail _ (.head _))))))))) (by rfl) ?_) | (refine ev_loadAllG (wanted_some rfl rfl rfl rfl) hL rfl rfl (by first | exact .head _ | exact .tail _ (.head _) | exact .tail _ (.tail _ (.head _)) | exact .tail _ (.tail _ (.tail _ (.head _))) | exact .tail _ (.tail _ (.tail _ (.tail _ (.head _)))) | exact .tail _ (.tail _ (.tail _ (.tail _ (.tail _ (.head _))))) | exact .tail _ (.tail _ (.tail _ (.tail _ (.tail _ (.tail _ (.head _)))))) | exact .tail _ (.tail _ (.tail _ (.tail _ (.tail _ (.tail _ (.tail _ (.head _))))))) | exact .tail _ (.tail _ (.tail _ (.tail _ (.tail _ (.tail _ (.tail _ (.tail _ (.head _))))))))) (by rfl) ?_) | (refine ev_loadG_ (wanted_some rfl rfl rfl rfl) hL rfl rfl (by first | exact .head _ | exact .tail _ (.head _) | exact .tail _ (.tail _ (.head _)) | exact .tail _ (.tail _ (.tail _ (.head _))) | exact .tail _ (.tail _ (.tail _ (.tail _ (.head _)))) | exact .tail _ (.tail _ (.tail _ (.tail _ (.tail _ (.head _))))) | exact .tail _ (.tail _ (.tail _ (.tail _ (.tail _ (.tail _ (.head _)))))) | exact .tail _ (.tail _ (.tail _ (.tail _ (.tail _ (.tail _ (.tail _ (.head _))))))) | exact .tail _ (.tail _ (.tail _ (.tail _ (.tail _ (.tail _ (.tail _ (.tail _ (.head _))))))))) (by repeat (first | exact .nil _ | with_reducible apply Seg.take | with_reducible apply Seg.skip)) ?_))))
  go_ret2
  exact ⟨rfl, hL.below⟩
theorem ret_pe {a b : ByteArray} {c d : Int} (h1 : a = b) (h2 : c = d) : Ending.returned (.tuple #[.string a, .int .i64 c]) = .returned (.tuple #[.string b, .int .i64 d]) := by rw [h1, h2]
theorem ref_put (m : Msg) (w : World) (h : m.wf) :
    Calls Tryd.prog 26 #[m.val] w fun e w' => e = .returned (.tuple #[.string m.putB, .int .i64 m.code]) ∧ Below w.heap.size w w' := by
  cases hok : m.ok
  · refine (rputmNo m w hok).mono fun e w' ⟨he, hb⟩ => ⟨?_, hb⟩
    rw [he]; exact ret_pe (by simp [Msg.putB, hok]) (by simp [Msg.code, hok])
  · have hk := m.ok_kind hok
    have key : Calls Tryd.prog 26 #[m.val] w fun e w' => e = .returned (.tuple #[.string ⟨(sealed m.bytes).toArray⟩, .int .i64 0]) ∧ Below w.heap.size w w' := by
      by_cases k1 : m.kind = 1
      · exact rputm1 m w h hok k1
      by_cases k2 : m.kind = 2
      · exact rputm2 m w h hok k2 (m.ok_data hok k2)
      by_cases k3 : m.kind = 3
      · exact rputm3 m w h hok k3
      exact rputm4 m w h hok (by omega)
    refine key.mono fun e w' ⟨he, hb⟩ => ⟨?_, hb⟩
    rw [he]; exact ret_pe (by simp [Msg.putB, hok]) (by simp [Msg.code, hok])
theorem msg_Put (m : Msg) (w : World) :
    Calls Tryd.prog 25 #[m.val] w fun e w' => e = .returned (.tuple #[.string m.putB, .int .i64 m.code]) ∧ Below w.heap.size w w' := by
  cases hok : m.ok
  · refine (msg_putNo m w hok).mono fun e w' ⟨he, hb⟩ => ⟨?_, hb⟩
    rw [he]; exact ret_pe (by simp [Msg.putB, hok]) (by simp [Msg.code, hok])
  · refine (msg_put m w hok).mono fun e w' ⟨he, hb⟩ => ⟨?_, hb⟩
    rw [he]; exact ret_pe (by simp [Msg.putB, hok]) (by simp [Msg.code, hok])
end Go.Proofs.YtbkffeabikjnhaaDoor
