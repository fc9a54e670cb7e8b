/- msg.Get of any bytes. -/
import Derived.Test.YtbkffeabikjnhaaDoorRd4
import Derived.Test.YtbkffeabikjnhaaDoorGetNo
import Derived.Test.YtbkffeabikjnhaaDoorPut2
namespace Go.Proofs.YtbkffeabikjnhaaDoor
open Go.RowKit

/-- The message of bytes, if it can be. -/
def gotM (s : ByteArray) : Option Msg :=
  if openOk s = true then (getM (openCut s)).bind fun p => if p.2 = ⟨#[]⟩ ∧ p.1.ok = true then some p.1 else none else none
theorem Loc.gone {w0 w w1 : World} {M : Nat → Prop} {l : List Item} {g : Nat} {cs : List Value} {t : TypeId} (h : Loc w0 M w (var g cs t :: l)) (hp : Put w w1 g) : Loc w0 M w1 l := by
  have hg := h.new (var g cs t) (.head _) g rfl
  have ha := (List.pairwise_cons.1 h.apart).1
  refine ⟨h.mod.trans (Mod.of_put hp) fun b hb hk => ?_, fun i hi => (h.at_ i (.tail _ hi)).keep hp.size fun k hk => hp.block k ((h.at_ i (.tail _ hi)).lt k hk) fun e => ha i hi g rfl (e ▸ hk), fun i hi => h.new i (.tail _ hi), (List.pairwise_cons.1 h.apart).2⟩
  cases hk
  rcases hg with h1 | h1
  · omega
  · exact h1
theorem Loc.turn {w0 w w1 : World} {M : Nat → Prop} {l : List Item} {g : Nat} {cs cs' : List Value} {t : TypeId} (h : Loc w0 M w (var g cs t :: l)) (hp : Put w w1 g) (hx : Box w1 g cs'.toArray t) : Loc w0 M w1 (var g cs' t :: l) := h.put (.here _) hp hx
theorem read_any2 (l : List UInt8) (gm : Nat) (v : Value) (w : World) (hz : l.length ≤ 100000000000) (hr : encB.R w v l) (hm : Box w gm Msg.zero.arr 41) :
    Calls Tryd.prog 71 #[v, .func (.func 72) #[] #[.pointer (some ⟨gm, 0, none⟩)]] w fun e w' => ∃ c : Int, e = .returned (.int .i64 c) ∧
      ((c = 0 ∧ ∃ m, getM ⟨l.toArray⟩ = some (m, ⟨#[]⟩) ∧ Box w' gm m.arr 41) ∨ (c ≠ 0 ∧ ∀ m, getM ⟨l.toArray⟩ ≠ some (m, ⟨#[]⟩))) ∧ Put w w' gm := by
  refine (read_any l gm v w hz hr hm).mono fun e w' ⟨hA, hp⟩ => ?_
  rcases hA with ⟨m, hg, rfl, hx⟩ | ⟨hno, c, hc, rfl⟩
  · exact ⟨0, rfl, .inl ⟨rfl, m, hg, hx⟩, hp⟩
  · exact ⟨c, rfl, .inr ⟨hc, hno⟩, hp⟩
set_option maxRecDepth 20000 in
theorem get_walk (s b : ByteArray) (w : World) (hb : b.size ≤ 10000000000) (hO : ∀ w, Calls Tryd.prog 70 #[.string s] w fun e w' => e = .returned (.tuple #[.string b, .bool true]) ∧ Below w.heap.size w w') :
    Calls Tryd.prog 27 #[.string s] w fun e w' => ((∃ m, getM b = some (m, ⟨#[]⟩) ∧ m.ok = true ∧ e = .returned (.tuple #[m.val, .int .i64 0])) ∨ ((∀ m, getM b = some (m, ⟨#[]⟩) → m.ok = false) ∧ e = .returned (.tuple #[exZ.val, .int .i64 201]))) ∧ Below w.heap.size w w' := by
  have hmf : ∀ (fn : Fn) (first cap : Array Value) (w : World), (Instr.makeFunc fn first cap).run Tryd.prog w = .ok (.func fn first cap) w := fun _ _ _ _ => rfl
  have hO := fun w => hide (hO w)
  have hL := Loc.nil w NoM
  have hbl : b.data.toList.length = b.size := by rw [Array.length_toList]; rfl
  go_enter Tryd.func27, Tryd.ntmps27
  go_wp2_with (first
    | (go_at_call 70; (with_reducible refine (unhide (hO _)).mono ?_); rintro e w2 ⟨rfl, hb2⟩; have hL := hL.call hb2; clear hb2)
    | ((with_reducible refine gate (N := 17) rfl ?_); refine ev_s2bF rfl rfl rfl Tryd.underlying9 Tryd.underlying5 ?_; intro g7 c7 w7 hb7 hg7 hc7 hcell hfr; have hL := hL.call hb7; refine stop ?_)
    | ((with_reducible refine gAlloc rfl rfl ?_); (refine ev_allocL rfl hL rfl (by first | exact cells_agg _ rfl | exact cells_int _ _ | exact cells_str _ | exact cells_bool _ | exact cells_slice _ _ _ | exact cells_ptr _ | exact cells_map _ | exact cells_func _ _ _ | exact cells_nilFunc | exact cells_one (by assumption) (by assumption)) ?_; clear hL; intro gq wq hL)) | ((with_reducible refine gBox rfl rfl ?_); (refine ev_boxL rfl hL rfl rfl (by first | exact cells_agg _ rfl | exact cells_int _ _ | exact cells_str _ | exact cells_bool _ | exact cells_slice _ _ _ | exact cells_ptr _ | exact cells_map _ | exact cells_func _ _ _ | exact cells_nilFunc | exact cells_one (by assumption) (by assumption)) ?_; clear hL; intro gq wq hL)) | ((with_reducible refine gLoad rfl rfl ?_); (first | (refine ev_load1L rfl hL rfl rfl HasV.mem (by rfl) ?_) | (refine ev_loadAllL rfl hL rfl rfl HasV.mem (by rfl) ?_) | (refine ev_loadL rfl hL rfl rfl HasV.mem SegC.seg ?_))) | ((with_reducible refine gStore rfl rfl ?_); (first | (refine ev_storeC rfl hL rfl rfl rfl (by first | exact cells_agg _ rfl | exact cells_int _ _ | exact cells_str _ | exact cells_bool _ | exact cells_slice _ _ _ | exact cells_ptr _ | exact cells_map _ | exact cells_func _ _ _ | exact cells_nilFunc | exact cells_one (by assumption) (by assumption)) (by rfl) ?_) | (refine ev_storeAllC rfl hL rfl rfl rfl (by first | exact cells_agg _ rfl | exact cells_int _ _ | exact cells_str _ | exact cells_bool _ | exact cells_slice _ _ _ | exact cells_ptr _ | exact cells_map _ | exact cells_func _ _ _ | exact cells_nilFunc | exact cells_one (by assumption) (by assumption)) (by rfl) (by rfl) ?_)); clear hL; intro wq hL) | ((with_reducible refine gLoadG rfl rfl ?_ ?_); (exact wanted_some rfl rfl rfl (by with_reducible rfl)); (first | (refine ev_load1G (wanted_some rfl rfl rfl rfl) hL rfl rfl HasV.mem (by rfl) ?_) | (refine ev_loadAllG (wanted_some rfl rfl rfl rfl) hL rfl rfl HasV.mem (by rfl) ?_) | (refine ev_loadG_ (wanted_some rfl rfl rfl rfl) hL rfl rfl HasV.mem SegC.seg ?_))))
  unfold Stop
  have hR : encB.R w7 (.slice (some ⟨g7, 0, none⟩) b.size c7) b.data.toList := by
    have := read_cells (w := w7) (g := g7) (c := c7) b.data.toList (by rw [hbl]; exact hc7) (by rw [hbl]; omega) (fun j hj => hcell j (by rw [hbl] at hj; exact hj))
    rw [hbl] at this
    exact this
  clear hcell hfr hb7 hc7 hbl
  have hx : Box w7 gq Msg.zero.arr 41 := hL.box (.head _)
  have hl2 : b.data.toList.length ≤ 100000000000 := by have : b.data.toList.length = b.size := by rw [Array.length_toList]; rfl
                                                       omega
  have hRd := hide (read_any2 b.data.toList gq _ w7 hl2 hR hx)
  clear hR hx hl2
  have hbb : (⟨b.data.toList.toArray⟩ : ByteArray) = b := by apply ba_ext; simp
  rw [hbb] at hRd
  clear hbb
  go_wp2_with (first
    | (go_at_call 71; (with_reducible refine (unhide hRd).mono ?_); rintro e w8 ⟨c, rfl, hA, hp8⟩; clear hRd; refine stop ?_))
  rcases hA with ⟨rfl, m, hg, hx8⟩ | ⟨hc, hno⟩
  · have hL := hL.turn (cs' := m.cells) hp8 hx8
    clear hx8 hp8
    have hck : ∀ w, Hid (Calls Tryd.prog 17 #[.agg m.cells.toArray] w fun e w' => e = .returned (.int .i64 m.code) ∧ Below w.heap.size w w') := fun w => hide (msg_check m w)
    cases hok : m.ok
    · have hcode : m.code = 201 := by simp [Msg.code, hok]
      have HN := Lib.hid hok
      clear hok
      unfold Stop
      go_wp2_with (first
        | (go_at_call 17; (with_reducible refine (unhide (hck _)).mono ?_); rintro e w9 ⟨rfl, hb9⟩; rw [hcode]; have hL := hL.call hb9; clear hb9)
        | ((with_reducible refine gAlloc rfl rfl ?_); (refine ev_allocL rfl hL rfl (by first | exact cells_agg _ rfl | exact cells_int _ _ | exact cells_str _ | exact cells_bool _ | exact cells_slice _ _ _ | exact cells_ptr _ | exact cells_map _ | exact cells_func _ _ _ | exact cells_nilFunc | exact cells_one (by assumption) (by assumption)) ?_; clear hL; intro gq wq hL)) | ((with_reducible refine gBox rfl rfl ?_); (refine ev_boxL rfl hL rfl rfl (by first | exact cells_agg _ rfl | exact cells_int _ _ | exact cells_str _ | exact cells_bool _ | exact cells_slice _ _ _ | exact cells_ptr _ | exact cells_map _ | exact cells_func _ _ _ | exact cells_nilFunc | exact cells_one (by assumption) (by assumption)) ?_; clear hL; intro gq wq hL)) | ((with_reducible refine gLoad rfl rfl ?_); (first | (refine ev_load1L rfl hL rfl rfl HasV.mem (by rfl) ?_) | (refine ev_loadAllL rfl hL rfl rfl HasV.mem (by rfl) ?_) | (refine ev_loadL rfl hL rfl rfl HasV.mem SegC.seg ?_))) | ((with_reducible refine gStore rfl rfl ?_); (first | (refine ev_storeC rfl hL rfl rfl rfl (by first | exact cells_agg _ rfl | exact cells_int _ _ | exact cells_str _ | exact cells_bool _ | exact cells_slice _ _ _ | exact cells_ptr _ | exact cells_map _ | exact cells_func _ _ _ | exact cells_nilFunc | exact cells_one (by assumption) (by assumption)) (by rfl) ?_) | (refine ev_storeAllC rfl hL rfl rfl rfl (by first | exact cells_agg _ rfl | exact cells_int _ _ | exact cells_str _ | exact cells_bool _ | exact cells_slice _ _ _ | exact cells_ptr _ | exact cells_map _ | exact cells_func _ _ _ | exact cells_nilFunc | exact cells_one (by assumption) (by assumption)) (by rfl) (by rfl) ?_)); clear hL; intro wq hL) | ((with_reducible refine gLoadG rfl rfl ?_ ?_); (exact wanted_some rfl rfl rfl (by with_reducible rfl)); (first | (refine ev_load1G (wanted_some rfl rfl rfl rfl) hL rfl rfl HasV.mem (by rfl) ?_) | (refine ev_loadAllG (wanted_some rfl rfl rfl rfl) hL rfl rfl HasV.mem (by rfl) ?_) | (refine ev_loadG_ (wanted_some rfl rfl rfl rfl) hL rfl rfl HasV.mem SegC.seg ?_))))
      refine bodyPost_ret (res_ct2 rfl hL _ rfl rfl HasV.mem (by rfl)) rfl ⟨.inr ⟨fun m' e => ?_, rfl⟩, hL.below⟩
      rw [hg] at e
      simp only [Option.some.injEq, Prod.mk.injEq, and_true] at e
      rw [← e]
      exact HN.out
    · have hcode : m.code = 0 := by simp [Msg.code, hok]
      have HN := Lib.hid hok
      clear hok
      unfold Stop
      go_wp2_with (first
        | (go_at_call 17; (with_reducible refine (unhide (hck _)).mono ?_); rintro e w9 ⟨rfl, hb9⟩; rw [hcode]; have hL := hL.call hb9; clear hb9)
        | ((with_reducible refine gAlloc rfl rfl ?_); (refine ev_allocL rfl hL rfl (by first | exact cells_agg _ rfl | exact cells_int _ _ | exact cells_str _ | exact cells_bool _ | exact cells_slice _ _ _ | exact cells_ptr _ | exact cells_map _ | exact cells_func _ _ _ | exact cells_nilFunc | exact cells_one (by assumption) (by assumption)) ?_; clear hL; intro gq wq hL)) | ((with_reducible refine gBox rfl rfl ?_); (refine ev_boxL rfl hL rfl rfl (by first | exact cells_agg _ rfl | exact cells_int _ _ | exact cells_str _ | exact cells_bool _ | exact cells_slice _ _ _ | exact cells_ptr _ | exact cells_map _ | exact cells_func _ _ _ | exact cells_nilFunc | exact cells_one (by assumption) (by assumption)) ?_; clear hL; intro gq wq hL)) | ((with_reducible refine gLoad rfl rfl ?_); (first | (refine ev_load1L rfl hL rfl rfl HasV.mem (by rfl) ?_) | (refine ev_loadAllL rfl hL rfl rfl HasV.mem (by rfl) ?_) | (refine ev_loadL rfl hL rfl rfl HasV.mem SegC.seg ?_))) | ((with_reducible refine gStore rfl rfl ?_); (first | (refine ev_storeC rfl hL rfl rfl rfl (by first | exact cells_agg _ rfl | exact cells_int _ _ | exact cells_str _ | exact cells_bool _ | exact cells_slice _ _ _ | exact cells_ptr _ | exact cells_map _ | exact cells_func _ _ _ | exact cells_nilFunc | exact cells_one (by assumption) (by assumption)) (by rfl) ?_) | (refine ev_storeAllC rfl hL rfl rfl rfl (by first | exact cells_agg _ rfl | exact cells_int _ _ | exact cells_str _ | exact cells_bool _ | exact cells_slice _ _ _ | exact cells_ptr _ | exact cells_map _ | exact cells_func _ _ _ | exact cells_nilFunc | exact cells_one (by assumption) (by assumption)) (by rfl) (by rfl) ?_)); clear hL; intro wq hL) | ((with_reducible refine gLoadG rfl rfl ?_ ?_); (exact wanted_some rfl rfl rfl (by with_reducible rfl)); (first | (refine ev_load1G (wanted_some rfl rfl rfl rfl) hL rfl rfl HasV.mem (by rfl) ?_) | (refine ev_loadAllG (wanted_some rfl rfl rfl rfl) hL rfl rfl HasV.mem (by rfl) ?_) | (refine ev_loadG_ (wanted_some rfl rfl rfl rfl) hL rfl rfl HasV.mem SegC.seg ?_))))
      exact bodyPost_ret (res_ct2 rfl hL _ rfl rfl HasV.mem (by rfl)) rfl ⟨.inl ⟨m, hg, HN.out, rfl⟩, hL.below⟩
  · have hL := hL.gone hp8
    clear hp8
    have tc : (c != 0) = true := by simpa using hc
    unfold Stop
    go_wp2_with (first | ((with_reducible refine gAlloc rfl rfl ?_); (refine ev_allocL rfl hL rfl (by first | exact cells_agg _ rfl | exact cells_int _ _ | exact cells_str _ | exact cells_bool _ | exact cells_slice _ _ _ | exact cells_ptr _ | exact cells_map _ | exact cells_func _ _ _ | exact cells_nilFunc | exact cells_one (by assumption) (by assumption)) ?_; clear hL; intro gq wq hL)) | ((with_reducible refine gBox rfl rfl ?_); (refine ev_boxL rfl hL rfl rfl (by first | exact cells_agg _ rfl | exact cells_int _ _ | exact cells_str _ | exact cells_bool _ | exact cells_slice _ _ _ | exact cells_ptr _ | exact cells_map _ | exact cells_func _ _ _ | exact cells_nilFunc | exact cells_one (by assumption) (by assumption)) ?_; clear hL; intro gq wq hL)) | ((with_reducible refine gLoad rfl rfl ?_); (first | (refine ev_load1L rfl hL rfl rfl HasV.mem (by rfl) ?_) | (refine ev_loadAllL rfl hL rfl rfl HasV.mem (by rfl) ?_) | (refine ev_loadL rfl hL rfl rfl HasV.mem SegC.seg ?_))) | ((with_reducible refine gStore rfl rfl ?_); (first | (refine ev_storeC rfl hL rfl rfl rfl (by first | exact cells_agg _ rfl | exact cells_int _ _ | exact cells_str _ | exact cells_bool _ | exact cells_slice _ _ _ | exact cells_ptr _ | exact cells_map _ | exact cells_func _ _ _ | exact cells_nilFunc | exact cells_one (by assumption) (by assumption)) (by rfl) ?_) | (refine ev_storeAllC rfl hL rfl rfl rfl (by first | exact cells_agg _ rfl | exact cells_int _ _ | exact cells_str _ | exact cells_bool _ | exact cells_slice _ _ _ | exact cells_ptr _ | exact cells_map _ | exact cells_func _ _ _ | exact cells_nilFunc | exact cells_one (by assumption) (by assumption)) (by rfl) (by rfl) ?_)); clear hL; intro wq hL) | ((with_reducible refine gLoadG rfl rfl ?_ ?_); (exact wanted_some rfl rfl rfl (by with_reducible rfl)); (first | (refine ev_load1G (wanted_some rfl rfl rfl rfl) hL rfl rfl HasV.mem (by rfl) ?_) | (refine ev_loadAllG (wanted_some rfl rfl rfl rfl) hL rfl rfl HasV.mem (by rfl) ?_) | (refine ev_loadG_ (wanted_some rfl rfl rfl rfl) hL rfl rfl HasV.mem SegC.seg ?_))))
    exact bodyPost_ret (res_ct2 rfl hL _ rfl rfl HasV.mem (by rfl)) rfl ⟨.inr ⟨fun m' e => absurd e (hno m'), rfl⟩, hL.below⟩
end Go.Proofs.YtbkffeabikjnhaaDoor
