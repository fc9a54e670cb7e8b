/- msg.Get of what msg.Put gave: the message itself. -/
import Derived.Test.YtbkffeabikjnhaaDoorWire2
import Derived.Test.YtbkffeabikjnhaaDoorSeal
import Derived.Test.YtbkffeabikjnhaaDoorEvG
namespace Go.Proofs.YtbkffeabikjnhaaDoor
open Go.RowKit

theorem openCut_sealed (l : List UInt8) : openCut ⟨(sealed l).toArray⟩ = ⟨l.toArray⟩ := by
  unfold openCut
  apply ba_ext
  have hs : (⟨(sealed l).toArray⟩ : ByteArray).size = l.length + 8 := by
    show (sealed l).toArray.size = _
    simp [sealed, sumBytes_length]
  rw [hs, ByteArray.data_extract]
  simp [sealed]
theorem openOk_sealed (l : List UInt8) : openOk ⟨(sealed l).toArray⟩ = true := by
  have hs : (⟨(sealed l).toArray⟩ : ByteArray).size = l.length + 8 := by
    show (sealed l).toArray.size = _
    simp [sealed, sumBytes_length]
  unfold openOk
  rw [openCut_sealed, hs]
  simp
theorem Msg.bytes_short (m : Msg) (h : m.ok = true) : m.bytes.length ≤ 1000 := m.bytes_le (m.ok_data h)
theorem Msg.code_ok (m : Msg) (h : m.ok = true) : m.code = 0 := by simp [Msg.code, h]
theorem crc_open_sealed (m : Msg) (w : World) (h : m.ok = true) :
    Calls Tryd.prog 70 #[.string ⟨(sealed m.bytes).toArray⟩] w fun e w' => e = .returned (.tuple #[.string ⟨m.bytes.toArray⟩, .bool true]) ∧ Below w.heap.size w w' := by
  have hl := m.bytes_short h
  have hs : (⟨(sealed m.bytes).toArray⟩ : ByteArray).size = m.bytes.length + 8 := by
    show (sealed m.bytes).toArray.size = _
    simp [sealed, sumBytes_length]
  have hq := crc_open ⟨(sealed m.bytes).toArray⟩ w (by omega)
  rw [openCut_sealed, openOk_sealed, if_pos (by omega)] at hq
  exact hq
theorem results_cell_tmp {P : Program} {fn : Func} {p q : Tmp} {ty : TypeId} (h : fn.results = #[.cell p ty, .tmp q]) (tmps : Array Value) (w : World) (g : Nat) (t : TypeId) (cs : Array Value) (v : Value)
    (hp : tmps.getD p undef = .pointer (some ⟨g, 0, none⟩)) (hq : tmps.getD q undef = v) (hg : Box w g cs t) (ha : isAggT P ty = true) (hi : (P.info? ty).map (·.size) = some cs.size) :
    (results fn tmps).run P w = .ok (.tuple #[.agg cs, v]) w := by
  have hp' : tmps[p]?.getD undef = .pointer (some ⟨g, 0, none⟩) := by simpa using hp
  have hq' : tmps[q]?.getD undef = v := by simpa using hq
  cases hu : P.underlying ty with
  | none => simp [isAggT, hu] at ha
  | some d =>
    have hd : (match d with | .struct _ | .array _ _ => true | _ => false) = true := by unfold isAggT at ha; rw [hu] at ha; cases d <;> simp_all
    simp [results, h, hp', hq', asAddr, run_loadVar_row w g t ty cs (0, 0) d hg hu hd hi]
/-- What is got of what was put is what was put. -/
theorem msg_get (m : Msg) (w : World) (hok : m.ok = true) :
    Calls Tryd.prog 27 #[.string ⟨(sealed m.bytes).toArray⟩] w fun e w' => e = .returned (.tuple #[m.val, .int .i64 0]) ∧ Below w.heap.size w w' := by
  have hmf : ∀ (fn : Fn) (first cap : Array Value) (w : World), (Instr.makeFunc fn first cap).run Tryd.prog w = .ok (.func fn first cap) w := fun _ _ _ _ => rfl
  have HB := fun gm => hide (msgBody m hok gm)
  have HO := fun w => hide (crc_open_sealed m w hok)
  have HC := hide (m.code_ok hok)
  have hl := m.bytes_short hok
  clear hok
  generalize sealed m.bytes = sl at *
  generalize m.bytes = l at *
  have hsz : (⟨l.toArray⟩ : ByteArray).size = l.length := by show l.toArray.size = _; simp
  go_enter Tryd.func27, Tryd.ntmps27
  go_wp2_with (first
    | ((with_reducible refine gate (N := 2) rfl ?_); refine ev_alloc rfl 41 rfl (cs := Msg.zero.arr) zeroMsg ?_; intro g2 w2 hx2 hb2 hg2 hl2)
    | (go_at_call 70; have hq := unhide (HO w2); (with_reducible refine hq.mono ?_); rintro e w3 ⟨rfl, hb3⟩; clear hq)
    | ((with_reducible refine gate (N := 6) rfl ?_); refine ev_alloc rfl 41 rfl (cs := Msg.zero.arr) zeroMsg ?_; intro g6 w6 hx6 hb6 hg6 hl6)
    | ((with_reducible refine gate (N := 17) rfl ?_); refine ev_s2b rfl 9 54 5 (.tmp 16) rfl rfl Tryd.underlying9 Tryd.underlying54 Tryd.underlying5 ?_; intro g7 c7 w7 hb7 hg7 hc7 hcell; refine stop ?_))
  unfold Stop
  have hr7 : encB.R w7 (.slice (some ⟨g7, 0, none⟩) l.length c7) l := by
    rw [hsz] at hcell hc7
    refine ⟨by rw [Enc.all_length], _, c7, rfl, hc7, by omega, .inr ⟨_, rfl, fun j u hu => ?_⟩⟩
    rw [encB_all] at hu
    have hj : j < l.length := by have := (List.getElem?_eq_some_iff.1 hu).1; simpa using this
    have h1 := hcell j hj
    have e1 : (⟨g7, 0, none⟩ : Addr).add j = ⟨g7, j, none⟩ := by unfold Addr.add; split <;> simp_all
    rw [e1, h1]
    rw [List.getElem?_map, List.getElem?_eq_getElem hj] at hu
    simp only [Option.map_some, Option.some.injEq] at hu
    rw [← hu]
    simp [List.getD_eq_getElem?_getD, List.getElem?_eq_getElem hj]
  have n26 : g2 ≠ g6 := by have := hb3.size; omega
  have hx67 := hx6.below hb7
  have hx27 := ((hx2.below hb3).below hb6).below hb7
  have hge2 := hg2
  have HW7 := bl_then (bl_then (bl_then hb2 hb3) hb6) hb7
  have hge6 : w.heap.size ≤ g6 := by have := hb2.size; have := hb3.size; omega
  clear hcell hb2 hb3 hb6 hb7 hx2 hx6 hg7 hc7 hg6 hl2 hl6 hg2
  have hRd := hide (read_ok m l g6 _ w7 (unhide (HB g6)) hr7 hx67)
  clear hr7 HB HO
  go_wp2_with (first
    | (go_at_call 71; (with_reducible refine (unhide hRd).mono ?_); rintro e w8 ⟨rfl, hx8, hp8⟩; refine stop ?_))
  unfold Stop
  have hx28 := hx27.put hp8 n26
  have HW8 := Put.below HW7 hp8 hge6
  clear hx27 hx67 HW7 hp8 hRd
  go_wp2_with (first
    | ((with_reducible refine gate (N := 23) rfl ?_); refine ev_loadG rfl 41 (.tmp 6) rfl rfl hx8 aggMsg sizeMsg ?_)
    | (go_at_call 17; have hq := msg_check m w8; rw [HC.out] at hq; (with_reducible refine hq.mono ?_); rintro e w9 ⟨rfl, hb9⟩; clear hq)
    | ((with_reducible refine gate (N := 28) rfl ?_); refine stop ?_))
  unfold Stop
  have hx69 := hx8.below hb9
  have hx29 := hx28.below hb9
  have HW9 := bl_then HW8 hb9
  clear hx8 hx28 HW8 hb9
  refine ev_load rfl 41 (.tmp 6) rfl rfl hx69 aggMsg sizeMsg ?_
  refine ev_setAll rfl 41 (.tmp 2) (.tmp 28) rfl rfl (vs := m.arr) hx29 rfl (oneMsg _) sizeMsg rfl ?_
  intro w10 hx10 hp10
  have HW10 := Put.below HW9 hp10 hge2
  clear hx69 hx29 HW9 hp10
  go_wp2
  refine bodyPost_ret (results_cell_tmp rfl _ w10 g2 41 m.arr _ rfl rfl hx10 aggMsg sizeMsg) rfl ⟨rfl, HW10⟩
end Go.Proofs.YtbkffeabikjnhaaDoor
