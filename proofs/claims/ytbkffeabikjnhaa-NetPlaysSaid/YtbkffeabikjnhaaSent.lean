/- Rows of messages; slices.Contains of them; a net as an item; NetSent walked. -/
import Derived.Test.YtbkffeabikjnhaaOff
import Derived.Test.YtbkffeabikjnhaaChk18
namespace Go.Proofs.Ytbkffeabikjnhaa
open Go.RowKit

def encM : Enc Msg := ⟨19, by decide, Msg.cells, fun _ => rfl, fun d u hu => by simp [Msg.cells] at hu; rcases hu with rfl | rfl | rfl | rfl | rfl | rfl | rfl | rfl | rfl | rfl | rfl | rfl | rfl | rfl | rfl | rfl | rfl | rfl | rfl <;> rfl⟩
def idxM (xs : List Msg) (m : Msg) : Int := if m ∈ xs then xs.idxOf m else -1
theorem idxM_hit {xs : List Msg} {m : Msg} {j : Nat} (hj : j < xs.length) (h : xs[j] = m) (hn : m ∉ xs.take j) : idxM xs m = j := by
  have hm : m ∈ xs := h ▸ List.getElem_mem hj
  have e : xs.idxOf m = j := by
    have hs : xs = xs.take j ++ xs.drop j := (List.take_append_drop j xs).symm
    rw [hs, List.idxOf_append, if_neg hn]
    have hd : xs.drop j = m :: xs.drop (j + 1) := by rw [List.drop_eq_getElem_cons hj, h]
    rw [hd, List.idxOf_cons_self, List.length_take]
    omega
  rw [idxM, if_pos hm, e]
theorem idxM_none {xs : List Msg} {m : Msg} (h : m ∉ xs) : idxM xs m = -1 := by rw [idxM, if_neg h]
set_option maxRecDepth 100000 in
theorem msg_index (v : Value) (xs : List Msg) (m : Msg) (w : World) (h : encM.R w v xs) :
    Calls Try.prog 31 #[v, m.val] w fun e w' => e = .returned (.int .i64 (idxM xs m)) ∧ Below w.heap.size w w' := by
  have hR := hide h
  obtain ⟨ao, c, rfl, -⟩ := R_elem h
  have hmx := R_max h
  clear h
  have hL := Loc.nil w NoM
  go_enter Try.func31, Try.ntmps31
  go_wp2_with (first | ((with_reducible refine gBox rfl rfl ?_); refine ev_boxL (cs := m.cells) rfl hL rfl rfl (cells_agg m.cells rfl) ?_; clear hL; intro g w1 hL))
  go_loopw [8] (fun i wr => ∃ j : Nat, j ≤ xs.length ∧ i = .int .i64 j ∧ m ∉ xs.take j ∧ Loc w NoM wr [var g m.cells 32]) (fun i _ => xs.length - (intOf i).toNat)
  case atStart => exact ⟨0, by omega, rfl, by simp, hL⟩
  case round =>
    clear hL
    obtain ⟨j, hj, rfl, hn, hL⟩ := hrel
    by_cases hlt : j < xs.length
    · obtain ⟨ao', c', e0, hat⟩ := R_elem (unhide hR)
      obtain ⟨gr, off, e1, hr⟩ := hat j hlt
      subst e1
      injection e0 with e2 e3 e4
      subst e2
      subst e4
      clear hat e3
      have hr1 : wr.rangeAt gr (off + j * 19) xs[j].cells := range_below hr hL.below
      have he : ∀ w, (binOp .eql 32 (.agg m.cells.toArray) (.agg xs[j].cells.toArray)).run Try.prog w = .ok (.bool (decide (m = xs[j]))) w := msg_eq m xs[j]
      by_cases hx : m = xs[j]
      · have HI := Lib.hid (idxM_hit hlt hx.symm hn)
        rw [decide_eq_true hx] at he
        generalize xs[j] = x at *
        clear hx hr hn
        go_wp2
        refine wp_region_ext (by kernel_rfl) (by kernel_rfl) ?_
        repeat (first
          | (go_big_quiet_want; (first | refine quiet_loadAllL hL rfl rfl (.head _) (by rfl) ?_ | refine quiet_index rfl rfl rfl hlt ?_ | refine quiet_loadR rfl rfl hr1 (by rfl) ?_); go_big_quiet_on; simp only [Act.put, List.setIfInBounds_toArray, List.set_cons_succ, List.set_cons_zero])
          | go_big_quiet_step (fail))
        refine wpQuiet_nil ?_
        rintro _ ⟨⟨w2, hb2⟩, rfl⟩
        have hL := hL.call hb2
        clear hb2
        go_wp2
        go_ret
        exact ⟨ret_i HI.out.symm, hL.below⟩
      · have HI := Lib.hid (show m ∉ xs.take (j + 1) by
          rw [List.take_succ_eq_append_getElem hlt]
          simp only [List.mem_append, List.mem_singleton, not_or]
          exact ⟨hn, hx⟩)
        rw [decide_eq_false hx] at he
        generalize xs[j] = x at *
        clear hx hr hn
        go_wp2
        refine wp_region_ext (by kernel_rfl) (by kernel_rfl) ?_
        repeat (first
          | (go_big_quiet_want; (first | refine quiet_loadAllL hL rfl rfl (.head _) (by rfl) ?_ | refine quiet_index rfl rfl rfl hlt ?_ | refine quiet_loadR rfl rfl hr1 (by rfl) ?_); go_big_quiet_on; simp only [Act.put, List.setIfInBounds_toArray, List.set_cons_succ, List.set_cons_zero])
          | go_big_quiet_step (fail))
        refine wpQuiet_nil ?_
        rintro _ ⟨⟨w2, hb2⟩, rfl⟩
        have hL := hL.call hb2
        clear hb2
        go_wp2
        go_roundw
        case rel => exact ⟨j + 1, by omega, by go_num, HI.out, hL⟩
        case measure => simp [intOf]; omega
    · have HI := Lib.hid (idxM_none (show m ∉ xs by rw [List.take_of_length_le (by omega)] at hn; exact hn))
      go_wp2
      go_ret
      exact ⟨ret_i HI.out.symm, hL.below⟩
theorem idxM_ge (xs : List Msg) (m : Msg) : decide (0 ≤ idxM xs m) = decide (m ∈ xs) := by
  by_cases h : m ∈ xs
  · rw [decide_eq_true h, decide_eq_true]; rw [idxM, if_pos h]; omega
  · rw [decide_eq_false h, idxM_none h]; rfl
theorem msg_contains (v : Value) (xs : List Msg) (m : Msg) (w : World) (h : encM.R w v xs) :
    Calls Try.prog 15 #[v, m.val] w fun e w' => e = .returned (.bool (decide (m ∈ xs))) ∧ Below w.heap.size w w' := by
  have hi := fun w1 (hb : Below w.heap.size w w1) => hide (msg_index v xs m w1 (h.below hb))
  have hL := Loc.nil w NoM
  go_enter Try.func15, Try.ntmps15
  go_wp2_with (first | ((with_reducible refine gAlloc rfl rfl ?_); (refine ev_allocL rfl hL rfl (by first | exact cells_agg _ rfl | exact cells_int _ _ | exact cells_str _ | exact cells_bool _ | exact cells_slice _ _ _ | exact cells_ptr _ | exact cells_map _ | exact cells_func _ _ _ | exact cells_nilFunc | exact cells_one (by assumption) (by assumption)) ?_; clear hL; intro g w hL)) | ((with_reducible refine gBox rfl rfl ?_); (refine ev_boxL rfl hL rfl rfl (by first | exact cells_agg _ rfl | exact cells_int _ _ | exact cells_str _ | exact cells_bool _ | exact cells_slice _ _ _ | exact cells_ptr _ | exact cells_map _ | exact cells_func _ _ _ | exact cells_nilFunc | exact cells_one (by assumption) (by assumption)) ?_; clear hL; intro g w hL)) | ((with_reducible refine gLoad rfl rfl ?_); (first | (refine ev_load1L rfl hL rfl rfl (by first | exact .head _ | exact .tail _ (.head _) | exact .tail _ (.tail _ (.head _)) | exact .tail _ (.tail _ (.tail _ (.head _))) | exact .tail _ (.tail _ (.tail _ (.tail _ (.head _)))) | exact .tail _ (.tail _ (.tail _ (.tail _ (.tail _ (.head _))))) | exact .tail _ (.tail _ (.tail _ (.tail _ (.tail _ (.tail _ (.head _)))))) | exact .tail _ (.tail _ (.tail _ (.tail _ (.tail _ (.tail _ (.tail _ (.head _))))))) | exact .tail _ (.tail _ (.tail _ (.tail _ (.tail _ (.tail _ (.tail _ (.tail _ (.head _))))))))) (by rfl) ?_) | (refine ev_loadAllL rfl hL rfl rfl (by first | exact .head _ | exact .tail _ (.head _) | exact .tail _ (.tail _ (.head _)) | exact .tail _ (.tail _ (.tail _ (.head _))) | exact .tail _ (.tail _ (.tail _ (.tail _ (.head _)))) | exact .tail _ (.tail _ (.tail _ (.tail _ (.tail _ (.head _))))) | exact .tail _ (.tail _ (.tail _ (.tail _ (.tail _ (.tail _ (.head _)))))) | exact .tail _ (.tail _ (.tail _ (.tail _ (.tail _ (.tail _ (.tail _ (.head _))))))) | exact .tail _ (.tail _ (.tail _ (.tail _ (.tail _ (.tail _ (.tail _ (.tail _ (.head _))))))))) (by rfl) ?_) | (refine ev_loadL rfl hL rfl rfl (by first | exact .head _ | exact .tail _ (.head _) | exact .tail _ (.tail _ (.head _)) | exact .tail _ (.tail _ (.tail _ (.head _))) | exact .tail _ (.tail _ (.tail _ (.tail _ (.head _)))) | exact .tail _ (.tail _ (.tail _ (.tail _ (.tail _ (.head _))))) | exact .tail _ (.tail _ (.tail _ (.tail _ (.tail _ (.tail _ (.head _)))))) | exact .tail _ (.tail _ (.tail _ (.tail _ (.tail _ (.tail _ (.tail _ (.head _))))))) | exact .tail _ (.tail _ (.tail _ (.tail _ (.tail _ (.tail _ (.tail _ (.tail _ (.head _))))))))) (by repeat (first | exact .nil _ | with_reducible apply Seg.take | with_reducible apply Seg.skip)) ?_))) | ((with_reducible refine gStore rfl rfl ?_); (refine ev_storeL rfl hL rfl rfl rfl (by first | exact cells_agg _ rfl | exact cells_int _ _ | exact cells_str _ | exact cells_bool _ | exact cells_slice _ _ _ | exact cells_ptr _ | exact cells_map _ | exact cells_func _ _ _ | exact cells_nilFunc | exact cells_one (by assumption) (by assumption)) (by rfl) (by first | exact .here _ | exact .there _ (.here _) | exact .there _ (.there _ (.here _)) | exact .there _ (.there _ (.there _ (.here _))) | exact .there _ (.there _ (.there _ (.there _ (.here _)))) | exact .there _ (.there _ (.there _ (.there _ (.there _ (.here _))))) | exact .there _ (.there _ (.there _ (.there _ (.there _ (.there _ (.here _)))))) | exact .there _ (.there _ (.there _ (.there _ (.there _ (.there _ (.there _ (.here _)))))))) (by first | exact SetAt.all rfl | repeat (first | exact .nil _ | with_reducible apply SetAt.put | with_reducible apply SetAt.skip)) ?_; clear hL; intro w hL)) | ((with_reducible refine gLoadG rfl rfl ?_ ?_); (exact wanted_some rfl rfl rfl (by with_reducible rfl)); (first | (refine ev_load1G (wanted_some rfl rfl rfl rfl) hL rfl rfl (by first | exact .head _ | exact .tail _ (.head _) | exact .tail _ (.tail _ (.head _)) | exact .tail _ (.tail _ (.tail _ (.head _))) | exact .tail _ (.tail _ (.tail _ (.tail _ (.head _)))) | exact .tail _ (.tail _ (.tail _ (.tail _ (.tail _ (.head _))))) | exact .tail _ (.tail _ (.tail _ (.tail _ (.tail _ (.tail _ (.head _)))))) | exact .tail _ (.tail _ (.tail _ (.tail _ (.tail _ (.tail _ (.tail _ (.head _))))))) | exact .tail _ (.tail _ (.tail _ (.tail _ (.tail _ (.tail _ (.tail _ (.tail _ (.head _))))))))) (by rfl) ?_) | (refine ev_loadAllG (wanted_some rfl rfl rfl rfl) hL rfl rfl (by first | exact .head _ | exact .tail _ (.head _) | exact .tail _ (.tail _ (.head _)) | exact .tail _ (.tail _ (.tail _ (.head _))) | exact .tail _ (.tail _ (.tail _ (.tail _ (.head _)))) | exact .tail _ (.tail _ (.tail _ (.tail _ (.tail _ (.head _))))) | exact .tail _ (.tail _ (.tail _ (.tail _ (.tail _ (.tail _ (.head _)))))) | exact .tail _ (.tail _ (.tail _ (.tail _ (.tail _ (.tail _ (.tail _ (.head _))))))) | exact .tail _ (.tail _ (.tail _ (.tail _ (.tail _ (.tail _ (.tail _ (.tail _ (.head _))))))))) (by rfl) ?_) | (refine ev_loadG_ (wanted_some rfl rfl rfl rfl) hL rfl rfl (by first | exact .head _ | exact .tail _ (.head _) | exact .tail _ (.tail _ (.head _)) | exact .tail _ (.tail _ (.tail _ (.head _))) | exact .tail _ (.tail _ (.tail _ (.tail _ (.head _)))) | exact .tail _ (.tail _ (.tail _ (.tail _ (.tail _ (.head _))))) | exact .tail _ (.tail _ (.tail _ (.tail _ (.tail _ (.tail _ (.head _)))))) | exact .tail _ (.tail _ (.tail _ (.tail _ (.tail _ (.tail _ (.tail _ (.head _))))))) | exact .tail _ (.tail _ (.tail _ (.tail _ (.tail _ (.tail _ (.tail _ (.tail _ (.head _))))))))) (by repeat (first | exact .nil _ | with_reducible apply Seg.take | with_reducible apply Seg.skip)) ?_))) | (go_at_call 31; (with_reducible refine (unhide (hi _ hL.below)).mono ?_); rintro e w1 ⟨rfl, hb1⟩; have hL := hL.call hb1))
  go_ret
  exact ⟨ret_b (idxM_ge xs m), hL.below⟩

/-- A net as an item. -/
def netI (base gn : Nat) (v : Value) (L : List Msg) (s l : Int) : Item := ⟨fun k => k = gn ∨ v.ownBlock = some k, fun w => NetAt w base gn v L s l⟩
theorem netI_at {w : World} {base gn : Nat} {v : Value} {L : List Msg} {s l : Int} (h : NetAt w base gn v L s l) : (netI base gn v L s l).At w := by
  refine ⟨h, fun k hk => ?_, fun w' hz hb => ?_⟩
  · rcases hk with rfl | hk
    · exact h.box.lt
    · exact h.row_lt k hk
  · have hr := (row_at h.own).stay w' hz fun k hk => hb k (.inr hk)
    exact ⟨(hb gn (.inl rfl)).trans h.box, hr, h.ge, h.ne, h.ok, h.len⟩
theorem Loc.netTo {w0 w w1 : World} {M : Nat → Prop} {l : List Item} {base gn : Nat} {v : Value} {L L' : List Msg} {s t s' t' : Int} {f : Value → List Item} (h : Loc w0 M w l) (hs : ∀ v', Swap (netI base gn v L s t) (netI base gn v' L' s' t') l (f v'))
    (ht : NetTo w w1 base gn v L' s' t') : ∃ v', Loc w0 M w1 (f v') := by
  obtain ⟨v', hN, F, hv⟩ := ht
  refine ⟨v', h.swap (hs v') ⟨F.os, F.tape, F.output, F.size, fun k hk hn => F.block k hk (fun e => hn (.inl e)) (fun e => hn (.inr e.symm))⟩ (netI_at hN) fun k hk => ?_⟩
  rcases hk with rfl | hk
  · exact .inl (.inl rfl)
  · rcases hv k hk with h1 | h1
    · exact .inl (.inr h1)
    · exact .inr h1
theorem Loc.netNew {w0 w w1 : World} {M : Nat → Prop} {l : List Item} {base gn : Nat} {v : Value} {L : List Msg} {s t : Int} (h : Loc w0 M w l) (hb : Below w.heap.size w w1) (hN : NetAt w1 base gn v L s t) (hbase : w.heap.size ≤ base) : Loc w0 M w1 (netI base gn v L s t :: l) :=
  h.callNew hb (netI_at hN) fun k hk => by
    rcases hk with rfl | hk
    · exact Nat.le_trans hbase hN.ge
    · exact Nat.le_trans hbase (hN.row_ge k hk)
theorem Loc.net {w0 w : World} {M : Nat → Prop} {l : List Item} {base gn : Nat} {v : Value} {L : List Msg} {s t : Int} (h : Loc w0 M w l) (hm : netI base gn v L s t ∈ l) : NetAt w base gn v L s t := h.get hm
/-- A row that is not there yet. -/
theorem Loc.nilRow {α : Type} {w0 w : World} {M : Nat → Prop} {l : List Item} (h : Loc w0 M w l) (E : Enc α) (base : Nat) (e : TypeId) : Loc w0 M w (row E base e (.slice none 0 0) [] :: l) :=
  h.callNew (Below.refl _ _) (row_at (Enc.O.none _ _ _)) fun k hk => by cases hk

def Sup (L xs : List Msg) : Prop := ∀ m ∈ L, m ∈ xs
theorem Dod.segM (d : Dod) : Seg d.cells 2 19 d.m.cells := .skip (.skip (Seg.of rfl (Nat.le_refl _)))
/-- What a step gives, if all that is there was sent. -/
theorem St.sent_step (s : St) (d : Dod) (xs : List Msg) (h : Sup s.L xs) (hd : d.o < 4 → d.m ∈ xs) (ho : 0 ≤ d.o ∧ d.o < 8) : Sup (s.step d).1.L xs ∧ (4 ≤ d.o → d.o ≤ 5 → (s.step d).2.2 = 0 → (s.step d).2.1 ∈ s.L) := by
  have get : ∀ k, s.has k = true → s.get k ∈ s.L := by
    intro k hk
    simp [St.has] at hk
    have hl : k.toNat < s.L.length := by omega
    rw [St.get, List.getD_eq_getElem?_getD, List.getElem?_eq_getElem hl]
    exact List.getElem_mem hl
  have cut : ∀ k, Sup (s.cut k) xs := fun k m hm => by
    rcases List.mem_append.1 hm with hm | hm
    · exact h m (List.mem_of_mem_take hm)
    · exact h m (List.mem_of_mem_drop hm)
  unfold St.step
  by_cases o4 : d.o = 4
  · by_cases hp : s.has d.k <;> simp [o4, hp, h, get]
  by_cases o5 : d.o = 5
  · by_cases hp : s.has d.k
    · simp [o5, hp, get, cut]
    · simp [o5, hp, h]
  by_cases o6 : d.o = 6
  · by_cases hp : s.has d.k
    · simp [o6, hp, cut]
    · simp [o6, hp, h]
  by_cases o7 : d.o = 7
  · by_cases hp : s.has d.k
    · by_cases hl : s.L.length < 160
      · refine ⟨?_, fun _ h => by omega⟩
        simp only [o7, hp, hl, if_true, if_false]
        intro m hm
        rcases List.mem_append.1 hm with hm | hm
        · exact h m hm
        · rw [List.mem_singleton.1 hm]; exact h _ (get _ hp)
      · simp [o7, hp, hl, h]
    · simp [o7, hp, h]
  have h4 : d.o < 4 := by omega
  refine ⟨?_, fun h _ => by omega⟩
  by_cases hm : d.m.ok
  · by_cases hl : s.L.length < 160
    · simp only [o4, o5, o6, o7, hm, hl, if_true, if_false]
      intro m hm'
      rcases List.mem_append.1 hm' with h1 | h1
      · exact h m h1
      · rw [List.mem_singleton.1 h1]; exact hd h4
    · simp [o4, o5, o6, o7, hm, hl, h]
  · simp [o4, o5, o6, o7, hm, h]
theorem o_range (d : Dod) : 0 ≤ d.o ∧ d.o < 8 := by
  unfold Dod.o
  show 0 ≤ IntKind.i64.wrap ((BitVec.ofInt 64 d.op &&& BitVec.ofInt 64 7).toNat : Int) ∧ IntKind.i64.wrap ((BitVec.ofInt 64 d.op &&& BitVec.ofInt 64 7).toNat : Int) < 8
  have h : (BitVec.ofInt 64 d.op &&& BitVec.ofInt 64 7).toNat < 8 := by
    rw [BitVec.toNat_and]
    have : (BitVec.ofInt 64 7).toNat = 7 := by decide
    rw [this]
    have := Nat.and_le_right (n := (BitVec.ofInt 64 d.op).toNat) (m := 7)
    omega
  rw [IntKind.wrap_i64]
  omega
end Go.Proofs.Ytbkffeabikjnhaa
