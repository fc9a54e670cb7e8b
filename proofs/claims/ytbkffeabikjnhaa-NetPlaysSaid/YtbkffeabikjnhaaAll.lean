/- NetAll walked. -/
import Derived.Test.YtbkffeabikjnhaaShort
namespace Go.Proofs.Ytbkffeabikjnhaa
open Go.RowKit

def hit (o k c : Int) : Int := if o = k ∧ c = 0 then 1 else 0
theorem St.count (s : St) (d : Dod) : ((s.step d).1.L.length : Int) - (s.step d).1.sent + (s.step d).1.lost = (s.L.length : Int) - s.sent + s.lost + hit d.o 7 (s.step d).2.2 - hit d.o 5 (s.step d).2.2 := by
  have cut : ∀ k, s.has k = true → ((s.cut k).length : Int) = s.L.length - 1 := by
    intro k hk
    simp [St.has] at hk
    simp only [St.cut, List.length_append, List.length_take, List.length_drop]
    omega
  unfold St.step hit
  by_cases o4 : d.o = 4
  · by_cases hp : s.has d.k <;> simp [o4, hp]
  by_cases o5 : d.o = 5
  · by_cases hp : s.has d.k
    · simp only [o5, hp]; simp; have := cut _ hp; omega
    · simp [o5, hp]
  by_cases o6 : d.o = 6
  · by_cases hp : s.has d.k
    · simp only [o6, hp]; simp; have := cut _ hp; omega
    · simp [o6, hp]
  by_cases o7 : d.o = 7
  · by_cases hp : s.has d.k
    · by_cases hl : s.L.length < 160
      · simp [o7, hp, hl]; omega
      · simp [o7, hp, hl]
    · simp [o7, hp]
  by_cases hm : d.m.ok
  · by_cases hl : s.L.length < 160
    · simp [o4, o5, o6, o7, hm, hl]; omega
    · simp [o4, o5, o6, o7, hm, hl]; omega
  · simp [o4, o5, o6, o7, hm]

theorem dod_arr (d : Dod) : d.cells.toArray = d.arr := rfl
theorem oneDod (d : Dod) : ∀ u ∈ d.arr.toList, u.oneCell' = true := by simp [Value.oneCell']
theorem zeroDo : (Try.prog.info? 34).map (·.zero) = some (some (.agg (⟨0, 0, Msg.zero⟩ : Dod).arr)) := by kernel_rfl
theorem rangeAt_below {w w1 : World} {g off : Nat} {cs : List Value} (h : w.rangeAt g off cs) (hb : Below w.heap.size w w1) : w1.rangeAt g off cs := fun j v hj => by
  have h1 := h j v hj
  exact (hb.cell (World.block_lt_of_cell? w _ h1)).trans h1
theorem net_all (v : Value) (ds : List Dod) (w : World) (h : encD.R w v ds) :
    Calls Try.prog 3 #[v] w fun e w' => e = .returned (.bool true) ∧ Below w.heap.size w w' := by
  have hsh := hide (law_short v ds w h)
  have haw := fun w => hide (law_awake w)
  have HR := hide h
  obtain ⟨ao, c, rfl, -⟩ := R_at h
  clear h
  go_enter Try.func3, Try.ntmps3
  go_wp2_with (first
    | (go_at_call 7; (with_reducible refine (unhide hsh).mono ?_); rintro e w1 ⟨⟨b, rfl, hb⟩, rfl⟩; refine stop ?_))
  unfold Stop
  cases b with
  | false =>
    go_wp2_with (first
      | (go_at_call 8; (with_reducible refine (unhide (haw w)).mono ?_); rintro e w1 ⟨rfl, hb1⟩))
    go_ret
    exact ⟨rfl, hb1⟩
  | true =>
    have hlen := hb rfl
    clear hb
    go_wp2_with (first
      | (go_at_call 9; (with_reducible refine (net_new w).mono ?_); rintro e w1 ⟨gn, v1, rfl, h1, hb1⟩))
    go_loopw [4, 5, 20] (fun t u i wr => ∃ (j : Nat) (s : St) (vn : Value) (a b : Int), j ≤ ds.length ∧ i = .int .i64 j ∧ t = .int .i64 a ∧ u = .int .i64 b ∧ NetAt wr w.heap.size gn vn s.L s.sent s.lost ∧ Below w.heap.size w wr ∧
      0 ≤ s.sent ∧ s.sent ≤ j ∧ 0 ≤ s.lost ∧ s.lost ≤ j ∧ 0 ≤ a ∧ a ≤ j ∧ 0 ≤ b ∧ b ≤ j ∧ (s.L.length : Int) - s.sent + s.lost = b - a) (fun _ _ i _ => ds.length - (intOf i).toNat)
    case atStart => exact ⟨0, ⟨[], 0, 0⟩, v1, 0, 0, by omega, rfl, rfl, rfl, h1, hb1, by decide, by decide, by decide, by decide, by decide, by decide, by decide, by decide, by decide⟩
    case round =>
      obtain ⟨j, s, vn, a, b, hj, rfl, rfl, rfl, hN, hB, s0, s1, l0, l1, a0, a1, b0, b1, hc⟩ := hrel
      by_cases hlt : j < ds.length
      · have HRj := (R_at (unhide HR))
        obtain ⟨ao', c', e0, hat⟩ := HRj
        obtain ⟨g, off, e1, hr⟩ := hat j hlt
        subst e1
        injection e0 with e2 e3 e4
        subst e2
        subst e4
        clear hat e3
        have hbd := s.bounds ds[j]
        have hct := s.count ds[j]
        generalize hd : ds[j] = d at *
        clear hd
        have hrW := rangeAt_below hr hB
        clear hr
        go_wp2_with (first
          | ((with_reducible refine gate (N := 22) rfl ?_); refine ev_index0 rfl 22 (.tmp 18) (.tmp 20) rfl rfl rfl Try.underlying22 sizeDo hlt ?_)
          | ((with_reducible refine gate (N := 23) rfl ?_); refine wpList_load_mid rfl 34 (.tmp 22) rfl g _ rfl d.cells _ hrW Try.underlying34 rfl sizeDo ?_)
          | ((with_reducible refine gate (N := 7) rfl ?_); refine ev_alloc rfl 34 rfl (cs := (⟨0, 0, Msg.zero⟩ : Dod).arr) zeroDo ?_; intro g7 w7 hx7 hb7 hg7 hl7; refine stop ?_))
        unfold Stop
        refine ev_setAll rfl 34 (.tmp 7) (.tmp 23) rfl rfl (vs := d.arr) hx7 rfl (oneDod d) sizeDo rfl ?_
        intro w8 hx8 hp8
        have ltn := hN.box.lt
        have hN8 := (hN.below hb7).of_put hp8 (by omega) (fun e => by have h2 := hN.row_lt _ e; omega)
        have hs0 := hB.size
        have HB8 := Put.below (bl_then hB hb7) hp8 (by omega)
        have hdo := hide (law_does w8 w.heap.size gn vn s d hN8 (by omega) (by omega) (by omega) (by omega))
        have hnx := fun w2 => NetTo.next (w2 := w2) HB8 hN8 (L := (s.step d).1.L) (s := (s.step d).1.sent) (l := (s.step d).1.lost)
        have hkp := (turn_net hN (s.step d).1.L (s.step d).1.sent (s.step d).1.lost).keep
        clear hx7 hb7 hp8 hrW hN
        generalize (s.step d).1 = s' at *
        generalize (s.step d).2.1 = rm at *
        generalize (s.step d).2.2 = err at *
        go_wp2_with (first
          | ((with_reducible refine gate (N := 26) rfl ?_); refine ev_load rfl 34 (.tmp 7) rfl rfl hx8 aggDo sizeDo ?_)
          | (go_at_call 10; (with_reducible refine (unhide hdo).mono ?_); rintro e w9 ⟨rfl, ht9⟩)
          | ((with_reducible refine gate (N := 8) rfl ?_); refine ev_alloc rfl 32 rfl (cs := Msg.zero.arr) zeroMsg ?_; intro g8 wA hxA hbA hgA hlA; refine stop ?_))
        unfold Stop
        refine ev_setAll rfl 32 (.tmp 8) (.tmp 28) rfl rfl (vs := rm.arr) hxA rfl (oneMsg _) sizeMsg rfl ?_
        intro wC hxC hpC
        have hx9 := hkp _ _ _ _ _ ht9 hg7 hx8
        obtain ⟨v9, h9, hb9⟩ := hnx w9 ht9
        have n78 : g7 ≠ g8 := by have := hx9.lt; omega
        have hxC7 := (hx9.below hbA).put hpC n78
        have hsz9 := hb9.size
        have lt9 := h9.box.lt
        have hNC := (h9.below hbA).of_put hpC (by omega) (fun e => by have h2 := h9.row_lt _ e; omega)
        have HBC := Put.below (bl_then hb9 hbA) hpC (by omega)
        have c0 : wC.cell? ⟨g7, 0, none⟩ = some (.int .i64 d.op) := hxC7.cell 0
        clear hkp hnx ht9 hx8 hx9 h9 hb9 hxA hbA hpC hxC hdo hN8 HB8 hxC7 hgA hlA
        obtain ⟨o, ho⟩ : ∃ o, bits .and .i64 d.op 7 = o := ⟨_, rfl⟩
        have ho' : d.o = o := ho
        rw [ho'] at hct
        clear ho'
        have NN := hide hNC
        have HH := hide HBC
        clear hNC HBC
        by_cases e0 : err = 0
        · subst e0
          by_cases o5 : o = 5
          · subst o5
            simp [hit] at hct
            go_wp2
            go_roundw
            case rel => exact ⟨j + 1, s', v9, a + 1, b, by omega, by go_num, by go_num, by go_num, unhide NN, unhide HH, by omega, by omega, by omega, by omega, by omega, by omega, by omega, by omega, by omega⟩
            case measure => simp [intOf]; omega
          · have b5 : (o == 5) = false := by simp [o5]
            by_cases o7 : o = 7
            · subst o7
              simp [hit] at hct
              go_wp2
              go_roundw
              case rel => exact ⟨j + 1, s', v9, a, b + 1, by omega, by go_num, by go_num, by go_num, unhide NN, unhide HH, by omega, by omega, by omega, by omega, by omega, by omega, by omega, by omega, by omega⟩
              case measure => simp [intOf]; omega
            · have b7 : (o == 7) = false := by simp [o7]
              simp [hit, o5, o7] at hct
              go_wp2
              go_roundw
              case rel => exact ⟨j + 1, s', v9, a, b, by omega, by go_num, by go_num, by go_num, unhide NN, unhide HH, by omega, by omega, by omega, by omega, by omega, by omega, by omega, by omega, by omega⟩
              case measure => simp [intOf]; omega
        · have be : (err == 0) = false := by simp [e0]
          by_cases o5 : o = 5
          · subst o5
            simp [hit, e0] at hct
            go_wp2
            go_roundw
            case rel => exact ⟨j + 1, s', v9, a, b, by omega, by go_num, by go_num, by go_num, unhide NN, unhide HH, by omega, by omega, by omega, by omega, by omega, by omega, by omega, by omega, by omega⟩
            case measure => simp [intOf]; omega
          · have b5 : (o == 5) = false := by simp [o5]
            by_cases o7 : o = 7
            · subst o7
              simp [hit, e0] at hct
              go_wp2
              go_roundw
              case rel => exact ⟨j + 1, s', v9, a, b, by omega, by go_num, by go_num, by go_num, unhide NN, unhide HH, by omega, by omega, by omega, by omega, by omega, by omega, by omega, by omega, by omega⟩
              case measure => simp [intOf]; omega
            · have b7 : (o == 7) = false := by simp [o7]
              simp [hit, e0] at hct
              go_wp2
              go_roundw
              case rel => exact ⟨j + 1, s', v9, a, b, by omega, by go_num, by go_num, by go_num, unhide NN, unhide HH, by omega, by omega, by omega, by omega, by omega, by omega, by omega, by omega, by omega⟩
              case measure => simp [intOf]; omega
      · have hl := hN.len
        have hcn := hide (net_count wr w.heap.size gn vn s.L s.sent s.lost hN)
        have hd1 : decide ((s.L.length : Int) ≤ 160) = true := by simp; omega
        have heq : ((s.L.length : Int) == s.sent + b - a - s.lost) = true := by simp; omega
        clear hN
        go_wp2_with (first
          | (go_at_call 11; (with_reducible refine (unhide hcn).mono ?_); rintro e w3 ⟨rfl, hb3⟩)
          | (go_at_call 8; (with_reducible refine (unhide (haw w3)).mono ?_); rintro e w4 ⟨rfl, hb4⟩))
        go_ret
        exact ⟨rfl, bl_then hB (bl_then hb3 hb4)⟩
end Go.Proofs.Ytbkffeabikjnhaa
