/- A net that no call made: one step; and a literal slice. -/
import Derived.Test.YtbkffeabikjnhaaAll
namespace Go.Proofs.Ytbkffeabikjnhaa
open Go.RowKit

section
variable {P : Program} {ops : Array Oper} {rest : List Oper} {o : Oper} {a : Act} {Q : Exit → Act → World → Prop} {W : World}
/-- A slice made of its parts. -/
theorem ev_lit (hgd : o.guard = none) (t : TypeId) (n : Nat) (parts : Array (Nat × Operand)) (ho : o.op = .buildSlice t n parts) {e : TypeId} (ht : P.underlying t = some (.slice e)) {sz : Nat} {z : Value} (hinfo : (P.info? e).map (fun i => (i.size, i.zero)) = some (sz, some z))
    (hn : decide (n * sz ≤ 16777216) = true) (h0 : decide (0 < n * sz) = true) {cs : Array Value} (hfill : Instr.fill (fun i => some (i * sz, sz)) ((Array.range (n * sz)).map fun j => z.cells[j % z.cells.size]!) (parts.map fun (i, x) => (i, a.eval x)).toList = some cs)
    (h : ∀ g w1, Box w1 g cs e → Below W.heap.size W w1 → W.heap.size ≤ g → g < w1.heap.size → wpList P ops Q rest (a.put o.dst (.slice (some ⟨g, 0, none⟩) n n)) w1) : wpList P ops Q (o :: rest) a W := by
  refine event hgd (v := .slice (some ⟨W.heap.size, 0, none⟩) n n) (w1 := W.alloc (.cells cs e)) ?_ (h _ _ (Box.new W cs e) (bl_alloc (Below.refl _ _) _) (Nat.le_refl _) (by simp))
  obtain ⟨i, hi, hzz⟩ := Option.map_eq_some_iff.1 hinfo
  injection hzz with hs hz
  have h1 : ¬ n * sz > 2 ^ 24 := by have := of_decide_eq_true hn; omega
  have h2 : ¬ n * sz = 0 := by have := of_decide_eq_true h0; omega
  simp at hfill
  simp [execOp, ho, Instr.buildSlice, run_underlying ht, sizeOf, typeInfo, hi, hs, zeroValue, hz, h1, h2, hfill, newRow]
end

theorem law_does_off (w : World) (x : Value) (d : Dod) (h : NetOff w x) :
    Calls Try.prog 10 #[x, d.val] w fun e w' => e = .returned (.tuple #[Msg.zero.val, .int .i64 200]) ∧ Below w.heap.size w w' := by
  have hT := turn_below w
  have hb := fun w1 (hb : Below w.heap.size w w1) => h.below hb
  by_cases o4 : d.o = 4
  · exact does4 (T := fun a b => Below a.heap.size a b) x d _ 200 w hT o4 fun w1 hb1 => net_peek_off w1 x d.k (hb w1 hb1)
  by_cases o5 : d.o = 5
  · exact does5 (T := fun a b => Below a.heap.size a b) x d _ 200 w hT o5 fun w1 hb1 => net_take_no w1 x d.k 200 (by decide) (fun w2 hb2 => net_at_off w2 x d.k (hb w2 (bl_then hb1 hb2))) (fun w2 hb2 => net_peek_off w2 x d.k (hb w2 (bl_then hb1 hb2)))
  by_cases o6 : d.o = 6
  · exact does6 (T := fun a b => Below a.heap.size a b) x d 200 w hT o6 fun w1 hb1 => net_lose_no w1 x d.k 200 (by decide) (net_take_no w1 x d.k 200 (by decide) (fun w2 hb2 => net_at_off w2 x d.k (hb w2 (bl_then hb1 hb2))) (fun w2 hb2 => net_peek_off w2 x d.k (hb w2 (bl_then hb1 hb2))))
  by_cases o7 : d.o = 7
  · exact does7 (T := fun a b => Below a.heap.size a b) x d 200 w hT o7 fun w1 hb1 => net_double_no w1 x d.k 200 (by decide) (net_at_off w1 x d.k (hb w1 hb1))
  · exact does0 (T := fun a b => Below a.heap.size a b) x d 200 w hT d.o rfl (by simp [o4]) (by simp [o5]) (by simp [o6]) (by simp [o7]) fun w1 hb1 => net_send_off w1 x d.m (hb w1 hb1)
theorem infoDo : (Try.prog.info? 34).map (fun i => (i.size, i.zero)) = some (21, some (.agg (⟨0, 0, Msg.zero⟩ : Dod).arr)) := by kernel_rfl
theorem infoPN : (Try.prog.info? 25).map (fun i => (i.size, i.zero)) = some (1, some (.pointer none)) := by kernel_rfl
theorem sizePN : (Try.prog.info? 25).map (·.size) = some 1 := by kernel_rfl
/-- A list of one. -/
theorem one_dod {w : World} {g : Nat} (d : Dod) (h : Box w g d.arr 34) : encD.R w (.slice (some ⟨g, 0, none⟩) 1 1) [d] := by
  refine ⟨by rw [Enc.all_length], some ⟨g, 0, none⟩, 1, rfl, Nat.le_refl _, by simp, .inr ⟨_, rfl, fun j u hj => ?_⟩⟩
  rw [addr0, h.cell j]
  rw [Enc.all_one_elem] at hj
  have e : d.arr[j]? = (d.arr.toList)[j]? := by rw [Array.getElem?_toList]
  rw [e]; exact hj
abbrev zeroArr : Array Value := #[.int .i64 0, .int .i64 0, .int .i64 0, .int .i64 0, .int .i64 0, .int .i64 0, .int .i64 0, .int .i64 0, .int .i64 0, .int .i64 0, .int .i64 0, .int .i64 0, .int .i64 0, .int .i64 0, .int .i64 0, .int .i64 0, .int .i64 0, .int .i64 0, .string ⟨#[]⟩]
set_option maxHeartbeats 1000000 in
set_option maxRecDepth 100000 in
theorem net_nobody (d : Dod) (w : World) :
    Calls Try.prog 5 #[d.val] w fun e w' => e = .returned (.bool true) ∧ Below w.heap.size w w' := by
  have haw := fun w => hide (law_awake w)
  have hdo := fun w x h => hide (law_does_off w x d h)
  have hnz : ∀ w, (binOp .neq 32 (.agg zeroArr) (.agg zeroArr)).run Try.prog w = .ok (.bool false) w := fun w => by have h := msg_neq Msg.zero Msg.zero w; simp at h; exact h
  go_enter Try.func5, Try.ntmps5
  go_wp2_with (first
    | ((with_reducible refine gate (N := 1) rfl ?_); refine ev_box rfl 34 (.tmp 0) rfl (cs := d.arr) rfl ?_; intro g1 w1 hx1 hb1 hg1 hl1)
    | ((with_reducible refine gate (N := 10) rfl ?_); refine ev_load rfl 34 (.tmp 1) rfl rfl hx1 aggDo sizeDo ?_)
    | ((with_reducible refine gate (N := 11) rfl ?_); refine ev_lit rfl 22 1 _ rfl Try.underlying22 infoDo rfl rfl (cs := d.arr) (by kernel_rfl) ?_; intro g2 w2 hx2 hb2 hg2 hl2; have hR2 := one_dod d hx2)
    | (go_at_call 7; (with_reducible refine (law_short _ [d] w2 hR2).mono ?_); rintro e w3 ⟨⟨b, rfl, hb⟩, rfl⟩; refine stop ?_))
  unfold Stop
  have hx12 := hx1.below hb2
  have HB2 := bl_then hb1 hb2
  clear hx1 hb1 hb2 hx2 hR2 hb
  cases b with
  | false =>
    go_wp2_with (first
      | (go_at_call 8; (with_reducible refine (unhide (haw w2)).mono ?_); rintro e w4 ⟨rfl, hb4⟩))
    go_ret
    exact ⟨rfl, bl_then HB2 hb4⟩
  | true =>
    go_wp2_with (first
      | ((with_reducible refine gate (N := 16) rfl ?_); refine ev_box rfl 48 (.tmp 15) rfl (cs := #[.slice none 0 0, .int .i64 0, .int .i64 0, .bool false]) rfl ?_; intro g3 w3 hx3 hb3 hg3 hl3)
      | ((with_reducible refine gate (N := 17) rfl ?_); refine ev_lit rfl 49 2 _ rfl Try.underlying49 infoPN rfl rfl (cs := #[.pointer none, ptr g3]) (by kernel_rfl) ?_; intro g4 w4 hx4 hb4 hg4 hl4))
    have hx34 := hx3.below hb4
    have hx14 := (hx12.below hb3).below hb4
    have HB4 := bl_then HB2 (bl_then hb3 hb4)
    clear hx3 hx12 hb3 hb4 HB2 hg1 hl1 hg2 hl2 hg3 hl3 hg4 hl4
    go_loopw [19] (fun i wr => ∃ j : Nat, j ≤ 2 ∧ i = .int .i64 j ∧ Below w4.heap.size w4 wr) (fun i _ => 2 - (intOf i).toNat)
    case atStart => exact ⟨0, by omega, rfl, Below.refl _ _⟩
    case round =>
      obtain ⟨j, hj, rfl, hB⟩ := hrel
      by_cases hlt : j < 2
      · have hx : ∃ x, NetOff wr x ∧ wr.cell? ⟨g4, j, none⟩ = some x := by
          have hc := (hx4.below hB).cell j
          rcases (by omega : j = 0 ∨ j = 1) with rfl | rfl
          · exact ⟨_, .inl rfl, hc⟩
          · exact ⟨_, .inr ⟨g3, rfl, hx34.below hB⟩, hc⟩
        obtain ⟨x, hN, hc⟩ := hx
        have hx1r := hx14.below hB
        have hD := hide hdo
        clear hdo
        go_wp2_with (first
          | ((with_reducible refine gate (N := 21) rfl ?_); refine ev_index rfl 49 (.tmp 17) (.tmp 19) rfl rfl rfl Try.underlying49 sizePN hlt ?_; rw [Nat.mul_one])
          | ((with_reducible refine gate (N := 25) rfl ?_); refine ev_load rfl 34 (.tmp 1) rfl rfl hx1r aggDo sizeDo ?_)
          | (go_at_call 10; (with_reducible refine (unhide ((unhide hD) wr x hN)).mono ?_); rintro e w5 ⟨rfl, hb5⟩; have hN5 := hN.below hb5)
          | ((with_reducible refine gate (N := 5) rfl ?_); refine ev_alloc rfl 32 rfl (cs := Msg.zero.arr) zeroMsg ?_; intro g6 w6 hx6 hb6 hg6 hl6; have hN6 := hN5.below hb6; refine stop ?_))
        unfold Stop
        refine ev_setAll rfl 32 (.tmp 5) (.tmp 27) rfl rfl (vs := zeroArr) hx6 rfl (oneMsg Msg.zero) sizeMsg rfl ?_
        intro w7 hx7 hp7
        have HB7 := Put.below (bl_then (bl_then hB hb5) hb6) hp7 (by have := hB.size; have := hb5.size; omega)
        have hN7 : NetOff w7 x := by
          rcases hN6 with rfl | ⟨gn, rfl, h6⟩
          · exact .inl rfl
          · refine .inr ⟨gn, rfl, h6.put hp7 (fun e => ?_)⟩
            rcases hN5 with h5 | ⟨gn', h5, h5'⟩
            · cases h5
            · injection h5 with h5; injection h5 with h5; injection h5 with h5; have := h5'.lt; omega
        clear hx6 hb5 hb6 hp7 hN6 hN5 hN hx1r hc hB
        go_wp2_with (first
          | (go_at_call 11; (with_reducible refine (net_count_off w7 x hN7).mono ?_); rintro e w8 ⟨rfl, hb8⟩; have hx8 := hx7.below hb8; have hN8 := hN7.below hb8)
          | ((with_reducible refine gate (N := 35) rfl ?_); refine ev_load rfl 32 (.tmp 5) rfl rfl hx8 aggMsg sizeMsg ?_)
          | (go_at_call 12; (with_reducible refine (net_clone_off w8 x hN8).mono ?_); rintro e w9 ⟨rfl, rfl⟩))
        go_roundw
        case rel => exact ⟨j + 1, by omega, by go_num, bl_then HB7 hb8⟩
        case measure => simp [intOf]; omega
      · obtain rfl : j = 2 := by omega
        go_wp2_with (first
          | (go_at_call 8; (with_reducible refine (unhide (haw wr)).mono ?_); rintro e w5 ⟨rfl, hb5⟩))
        go_ret
        exact ⟨rfl, bl_then (bl_then HB4 hB) hb5⟩
end Go.Proofs.Ytbkffeabikjnhaa
