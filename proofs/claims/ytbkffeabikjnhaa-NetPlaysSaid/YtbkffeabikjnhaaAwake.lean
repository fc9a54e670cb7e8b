/- The law's own functions over a net: awake, the example. -/
import Derived.Test.YtbkffeabikjnhaaDo3
namespace Go.Proofs.Ytbkffeabikjnhaa
open Go.RowKit

theorem NetTo.next {w0 w1 w2 : World} {gn : Nat} {v : Value} {L0 L : List Msg} {s0 l0 s l : Int} (hb : Below w0.heap.size w0 w1) (h : NetAt w1 w0.heap.size gn v L0 s0 l0) (ht : NetTo w1 w2 w0.heap.size gn v L s l) :
    ∃ v', NetAt w2 w0.heap.size gn v' L s l ∧ Below w0.heap.size w0 w2 := by
  obtain ⟨v', hN, F, -⟩ := ht
  exact ⟨v', hN, F.below hb h.ge (fun k hk => h.row_ge k hk)⟩
abbrev msgTo (k : Int) : Msg := ⟨3, 0, k, 0, ⟨0, 0⟩, ⟨0, 0⟩, 0, 0, ⟨0, 0, 0, 0, 0, 0, 0, 0⟩, ⟨#[]⟩⟩
theorem ok1 : (msgTo 1).ok = true := by decide
theorem ok2 : (msgTo 2).ok = true := by decide
theorem law_awake (w : World) :
    Calls Try.prog 8 #[] w fun e w' => e = .returned (.bool true) ∧ Below w.heap.size w w' := by
  go_enter Try.func8, Try.ntmps8
  go_wp2_with (first
    | (go_at_call 9; (with_reducible refine (net_new w).mono ?_); rintro e w1 ⟨gn, v1, rfl, h1, hb1⟩)
    | (go_at_call 18; (with_reducible refine (law_same 1 w1).mono ?_); rintro e w2 ⟨rfl, hb2⟩; have h2 := h1.below hb2)
    | (go_at_call 17; have hq := net_send w2 _ gn _ [] 0 0 (msgTo 1) h2 ok1 (by decide) (by decide) (by decide); (with_reducible refine hq.mono ?_); rintro e w3 ⟨rfl, ht3⟩; clear hq; obtain ⟨v3, h3, hb3⟩ := NetTo.next (bl_then hb1 hb2) h2 ht3; refine stop ?_))
  unfold Stop
  clear ht3 h1 h2 hb1 hb2
  go_wp2_with (first
    | (go_at_call 18; (with_reducible refine (law_same 2 w3).mono ?_); rintro e w4 ⟨rfl, hb4⟩; have h4 := h3.below hb4)
    | (go_at_call 17; have hq := net_send w4 _ gn _ _ _ 0 (msgTo 2) h4 ok2 (by decide) (by decide) (by decide); (with_reducible refine hq.mono ?_); rintro e w5 ⟨rfl, ht5⟩; clear hq; obtain ⟨v5, h5, hb5⟩ := NetTo.next (bl_then hb3 hb4) h4 ht5; refine stop ?_))
  unfold Stop
  clear ht5 h3 h4 hb3 hb4
  have h5 : NetAt w5 w.heap.size gn v5 [msgTo 1, msgTo 2] 2 0 := h5
  have hq6 := hide (show Calls Try.prog 19 #[ptr gn, .int .i64 1] w5 (fun e w' => e = .returned (.tuple #[(msgTo 2).val, .int .i64 0]) ∧ NetTo w5 w' w.heap.size gn v5 [msgTo 1] 2 0) from net_take w5 _ gn v5 [msgTo 1, msgTo 2] 2 0 1 h5 (by decide))
  go_wp2_with (first
    | (go_at_call 19; (with_reducible refine (unhide hq6).mono ?_); rintro e w6 ⟨rfl, ht6⟩; obtain ⟨v6, h6, hb6⟩ := NetTo.next hb5 h5 ht6)
    | ((with_reducible refine gate (N := 4) rfl ?_); refine ev_alloc rfl 32 rfl (cs := Msg.zero.arr) zeroMsg ?_; intro g7 w7 hx7 hb7 hg7 hl7; refine stop ?_))
  unfold Stop
  clear ht6 h5 hb5 hq6
  refine ev_setAll rfl 32 (.tmp 4) (.tmp 21) rfl rfl (vs := (msgTo 2).arr) hx7 rfl (oneMsg _) sizeMsg rfl ?_
  intro w8 hx8 hp8
  have lt6 := h6.box.lt
  have h8 := (h6.below hb7).of_put hp8 (by omega) (fun e => by have h2 := h6.row_lt _ e; omega)
  have hge : w.heap.size ≤ g7 := by have := hb6.size; omega
  have hb8 := Put.below (bl_then hb6 hb7) hp8 hge
  have ng : gn < g7 := by omega
  have nv : ∀ k, v6.ownBlock = some k → k < g7 := fun k e => by have h2 := h6.row_lt _ e; omega
  clear hx7 hb7 hp8 h6 hb6 hl7
  have hq9 := hide (show Calls Try.prog 20 #[ptr gn, .int .i64 0] w8 (fun e w' => e = .returned (.int .i64 0) ∧ NetTo w8 w' w.heap.size gn v6 [msgTo 1, msgTo 1] 2 0) from net_double w8 _ gn v6 [msgTo 1] 2 0 0 h8 (by decide) (by decide))
  go_wp2_with (first
    | (go_at_call 20; (with_reducible refine (unhide hq9).mono ?_); rintro e w9 ⟨rfl, ht9⟩; refine stop ?_))
  unfold Stop
  have ht9' := ht9
  obtain ⟨v9, h9, F9, hv9⟩ := ht9'
  have hx9 := F9.box hx8 (by omega) (fun e => by have := nv _ e.symm; omega)
  have hb9 := (NetTo.next hb8 h8 ht9).elim fun _ h => h.2
  have nv9 : ∀ k, v9.ownBlock = some k → k ≠ g7 := fun k e => by
    rcases hv9 _ e with h | h
    · have := nv _ h; omega
    · have := hx8.lt; omega
  clear ht9 hq9 hv9 nv F9 hx8
  have hqA := hide (show Calls Try.prog 21 #[ptr gn, .int .i64 0] w9 (fun e w' => e = .returned (.int .i64 0) ∧ NetTo w9 w' w.heap.size gn v9 [msgTo 1] 2 1) from net_lose w9 _ gn v9 [msgTo 1, msgTo 1] 2 0 0 h9 (by decide) (by decide) (by decide))
  go_wp2_with (first
    | (go_at_call 21; (with_reducible refine (unhide hqA).mono ?_); rintro e wA ⟨rfl, htA⟩; refine stop ?_))
  unfold Stop
  have htA' := htA
  obtain ⟨vA, hA, FA, hvA⟩ := htA'
  have hxA := FA.box hx9 (by omega) (fun e => nv9 _ e.symm rfl)
  have hbA := (NetTo.next hb9 h9 htA).elim fun _ h => h.2
  clear htA hqA hvA nv9 FA hx9 h8 h9 hb9 hb8
  have hqB := hide (net_count wA _ gn vA [msgTo 1] 2 1 hA)
  have hc := hxA.cell 2
  go_wp2_with (first
    | (go_at_call 11; (with_reducible refine (unhide hqB).mono ?_); rintro e wB ⟨rfl, hbB⟩; have hcB := (hxA.below hbB).cell 2))
  go_ret
  exact ⟨rfl, bl_then hbA hbB⟩
end Go.Proofs.Ytbkffeabikjnhaa
