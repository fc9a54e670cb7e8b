/- The law's own functions over a net: one step, as data. -/
import Derived.Test.YtbkffeabikjnhaaDo2
namespace Go.Proofs.Ytbkffeabikjnhaa
open Go.RowKit

structure St where
  L : List Msg
  (sent lost : Int)
def Dod.o (d : Dod) : Int := bits .and .i64 d.op 7
def St.has (s : St) (k : Int) : Bool := decide (0 ≤ k) && decide (k < s.L.length)
def St.get (s : St) (k : Int) : Msg := s.L.getD k.toNat Msg.zero
def St.cut (s : St) (k : Int) : List Msg := s.L.take k.toNat ++ s.L.drop (k.toNat + 1)
def St.step (s : St) (d : Dod) : St × Msg × Int :=
  if d.o = 4 then (if s.has d.k then (s, s.get d.k, 0) else (s, Msg.zero, 2))
  else if d.o = 5 then (if s.has d.k then (⟨s.cut d.k, s.sent, s.lost⟩, s.get d.k, 0) else (s, Msg.zero, 2))
  else if d.o = 6 then (if s.has d.k then (⟨s.cut d.k, s.sent, s.lost + 1⟩, Msg.zero, 0) else (s, Msg.zero, 2))
  else if d.o = 7 then (if s.has d.k then (if s.L.length < 160 then (⟨s.L ++ [s.get d.k], s.sent, s.lost⟩, Msg.zero, 0) else (s, Msg.zero, 28)) else (s, Msg.zero, 2))
  else if d.m.ok then (if s.L.length < 160 then (⟨s.L ++ [d.m], s.sent + 1, s.lost⟩, Msg.zero, 0) else (⟨s.L, s.sent + 1, s.lost + 1⟩, Msg.zero, 28)) else (s, Msg.zero, 201)
theorem St.bounds (s : St) (d : Dod) : s.sent ≤ (s.step d).1.sent ∧ (s.step d).1.sent ≤ s.sent + 1 ∧ s.lost ≤ (s.step d).1.lost ∧ (s.step d).1.lost ≤ s.lost + 1 := by
  unfold St.step
  repeat' split
  all_goals (simp only []; omega)
theorem has_out {s : St} {k : Int} (h : ¬ s.has k = true) : k < 0 ∨ (s.L.length : Int) ≤ k := by
  simp [St.has] at h; omega
theorem law_send (w : World) (base gn : Nat) (v : Value) (s : St) (d : Dod) (h : NetAt w base gn v s.L s.sent s.lost) (h0 : 0 ≤ s.sent) (h1 : s.sent ≤ 1000000) (h2 : 0 ≤ s.lost) (h3 : s.lost ≤ 1000000)
    (o4 : ¬ d.o = 4) (o5 : ¬ d.o = 5) (o6 : ¬ d.o = 6) (o7 : ¬ d.o = 7) :
    Calls Try.prog 10 #[ptr gn, d.val] w fun e w' => e = .returned (.tuple #[(s.step d).2.1.val, .int .i64 (s.step d).2.2]) ∧ NetTo w w' base gn v (s.step d).1.L (s.step d).1.sent (s.step d).1.lost := by
  have hlen := h.len
  have b4 : (d.o == 4) = false := by simp [o4]
  have b5 : (d.o == 5) = false := by simp [o5]
  have b6 : (d.o == 6) = false := by simp [o6]
  have b7 : (d.o == 7) = false := by simp [o7]
  by_cases hm : d.m.ok = true
  · by_cases hl : s.L.length < 160
    · have hs : s.step d = (⟨s.L ++ [d.m], s.sent + 1, s.lost⟩, Msg.zero, 0) := by simp [St.step, o4, o5, o6, o7, hm, hl]
      rw [hs]
      exact does0 (ptr gn) d 0 w (turn_net h _ _ _) d.o rfl b4 b5 b6 b7 fun w1 hb => net_send w1 base gn v s.L s.sent s.lost d.m (h.below hb) hm hl h0 h1
    · have hs : s.step d = (⟨s.L, s.sent + 1, s.lost + 1⟩, Msg.zero, 28) := by simp [St.step, o4, o5, o6, o7, hm, hl]
      rw [hs]
      exact does0 (ptr gn) d 28 w (turn_net h _ _ _) d.o rfl b4 b5 b6 b7 fun w1 hb => net_send_full w1 base gn v s.L s.sent s.lost d.m (h.below hb) hm (by omega) h0 h1 h2 h3
  · have hs : s.step d = (s, Msg.zero, 201) := by simp [St.step, o4, o5, o6, o7, hm]
    rw [hs]
    exact does0 (ptr gn) d 201 w (turn_net h _ _ _) d.o rfl b4 b5 b6 b7 fun w1 hb => (net_send_no w1 base gn v s.L s.sent s.lost d.m (h.below hb) (by simpa using hm)).mono fun e w' ⟨he, hb'⟩ => ⟨he, (h.below hb).stay hb'⟩
theorem law_does (w : World) (base gn : Nat) (v : Value) (s : St) (d : Dod) (h : NetAt w base gn v s.L s.sent s.lost) (h0 : 0 ≤ s.sent) (h1 : s.sent ≤ 1000000) (h2 : 0 ≤ s.lost) (h3 : s.lost ≤ 1000000) :
    Calls Try.prog 10 #[ptr gn, d.val] w fun e w' => e = .returned (.tuple #[(s.step d).2.1.val, .int .i64 (s.step d).2.2]) ∧ NetTo w w' base gn v (s.step d).1.L (s.step d).1.sent (s.step d).1.lost := by
  have hlen := h.len
  have stayT := turn_net h s.L s.sent s.lost
  have out := fun (k : Int) (hk : k < 0 ∨ (s.L.length : Int) ≤ k) w1 (hb : Below w.heap.size w w1) => net_at_out w1 base gn v s.L s.sent s.lost k (h.below hb) hk
  by_cases hp : s.has d.k = true
  · have hp' := hp
    simp [St.has] at hp'
    obtain ⟨i, hi⟩ := Int.eq_ofNat_of_zero_le hp'.1
    have hil : i < s.L.length := by omega
    have hg : s.get d.k = s.L[i] := by rw [St.get, hi, Int.toNat_natCast, List.getD_eq_getElem?_getD, List.getElem?_eq_getElem hil]; rfl
    have hc : s.cut d.k = s.L.take i ++ s.L.drop (i + 1) := by rw [St.cut, hi, Int.toNat_natCast]
    by_cases o4 : d.o = 4
    · have hs : s.step d = (s, s.L[i], 0) := by simp [St.step, o4, hp, hg]
      rw [hs]
      exact does4 (ptr gn) d _ 0 w stayT o4 fun w1 hb => by
        rw [hi]; exact (net_peek w1 base gn v s.L s.sent s.lost i (h.below hb) hil).mono fun e w' ⟨he, hb'⟩ => ⟨he, (h.below hb).stay hb'⟩
    by_cases o5 : d.o = 5
    · have hs : s.step d = (⟨s.L.take i ++ s.L.drop (i + 1), s.sent, s.lost⟩, s.L[i], 0) := by simp [St.step, o5, hp, hg, hc]
      rw [hs]
      exact does5 (ptr gn) d _ 0 w (turn_net h _ _ _) o5 fun w1 hb => by
        rw [hi]; exact net_take w1 base gn v s.L s.sent s.lost i (h.below hb) hil
    by_cases o6 : d.o = 6
    · have hs : s.step d = (⟨s.L.take i ++ s.L.drop (i + 1), s.sent, s.lost + 1⟩, Msg.zero, 0) := by simp [St.step, o6, hp, hc]
      rw [hs]
      exact does6 (ptr gn) d 0 w (turn_net h _ _ _) o6 fun w1 hb => by
        rw [hi]; exact net_lose w1 base gn v s.L s.sent s.lost i (h.below hb) hil h2 h3
    by_cases o7 : d.o = 7
    · by_cases hl : s.L.length < 160
      · have hs : s.step d = (⟨s.L ++ [s.L[i]], s.sent, s.lost⟩, Msg.zero, 0) := by simp [St.step, o7, hp, hg, hl]
        rw [hs]
        exact does7 (ptr gn) d 0 w (turn_net h _ _ _) o7 fun w1 hb => by
          rw [hi]; exact net_double w1 base gn v s.L s.sent s.lost i (h.below hb) hil hl
      · have hs : s.step d = (s, Msg.zero, 28) := by simp [St.step, o7, hp, hl]
        rw [hs]
        exact does7 (ptr gn) d 28 w stayT o7 fun w1 hb => by
          rw [hi]; exact (net_double_full w1 base gn v s.L s.sent s.lost i (h.below hb) hil (by omega)).mono fun e w' ⟨he, hb'⟩ => ⟨he, (h.below hb).stay hb'⟩
    · exact law_send w base gn v s d h h0 h1 h2 h3 o4 o5 o6 o7
  · have ho := has_out hp
    by_cases o4 : d.o = 4
    · have hs : s.step d = (s, Msg.zero, 2) := by simp [St.step, o4, hp]
      rw [hs]
      exact does4 (ptr gn) d _ 2 w stayT o4 fun w1 hb =>
        (net_peek_out w1 base gn v s.L s.sent s.lost d.k (h.below hb) ho).mono fun e w' ⟨he, hb'⟩ => ⟨he, (h.below hb).stay hb'⟩
    by_cases o5 : d.o = 5
    · have hs : s.step d = (s, Msg.zero, 2) := by simp [St.step, o5, hp]
      rw [hs]
      exact does5 (ptr gn) d _ 2 w stayT o5 fun w1 hb =>
        (net_take_no w1 (ptr gn) d.k 2 (by decide) (fun w2 hb2 => out _ ho w2 (bl_then hb hb2)) (fun w2 hb2 => net_peek_out w2 base gn v s.L s.sent s.lost d.k (h.below (bl_then hb hb2)) ho)).mono fun e w' ⟨he, hb'⟩ => ⟨he, (h.below hb).stay hb'⟩
    by_cases o6 : d.o = 6
    · have hs : s.step d = (s, Msg.zero, 2) := by simp [St.step, o6, hp]
      rw [hs]
      exact does6 (ptr gn) d 2 w stayT o6 fun w1 hb =>
        (net_lose_no w1 (ptr gn) d.k 2 (by decide) (net_take_no w1 (ptr gn) d.k 2 (by decide) (fun w2 hb2 => out _ ho w2 (bl_then hb hb2)) (fun w2 hb2 => net_peek_out w2 base gn v s.L s.sent s.lost d.k (h.below (bl_then hb hb2)) ho))).mono fun e w' ⟨he, hb'⟩ => ⟨he, (h.below hb).stay hb'⟩
    by_cases o7 : d.o = 7
    · have hs : s.step d = (s, Msg.zero, 2) := by simp [St.step, o7, hp]
      rw [hs]
      exact does7 (ptr gn) d 2 w stayT o7 fun w1 hb =>
        (net_double_no w1 (ptr gn) d.k 2 (by decide) (out _ ho w1 hb)).mono fun e w' ⟨he, hb'⟩ => ⟨he, (h.below hb).stay hb'⟩
    · exact law_send w base gn v s d h h0 h1 h2 h3 o4 o5 o6 o7
end Go.Proofs.Ytbkffeabikjnhaa
