/- The law's own functions over a net: short. -/
import Derived.Test.YtbkffeabikjnhaaArg
namespace Go.Proofs.Ytbkffeabikjnhaa
open Go.RowKit

theorem ev_index0 {P : Program} {ops : Array Oper} {rest : List Oper} {o : Oper} {a : Act} {Q : Exit → Act → World → Prop} {W : World} (hgd : o.guard = none) (t : TypeId) (x ix : Operand) (ho : o.op = .indexAddr t x ix) {g off n c : Nat} (hx : a.eval x = .slice (some ⟨g, off, none⟩) n c) {k : IntKind} {i : Nat} (hix : a.eval ix = .int k i) {e : TypeId} (ht : P.underlying t = some (.slice e)) {sz : Nat} (hsz : (P.info? e).map (·.size) = some sz) (hi : i < n)
    (h : wpList P ops Q rest (a.put o.dst (.pointer (some ⟨g, off + i * sz, none⟩))) W) : wpList P ops Q (o :: rest) a W := by
  have he : P.elem t = e := by simp [Program.elem, ht]
  obtain ⟨inf, hinf, hs⟩ := Option.map_eq_some_iff.1 hsz
  refine event hgd (v := .pointer (some ⟨g, off + i * sz, none⟩)) (w1 := W) ?_ h
  have h1 : (0 : Int) ≤ (i : Int) ∧ (i : Int) < (n : Int) := by omega
  have ha : (⟨g, off, none⟩ : Addr).add (i * sz) = ⟨g, off + i * sz, none⟩ := Addr.add_mid g off _
  simp only [execOp, ho, hx, hix, Sem.run_bind]
  rw [run_indexAt_slice (h := by rw [he]; exact ht), if_pos h1, he]
  simp [sizeOf, typeInfo, hinf, hs, ha]
theorem min_le {a b : Int} : min a b ≤ a ∧ min a b ≤ b := by omega
def ShortOut (n : Nat) (e : Ending) : Prop := ∃ b, e = .returned (.bool b) ∧ (b = true → n ≤ 300)
/-- Where it says yes, the list is short. -/
theorem law_short (v : Value) (ds : List Dod) (w : World) (h : encD.R w v ds) :
    Calls Try.prog 7 #[v] w fun e w' => ShortOut ds.length e ∧ w = w' := by
  obtain ⟨ao, c, rfl, hat⟩ := R_at h
  have hlen : ds.length ≤ 9223372036854775807 := by
    obtain ⟨_, _, _, _, _, hm, _⟩ := h
    exact hm
  clear h
  go_enter Try.func7, Try.ntmps7
  go_wp2
  go_loop [3, 4] (fun n i => ∃ (j : Nat) (m : Int), j ≤ ds.length ∧ 0 ≤ m ∧ m ≤ 40000 ∧ n = .int .i64 m ∧ i = .int .i64 j) (fun _ i => ds.length - (intOf i).toNat)
  case atStart => exact ⟨0, 0, by omega, by omega, by omega, rfl, rfl⟩
  case round =>
    obtain ⟨j, m, hj, h0, h1, rfl, rfl⟩ := hrel
    by_cases hlt : j < ds.length
    · by_cases h3 : j ≤ 300
      · by_cases hm : m ≤ 16384
        · obtain ⟨g, off, rfl, hr⟩ := hat j hlt
          have hsz : ((ds[j].m.data.size : Nat) : Int) ≥ 0 := by omega
          have hc : w.cell? ⟨g, off + j * 21 + 20, none⟩ = some (.string ds[j].m.data) := hr 20 _ rfl
          clear hat hr
          generalize ds[j].m.data = s at *
          go_wp2_with (first
            | ((with_reducible refine gate (N := 22) rfl ?_); refine ev_index0 rfl 22 (.tmp 20) (.tmp 21) rfl rfl rfl Try.underlying22 sizeDo hlt ?_))
          go_round
          case rel => exact ⟨j + 1, m + min (s.size : Int) 16384, by omega, by omega, by omega, by go_num, by go_num⟩
          case measure => simp [intOf]; omega
        · go_wp2
          all_goals (go_ret; exact ⟨⟨_, rfl, fun hb => by first | omega | exact absurd hb (by decide)⟩, rfl⟩)
      · go_wp2
        all_goals (go_ret; exact ⟨⟨_, rfl, fun hb => by first | omega | exact absurd hb (by decide)⟩, rfl⟩)
    · go_wp2
      all_goals (go_ret; exact ⟨⟨_, rfl, fun hb => by first | omega | exact absurd hb (by decide)⟩, rfl⟩)
end Go.Proofs.Ytbkffeabikjnhaa
