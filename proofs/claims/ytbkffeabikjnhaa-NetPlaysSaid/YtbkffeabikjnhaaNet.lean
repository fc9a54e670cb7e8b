/- Package net: what is on its way; contracts of its methods. -/
import Derived.Test.YtbkffeabikjnhaaGet
namespace Go.Proofs.Ytbkffeabikjnhaa
open Go.RowKit

section
variable {P : Program} {ops : Array Oper} {rest : List Oper} {o : Oper} {a : Act} {Q : Exit → Act → World → Prop} {W : World}
/-- An element's address. -/
theorem ev_index (hgd : o.guard = none) (t : TypeId) (x ix : Operand) (ho : o.op = .indexAddr t x ix) {g n c : Nat} (hx : a.eval x = .slice (some ⟨g, 0, none⟩) n c) {k : IntKind} {i : Nat} (hix : a.eval ix = .int k i) {e : TypeId} (ht : P.underlying t = some (.slice e)) {sz : Nat} (hsz : (P.info? e).map (·.size) = some sz) (hi : i < n)
    (h : wpList P ops Q rest (a.put o.dst (.pointer (some ⟨g, i * sz, none⟩))) W) : wpList P ops Q (o :: rest) a W := by
  have he : P.elem t = e := by simp [Program.elem, ht]
  obtain ⟨inf, hinf, hs⟩ := Option.map_eq_some_iff.1 hsz
  refine event hgd (v := .pointer (some ⟨g, i * sz, none⟩)) (w1 := W) ?_ h
  have h1 : (0 : Int) ≤ (i : Int) ∧ (i : Int) < (n : Int) := by omega
  have ha : (⟨g, 0, none⟩ : Addr).add (i * sz) = ⟨g, i * sz, none⟩ := by unfold Addr.add; split <;> simp_all
  simp only [execOp, ho, hx, hix, Sem.run_bind]
  rw [run_indexAt_slice (h := by rw [he]; exact ht), if_pos h1, he]
  simp [sizeOf, typeInfo, hinf, hs, ha]
end

def wire (m : Msg) : ByteArray := ⟨(sealed m.bytes).toArray⟩
/-- A net that stands at block gn: its list v reads as L, in memory of one's own from base on. -/
structure NetAt (w : World) (base gn : Nat) (v : Value) (L : List Msg) (sent lost : Int) : Prop where
  box : Box w gn #[v, .int .i64 sent, .int .i64 lost, .bool true] 48
  own : encS.O w base 9 v (L.map wire)
  ge : base ≤ gn
  ne : v.ownBlock ≠ some gn
  ok : ∀ m ∈ L, m.ok = true
  len : L.length ≤ 160
/-- A net that no call made. -/
def NetOff (w : World) (x : Value) : Prop := x = .pointer none ∨ ∃ gn, x = .pointer (some ⟨gn, 0, none⟩) ∧ Box w gn #[.slice none 0 0, .int .i64 0, .int .i64 0, .bool false] 48
abbrev ptr (g : Nat) : Value := .pointer (some ⟨g, 0, none⟩)
namespace NetAt
variable {w w1 : World} {base gn : Nat} {v : Value} {L : List Msg} {sent lost : Int}
theorem below (h : NetAt w base gn v L sent lost) (hb : Below w.heap.size w w1) : NetAt w1 base gn v L sent lost :=
  ⟨h.box.below hb, h.own.below hb, h.ge, h.ne, h.ok, h.len⟩
theorem shape (h : NetAt w base gn v L sent lost) : ∃ ao c, v = .slice ao L.length c ∧ (∀ i, (hi : i < L.length) → ∃ g, ao = some ⟨g, 0, none⟩ ∧ w.cell? ⟨g, i, none⟩ = some (.string (wire L[i]))) := by
  have ho := h.own
  unfold Enc.O at ho
  rw [List.length_map] at ho
  rcases ho.2 with ⟨rfl, h0⟩ | ⟨g, cap, cur, rfl, hb, hg, h1, h2, h3, h4⟩
  · exact ⟨none, 0, by rw [h0], fun i hi => by omega⟩
  · refine ⟨_, cap, rfl, fun i hi => ⟨g, rfl, ?_⟩⟩
    have hc := ho.cells (g := g) rfl i (.string (wire L[i])) (by
      have := encS.all_get (L.map wire) i 0 (by simpa using hi) (by decide)
      simpa [encS] using this)
    have ha : (⟨g, 0, none⟩ : Addr).add i = ⟨g, i, none⟩ := by unfold Addr.add; split <;> simp_all
    rw [ha] at hc
    exact hc
end NetAt

theorem net_dead (w : World) (gn : Nat) (x y z : Value) (b : Bool) (h : Box w gn #[x, y, z, .bool b] 48) :
    Calls Try.prog 22 #[ptr gn] w fun e w' => e = .returned (.bool (!b)) ∧ w = w' := by
  have hc : w.cell? ⟨gn, 3, none⟩ = some (.bool b) := h.cell 3
  go_enter Try.func22, Try.ntmps22
  go_wp2
  go_ret
  exact ⟨rfl, rfl⟩
theorem net_dead_off (w : World) (x : Value) (h : NetOff w x) :
    Calls Try.prog 22 #[x] w fun e w' => e = .returned (.bool true) ∧ w = w' := by
  rcases h with rfl | ⟨gn, rfl, h⟩
  · go_enter Try.func22, Try.ntmps22
    go_wp2
    go_ret
    exact ⟨rfl, rfl⟩
  · exact net_dead w gn _ _ _ false h
theorem net_new (w : World) :
    Calls Try.prog 9 #[] w fun e w' => ∃ gn v, e = .returned (ptr gn) ∧ NetAt w' w.heap.size gn v [] 0 0 ∧ Below w.heap.size w w' := by
  go_enter Try.func9, Try.ntmps9
  go_wp2_with (first
    | ((with_reducible refine gate (N := 2) rfl ?_); refine ev_box rfl 48 (.tmp 1) rfl rfl ?_; intro g1 w1 hx1 hb1 hg1 hl1))
  go_ret
  exact ⟨g1, _, rfl, ⟨hx1, Enc.O.none _ _ _, hg1, by simp [Value.ownBlock], by simp, by simp⟩, hb1⟩

theorem net_at (w : World) (base gn : Nat) (v : Value) (L : List Msg) (sent lost : Int) (k : Int) (h : NetAt w base gn v L sent lost) (h0 : 0 ≤ k) (h1 : k < L.length) :
    Calls Try.prog 29 #[ptr gn, .int .i64 k] w fun e w' => e = .returned (.int .i64 0) ∧ w = w' := by
  obtain ⟨ao, c, rfl, -⟩ := h.shape
  have hc : w.cell? ⟨gn, 0, none⟩ = some (.slice ao L.length c) := h.box.cell 0
  have hd : decide (k < 0) = false := by simp; omega
  have hd2 : decide ((L.length : Int) ≤ k) = false := by simp; omega
  have hbx := h.box
  clear h
  go_enter Try.func29, Try.ntmps29
  go_wp2_with (first
    | (go_at_call 22; (with_reducible refine (net_dead w gn _ _ _ true hbx).mono ?_); rintro e w1 ⟨rfl, rfl⟩))
  go_ret
  exact ⟨rfl, rfl⟩
theorem net_at_out (w : World) (base gn : Nat) (v : Value) (L : List Msg) (sent lost : Int) (k : Int) (h : NetAt w base gn v L sent lost) (h0 : k < 0 ∨ (L.length : Int) ≤ k) :
    Calls Try.prog 29 #[ptr gn, .int .i64 k] w fun e w' => e = .returned (.int .i64 2) ∧ w = w' := by
  obtain ⟨ao, c, rfl, -⟩ := h.shape
  have hc : w.cell? ⟨gn, 0, none⟩ = some (.slice ao L.length c) := h.box.cell 0
  have hbx := h.box
  clear h
  by_cases hk : k < 0
  · have hd : decide (k < 0) = true := by simp; omega
    clear h0
    go_enter Try.func29, Try.ntmps29
    go_wp2_with (first
      | (go_at_call 22; (with_reducible refine (net_dead w gn _ _ _ true hbx).mono ?_); rintro e w1 ⟨rfl, rfl⟩))
    go_ret
    exact ⟨rfl, rfl⟩
  · have hd : decide (k < 0) = false := by simp; omega
    have hd2 : decide ((L.length : Int) ≤ k) = true := by simp; omega
    clear h0 hk
    go_enter Try.func29, Try.ntmps29
    go_wp2_with (first
      | (go_at_call 22; (with_reducible refine (net_dead w gn _ _ _ true hbx).mono ?_); rintro e w1 ⟨rfl, rfl⟩))
    go_ret
    exact ⟨rfl, rfl⟩
theorem net_at_off (w : World) (x : Value) (k : Int) (h : NetOff w x) :
    Calls Try.prog 29 #[x, .int .i64 k] w fun e w' => e = .returned (.int .i64 200) ∧ w = w' := by
  go_enter Try.func29, Try.ntmps29
  go_wp2_with (first
    | (go_at_call 22; (with_reducible refine (net_dead_off w x h).mono ?_); rintro e w1 ⟨rfl, rfl⟩))
  go_ret
  exact ⟨rfl, rfl⟩
theorem net_count (w : World) (base gn : Nat) (v : Value) (L : List Msg) (sent lost : Int) (h : NetAt w base gn v L sent lost) :
    Calls Try.prog 11 #[ptr gn] w fun e w' => e = .returned (.tuple #[.int .i64 L.length, .int .i64 sent, .int .i64 lost]) ∧ Below w.heap.size w w' := by
  obtain ⟨ao, c, rfl, -⟩ := h.shape
  have hc : w.cell? ⟨gn, 0, none⟩ = some (.slice ao L.length c) := h.box.cell 0
  have hc1 : w.cell? ⟨gn, 1, none⟩ = some (.int .i64 sent) := h.box.cell 1
  have hc2 : w.cell? ⟨gn, 2, none⟩ = some (.int .i64 lost) := h.box.cell 2
  have hbx := h.box
  clear h
  go_enter Try.func11, Try.ntmps11
  go_wp2_with (first
    | (go_at_call 22; (with_reducible refine (net_dead w gn _ _ _ true hbx).mono ?_); rintro e w1 ⟨rfl, rfl⟩))
  refine wp_region_ext (by kernel_rfl) (by kernel_rfl) ?_
  have hlt := hbx.lt
  repeat (go_big_quiet_step (fail))
  refine wpQuiet_nil ?_
  rintro _ ⟨⟨w2, hb2⟩, rfl⟩
  go_wp2
  go_ret3
  exact ⟨rfl, hb2⟩
theorem net_count_off (w : World) (x : Value) (h : NetOff w x) :
    Calls Try.prog 11 #[x] w fun e w' => e = .returned (.tuple #[.int .i64 0, .int .i64 0, .int .i64 0]) ∧ Below w.heap.size w w' := by
  go_enter Try.func11, Try.ntmps11
  go_wp2_with (first
    | (go_at_call 22; (with_reducible refine (net_dead_off w x h).mono ?_); rintro e w1 ⟨rfl, rfl⟩))
  go_ret3
  exact ⟨rfl, Below.refl _ _⟩
end Go.Proofs.Ytbkffeabikjnhaa
