/- Bytes looked at: contracts where they can be. -/
import Derived.Test.YtbkffeabikjnhaaDoorVec
import Derived.Test.YtbkffeabikjnhaaDoorEv
namespace Go.Proofs.YtbkffeabikjnhaaDoor
open Go.RowKit

/-- An eye at block g, on what is left. -/
def EyeAt (w : World) (g : Nat) (s : ByteArray) : Prop := Box w g #[.string s, .bool true] 143
theorem EyeAt.c0 {w : World} {g : Nat} {s : ByteArray} (h : EyeAt w g s) : w.cell? ⟨g, 0, none⟩ = some (.string s) := Box.cell h 0
theorem EyeAt.c1 {w : World} {g : Nat} {s : ByteArray} (h : EyeAt w g s) : w.cell? ⟨g, 1, none⟩ = some (.bool true) := Box.cell h 1
def eat (s : ByteArray) (n : Nat) : ByteArray := s.extract n s.size

theorem eye_dead (g : Nat) (s : ByteArray) (w : World) (h : EyeAt w g s) :
    Calls Tryd.prog 109 #[.pointer (some ⟨g, 0, none⟩)] w fun e w' => e = .returned (.bool false) ∧ w = w' := by
  have c1 := h.c1
  go_enter Tryd.func109, Tryd.ntmps109
  go_wp2
  go_ret
  exact ⟨rfl, rfl⟩

theorem eye_raw (g : Nat) (s : ByteArray) (n : Int) (w : World) (h : EyeAt w g s) (hn : 0 ≤ n) (hs : n ≤ s.size) (_ : s.size ≤ 100000000000) :
    Calls Tryd.prog 110 #[.pointer (some ⟨g, 0, none⟩), .int .i64 n] w fun e w' => e = .returned (.string (s.extract 0 n.toNat)) ∧ EyeAt w' g (eat s n.toNat) ∧ Put w w' g := by
  obtain ⟨n, rfl⟩ := Int.eq_ofNat_of_zero_le hn
  rw [Int.toNat_natCast]
  have c0 := h.c0
  have hf := Box.frozen h 0
  have hd : decide ((n : Int) < 0) = false := by simp
  have hge : decide ((s.size : Int) < (n : Int)) = false := by simp; omega
  go_enter Tryd.func110, Tryd.ntmps110
  go_wp2_with (go_at_call 109; (with_reducible refine (eye_dead g s _ h).mono ?_); rintro e w' ⟨rfl, rfl⟩)
  go_ret
  exact ⟨rfl, Box.set_ h 0 _ rfl, Box.setPut _ _ _ _⟩

/-- '[]byte(s)', named. -/
theorem ev_s2b {P : Program} {ops : Array Oper} {rest : List Oper} {o : Oper} {a : Act} {Q : Exit → Act → World → Prop} {W : World} (hgd : o.guard = none) (src dst e : TypeId) (x : Operand) (ho : o.op = .convert src dst x) {s : ByteArray} (hx : a.eval x = .string s)
    (hs : P.underlying src = some .string) (hd : P.underlying dst = some (.slice e)) (he : P.underlying e = some (.int .u8))
    (h : ∀ g c w1, Below W.heap.size W w1 → W.heap.size ≤ g → s.size ≤ c → (∀ j, j < s.size → w1.cell? ⟨g, j, none⟩ = some (.int .u8 (s.data.toList.getD j 0).toNat)) →
      wpList P ops Q rest (a.put o.dst (.slice (some ⟨g, 0, none⟩) s.size c)) w1) : wpList P ops Q (o :: rest) a W := by
  refine event hgd (v := .slice (some ⟨W.heap.size, 0, none⟩) s.size (grownCap W s.size 0 e)) (w1 := Lib.bytesWorld W e s) ?_ (h _ _ _ ⟨rfl, rfl, rfl, ?_, fun k hk => Lib.bytesWorld_at_old W e s k hk⟩ (Nat.le_refl _) (grownCap_ge W s.size 0 e) (fun j hj => Lib.bytesWorld_cell W e s j hj))
  · simp only [execOp, ho, hx, Sem.run_bind, Lib.run_convert_string_bytes W src dst e s hs hd he, Result.andThen_ok, Sem.run_pure]
  · rw [Lib.bytesWorld_size]; omega

def numOf (l : List UInt8) : Int := l.foldl (fun n c => n * 256 + (c.toNat : Int)) 0
theorem numOf_snoc (l : List UInt8) (c : UInt8) : numOf (l ++ [c]) = numOf l * 256 + (c.toNat : Int) := by simp [numOf]
theorem numOf_bound (l : List UInt8) : 0 ≤ numOf l ∧ numOf l < 256 ^ l.length := by
  have key : ∀ (k : List UInt8), 0 ≤ numOf k.reverse ∧ numOf k.reverse < 256 ^ k.length := by
    intro k
    induction k with
    | nil => simp [numOf]
    | cons c k ih =>
      rw [List.reverse_cons, numOf_snoc, List.length_cons, Int.pow_succ]
      have := c.toNat_lt
      omega
  have := key l.reverse
  simpa using this
theorem numOf_lt5 (l : List UInt8) (h : l.length ≤ 5) : numOf l < 1099511627776 := by
  have hb := (numOf_bound l).2
  have h2 : l.length = 0 ∨ l.length = 1 ∨ l.length = 2 ∨ l.length = 3 ∨ l.length = 4 ∨ l.length = 5 := by omega
  rcases h2 with h | h | h | h | h | h <;> (rw [h] at hb; simp at hb; omega)
theorem ofInt_i64 (a : Nat) (ha : a < 9223372036854775808) : (BitVec.ofInt 64 (a : Int)).toNat = a := by
  rw [BitVec.ofInt_natCast, BitVec.toNat_ofNat]; exact Nat.mod_eq_of_lt (by omega)
theorem i64_or_nat (a b : Nat) (ha : a < 9223372036854775808) (hb : b < 9223372036854775808) : bits .or .i64 (a : Int) (b : Int) = ((a ||| b : Nat) : Int) := by
  have hx : a ||| b < 2 ^ 63 := Nat.or_lt_two_pow (by omega) (by omega)
  show IntKind.i64.wrap ((BitVec.ofInt 64 (a : Int) ||| BitVec.ofInt 64 (b : Int)).toNat : Int) = _
  rw [BitVec.toNat_or, ofInt_i64 a ha, ofInt_i64 b hb, IntKind.wrap_i64]
  omega
theorem or_byte (x : Int) (c : UInt8) (h0 : 0 ≤ x) (h1 : x < 36028797018963968) : bits .or .i64 (x * 256) (c.toNat : Int) = x * 256 + (c.toNat : Int) := by
  obtain ⟨x, rfl⟩ := Int.eq_ofNat_of_zero_le h0
  have hc := c.toNat_lt
  have hx : x < 36028797018963968 := by omega
  have e : ((x : Int) * 256) = ((x * 256 : Nat) : Int) := by omega
  rw [e, i64_or_nat _ _ (by omega) (by omega)]
  have h2 := Nat.two_pow_add_eq_or_of_lt (i := 8) (b := c.toNat) (by omega) x
  rw [show x * 256 = 2 ^ 8 * x from by omega, ← h2]
  omega

theorem eye_num (g : Nat) (s : ByteArray) (n : Int) (w : World) (h : EyeAt w g s) (hn : 1 ≤ n) (hn6 : n ≤ 6) (hs : n ≤ s.size) (hl : s.size ≤ 100000000000) :
    Calls Tryd.prog 73 #[.pointer (some ⟨g, 0, none⟩), .int .i64 n] w fun e w' => e = .returned (.int .i64 (numOf (s.data.toList.take n.toNat))) ∧ EyeAt w' g (eat s n.toNat) ∧ Put w w' g := by
  obtain ⟨n, rfl⟩ := Int.eq_ofNat_of_zero_le (show 0 ≤ n by omega)
  rw [Int.toNat_natCast]
  have hd1 : decide ((n : Int) ≤ 8) = true := by simp; omega
  have hsz : (s.extract 0 n).size = n := by rw [ByteArray.size_extract]; omega
  have HX : Hid ((s.extract 0 n).data.toList = s.data.toList.take n) := Lib.hid (by simp)
  go_enter Tryd.func73, Tryd.ntmps73
  go_wp2_with (first
    | (go_at_call 109; (with_reducible refine (eye_dead g s _ h).mono ?_); rintro e w' ⟨rfl, rfl⟩)
    | (go_at_call 104; (with_reducible refine (wide_any _ _).mono ?_); rintro e w' ⟨rfl, rfl⟩)
    | (go_at_call 110; have hq := eye_raw g s (n : Int) w h (by omega) hs hl; rw [Int.toNat_natCast] at hq; (with_reducible refine hq.mono ?_); rintro e w1 ⟨rfl, h1, hp1⟩; clear hq)
    | ((with_reducible refine gate (N := 18) rfl ?_); refine ev_s2b rfl 9 54 5 (.tmp 17) rfl rfl Tryd.underlying9 Tryd.underlying54 Tryd.underlying5 ?_; intro g2 c2 w2 hb2 hg2 hc2 hcell; rw [hsz, HX.out] at hcell; rw [hsz]))
  have HP : Put w w2 g := ⟨hb2.os.trans hp1.os, hb2.tape.trans hp1.tape, hb2.output.trans hp1.output, Nat.le_trans hp1.size hb2.size, fun k hk hne => (hb2.block k (Nat.lt_of_lt_of_le hk hp1.size)).trans (hp1.block k hk hne)⟩
  have h2 : EyeAt w2 g (eat s n) := Box.below h1 hb2
  have hlen : (s.data.toList.take n).length = n := by rw [List.length_take, Array.length_toList]; show min n s.size = n; omega
  have HL := Lib.hid hlen
  clear hb2 hp1 h1 hlen
  generalize hgl : s.data.toList.take n = l at *
  have HGL := Lib.hid hgl
  clear hgl
  go_loop [5, 7, 20] (fun x c i => ∃ (j : Nat), j ≤ n ∧ x = .int .i64 (numOf (l.take j)) ∧ i = .int .i64 j) (fun _ _ i => n - (intOf i).toNat)
  case atStart => exact ⟨0, by omega, rfl, rfl⟩
  case round =>
    obtain ⟨j, hj, rfl, rfl⟩ := hrel
    by_cases hlt : j < n
    · have hc := hcell j hlt
      have hjl : j < l.length := by rw [HL.out]; exact hlt
      have e1 : l.take (j + 1) = l.take j ++ [l.getD j 0] := by
        rw [List.take_succ_eq_append_getElem hjl, List.getD_eq_getElem?_getD, List.getElem?_eq_getElem hjl]; rfl
      have hb := numOf_bound (l.take j)
      have hx : numOf (l.take j) < 36028797018963968 := by
        have h3 : (l.take j).length ≤ 5 := by rw [List.length_take]; omega
        have := numOf_lt5 _ h3
        omega
      have hx0 := hb.1
      have HS : Hid (numOf (l.take (j + 1)) = numOf (l.take j) * 256 + ((l.getD j 0).toNat : Int)) := Lib.hid (by rw [e1, numOf_snoc])
      have hor := or_byte (numOf (l.take j)) (l.getD j 0) hx0 hx
      clear e1 hb hcell
      generalize numOf (l.take j) = x at *
      have hby := (l.getD j 0).toNat_lt
      generalize l.getD j 0 = c at *
      go_wp2
      go_round
      case rel => exact ⟨j + 1, by omega, by rw [HS.out], by go_num⟩
      case measure => simp [intOf]; omega
    · obtain rfl : j = n := by omega
      have hb := (numOf_bound l).1
      have e1 : l.take j = l := List.take_of_length_le (by rw [HL.out]; exact Nat.le_refl _)
      rw [e1]
      clear e1
      generalize hgx : numOf l = x at *
      have HGX := Lib.hid hgx
      clear hgx
      have hx : decide (x < 0) = false := by simp; omega
      go_wp2
      go_ret
      exact ⟨by rw [HGL.out, HGX.out]; rfl, h2, HP⟩

/-- One store, or one call, behind another: only block g. -/
theorem Put.trans {a b c : World} {g : Nat} (h : Put a b g) (k : Put b c g) : Put a c g :=
  ⟨k.os.trans h.os, k.tape.trans h.tape, k.output.trans h.output, Nat.le_trans h.size k.size, fun i hi hne => (k.block i (Nat.lt_of_lt_of_le hi h.size) hne).trans (h.block i hi hne)⟩
theorem Put.of_below {a b : World} (h : Below a.heap.size a b) (g : Nat) : Put a b g := ⟨h.os, h.tape, h.output, h.size, fun k hk _ => h.block k hk⟩
theorem Put.of_drew {a b : World} {g : Nat} (h : Put a.drew b g) : Put a b g := ⟨h.os, h.tape, h.output, h.size, h.block⟩

theorem eye_text (g : Nat) (s : ByteArray) (most : Int) (n : Nat) (w : World) (h : EyeAt w g s) (hm : (n : Int) ≤ most) (hn : numOf (s.data.toList.take 2) = n) (hs : 2 + n ≤ s.size) (hl : s.size ≤ 100000000000) :
    Calls Tryd.prog 76 #[.pointer (some ⟨g, 0, none⟩), .int .i64 most] w fun e w' => e = .returned (.string ((eat s 2).extract 0 n)) ∧ EyeAt w' g (eat (eat s 2) n) ∧ Put w w' g := by
  have hd : decide (most < (n : Int)) = false := by simp; omega
  have hs2 : (eat s 2).size = s.size - 2 := by unfold eat; rw [ByteArray.size_extract]; omega
  have hq1 := eye_num g s 2 w h (by omega) (by omega) (by omega) hl
  rw [show (2 : Int).toNat = 2 from rfl, hn] at hq1
  have H1 := hide hq1
  have HN := hide hn
  clear hq1 hn
  go_enter Tryd.func76, Tryd.ntmps76
  go_wp2_with (first
    | (go_at_call 73; (with_reducible refine (unhide H1).mono ?_); rintro e w1 ⟨rfl, h1, hp1⟩)
    | (go_at_call 110; have hq := eye_raw g (eat s 2) (n : Int) w1 h1 (by omega) (by omega) (by omega); rw [Int.toNat_natCast] at hq; (with_reducible refine hq.mono ?_); rintro e w2 ⟨rfl, h2, hp2⟩; clear hq))
  go_ret
  exact ⟨rfl, h2, hp1.trans hp2⟩
end Go.Proofs.YtbkffeabikjnhaaDoor
