/- Texts laid together: Rd2, Loc5, Loc6, Rd3, REye, REye2, REye3. -/
import Derived.Test.YtbkffeabikjnhaaDoorGg6
/- Vectors and marks out of any bytes. -/
namespace Go.Proofs.YtbkffeabikjnhaaDoor
open Go.RowKit

theorem Put.below_old {w w1 w2 : World} {g : Nat} (h : Below w.heap.size w w1) (k : Put w1 w2 g) : Put w w2 g := (Put.of_below h g).trans k
theorem see_vecNo (g : Nat) (s : ByteArray) (w : World) (h : EyeAt w g s) (hl : s.size ≤ 100000000000) (hbad : 48 ≤ s.size → (seeV s).good = false) :
    Calls Tryd.prog 74 #[.pointer (some ⟨g, 0, none⟩)] w fun e w' => (∃ c, c ≠ 0 ∧ e = .panicked (flt c)) ∧ (∃ s', EyeAt w' g s') ∧ Put w w' g := by
  have hglt := Box.lt h
  go_enter Tryd.func74, Tryd.ntmps74
  go_wp2_with (first
    | ((with_reducible refine gate (N := 2) rfl ?_); refine ev_alloc rfl 25 rfl zeroVec ?_; intro g2 w2 hx2 hb2 hg2 hl2)
    | ((with_reducible refine gate (N := 3) rfl ?_); refine ev_alloc rfl 25 rfl zeroVec ?_; intro g3 w3 hx3 hb3 hg3 hl3; rw [← vecArr_zero (seeV s)] at hx3))
  have h3 : EyeAt w3 g s := Box.below (Box.below h hb2) hb3
  have hn2 : g ≠ g2 := by omega
  have hn3 : g ≠ g3 := by have := hb2.size; omega
  have hn23 : g2 ≠ g3 := by omega
  have hw3 : w.heap.size ≤ g3 := by have := hb2.size; omega
  have HP := Put.of_below (bl_then hb2 hb3) g
  have hx23 := hx2.below hb3
  clear h hb2 hb3 hg3 hl2 hl3 hx2
  go_loopw [4, 5] (fun _ i wr => ∃ (j : Nat), j ≤ 8 ∧ 6 * j ≤ s.size ∧ i = .int .i64 j ∧ EyeAt wr g (eat s (6 * j)) ∧ Box wr g3 (vecArr (seeV s) j) 25 ∧ Box wr g2 V8.zero.arr 25 ∧ Put w wr g) (fun _ i _ => 8 - (intOf i).toNat)
  case atStart => exact ⟨0, by omega, by omega, rfl, by rw [Nat.mul_zero, eat_zero]; exact h3, hx3, hx23, HP⟩
  case round =>
    obtain ⟨j, hj, hj6, rfl, he, hx, hx0, hp⟩ := hrel
    by_cases hlt : j < 8
    · have H0 : (0 : Int) ≤ (j : Int) := by omega
      have H1 : (j : Int) < 8 := by omega
      by_cases hs6 : 6 * j + 6 ≤ s.size
      · have hq := eye_num g (eat s (6 * j)) 6 wr he (by omega) (by omega) (by rw [eat_size]; omega) (by rw [eat_size]; omega)
        rw [show (6 : Int).toNat = 6 from rfl, eat_eat, show 6 * j + 6 = 6 * (j + 1) from by omega, eat_list, show numOf (List.take 6 (List.drop (6 * j) s.data.toList)) = (seeV s).get j from (seeV_get s j hlt).symm] at hq
        have HQ := hide hq
        clear hq
        have HS := Lib.hid (vecArr_succ (seeV s) j hlt)
        have HZ := Lib.hid (vecArr_size (seeV s) j)
        generalize (seeV s).get j = x at HQ HS
        go_wp2_with (first
          | (go_at_call 73; (with_reducible refine (unhide HQ).mono ?_); rintro e w4 ⟨rfl, he4, hp4⟩; have hx4 := hx.put hp4 hn3.symm; have hx04 := hx0.put hp4 hn2.symm; have hc4 : w4.cell? ⟨g3, j, none⟩ = some ((vecArr (seeV s) j)[j]!) := (by rw [hx4.cell j]; simp [HZ.out, hlt]); have hf4 := hx4.frozen j))
        go_roundw
        case rel => exact ⟨j + 1, by omega, by omega, by go_num, Box.put he4 (Box.setPut _ _ _ _) hn3, hx4.set_ j _ HS.out, hx04.put (Box.setPut _ _ _ _) hn23, (hp.trans hp4).newSet hw3 _⟩
        case measure => simp [intOf]; omega
      · have hq := eye_Num6 g (eat s (6 * j)) wr he (by rw [eat_size]; omega)
        rw [show num? 6 (eat s (6 * j)) = none from by unfold num?; rw [eat_size, if_neg (by omega)]] at hq
        have HQ := hide hq
        clear hq
        go_wp2_with (first
          | (go_at_call 73; (with_reducible refine (unhide HQ).mono ?_); rintro e w4 ⟨⟨c, hc, rfl⟩, he4, hp4⟩))
        exact ⟨rfl, ⟨c, hc, rfl⟩, he4, hp.trans hp4⟩
    · obtain rfl : j = 8 := by omega
      rw [vecArr_full] at hx
      have hgx := hbad hj6
      generalize hv : seeV s = v at *
      go_wp2_with (first
        | ((with_reducible refine gate (N := 13) rfl ?_); refine ev_load rfl 25 (.tmp 3) rfl rfl hx aggVec sizeVec ?_)
        | (go_at_call 49; (with_reducible refine (vec_good v _).mono ?_); rintro e w5 ⟨rfl, hb5⟩; rw [hgx]; have hx5 := hx.below hb5; have hx05 := hx0.below hb5; have he5 : EyeAt w5 g (eat s (6 * 8)) := Box.below he hb5; have hp5 := hp.trans (Put.of_below hb5 g))
        | (go_at_call 108; have hq := eye_fail g (eat s (6 * 8)) 201 _ he5; (with_reducible refine hq.mono ?_); rintro e w' ⟨rfl, rfl⟩))
      exact ⟨rfl, ⟨201, by decide, rfl⟩, ⟨_, he5⟩, hp5⟩
def vec? (s : ByteArray) : Option (V8 × ByteArray) := if 48 ≤ s.size ∧ (seeV s).good = true then some (seeV s, eat s 48) else none
theorem see_Vec (g : Nat) (s : ByteArray) (w : World) (h : EyeAt w g s) (hl : s.size ≤ 100000000000) :
    Calls Tryd.prog 74 #[.pointer (some ⟨g, 0, none⟩)] w (Ans V8.val (vec? s) g w) := by
  unfold vec?
  by_cases hs : 48 ≤ s.size ∧ (seeV s).good = true
  · rw [if_pos hs]
    exact see_vec g s w h hs.1 hl hs.2
  · rw [if_neg hs]
    exact see_vecNo g s w h hl fun h8 => by
      cases hg : (seeV s).good
      · rfl
      · exact absurd ⟨h8, hg⟩ hs
def mark? (s : ByteArray) : Option (Mk × ByteArray) := if 12 ≤ s.size then some (⟨numAt s 0 6, numAt s 6 6⟩, eat s 12) else none
theorem see_markNo (g : Nat) (s : ByteArray) (w : World) (h : EyeAt w g s) (hs : s.size < 12) :
    Calls Tryd.prog 75 #[.pointer (some ⟨g, 0, none⟩)] w fun e w' => (∃ c, c ≠ 0 ∧ e = .panicked (flt c)) ∧ (∃ s', EyeAt w' g s') ∧ Put w w' g := by
  have hglt := Box.lt h
  go_enter Tryd.func75, Tryd.ntmps75
  go_wp2_with (first
    | ((with_reducible refine gate (N := 2) rfl ?_); refine ev_alloc rfl 39 rfl zeroMark ?_; intro g2 w2 hx2 hb2 hg2 hl2; refine stop ?_))
  unfold Stop
  have h2 : EyeAt w2 g s := Box.below h hb2
  have hn2 : g ≠ g2 := by omega
  have HP := Put.of_below hb2 g
  by_cases h6 : 6 ≤ s.size
  · have hq := eye_num g s 6 w2 h2 (by omega) (by omega) (by omega) (by omega)
    rw [show (6 : Int).toNat = 6 from rfl] at hq
    have HQ := hide hq
    clear hq h hb2 hl2
    go_wp2_with (first
      | (go_at_call 73; (with_reducible refine (unhide HQ).mono ?_); rintro e w3 ⟨rfl, he3, hp3⟩; have hx3 := hx2.put hp3 hn2.symm; clear HQ; refine stop ?_))
    unfold Stop
    have hq := eye_Num6 g (eat s 6) w3 he3 (by rw [eat_size]; omega)
    rw [show num? 6 (eat s 6) = none from by unfold num?; rw [eat_size, if_neg (by omega)]] at hq
    have HQ := hide hq
    clear hq
    go_wp2_with (first
      | (go_at_call 73; (with_reducible refine (unhide HQ).mono ?_); rintro e w4 ⟨⟨c, hc, rfl⟩, he4, hp4⟩))
    exact ⟨rfl, ⟨c, hc, rfl⟩, he4, (HP.trans hp3).trans hp4⟩
  · have hq := eye_Num6 g s w2 h2 (by omega)
    rw [show num? 6 s = none from by unfold num?; rw [if_neg h6]] at hq
    have HQ := hide hq
    clear hq
    go_wp2_with (first
      | (go_at_call 73; (with_reducible refine (unhide HQ).mono ?_); rintro e w4 ⟨⟨c, hc, rfl⟩, he4, hp4⟩))
    exact ⟨rfl, ⟨c, hc, rfl⟩, he4, HP.trans hp4⟩
theorem see_Mark (g : Nat) (s : ByteArray) (w : World) (h : EyeAt w g s) (hl : s.size ≤ 100000000000) :
    Calls Tryd.prog 75 #[.pointer (some ⟨g, 0, none⟩)] w (Ans Mk.val (mark? s) g w) := by
  unfold mark?
  by_cases hs : 12 ≤ s.size
  · rw [if_pos hs]
    exact see_mark g s w h hs hl
  · rw [if_neg hs]
    exact see_markNo g s w h (by omega)
end Go.Proofs.YtbkffeabikjnhaaDoor

/- Events on rows: a literal as a row of one's own; append of a slice that reads. Over any program. -/
namespace Go.Proofs.YtbkffeabikjnhaaDoor
open Go.RowKit
/-- A row that is not there yet. -/
theorem Loc.rowOff {α : Type} {w0 w : World} {M : Nat → Prop} {l : List Item} (h : Loc w0 M w l) (E : Enc α) (base : Nat) (e : TypeId) : Loc w0 M w (row E base e (.slice none 0 0) [] :: l) :=
  h.callNew (Below.refl _ _) (row_at (Enc.O.none _ _ _)) fun k hk => by cases hk
section
variable {P : Program} {ops : Array Oper} {rest : List Oper} {o : Oper} {a : Act} {Q : Exit → Act → World → Prop} {W w0 : World} {M : Nat → Prop} {l : List Item}
/-- A slice made of its parts, as a row of one's own. -/
theorem ev_litRow {α : Type} {E : Enc α} {t : TypeId} {n : Nat} {parts : Array (Nat × Operand)} {e : TypeId} {z : Value} {base : Nat} (xs : List α) [ht : SliceT P t e] [hz : ZeroT P e z] [hs : SizeT P e E.sz] (hgd : o.guard = none) (hL : Loc w0 M W l) (ho : o.op = .buildSlice t n parts)
    (hn : decide (n * E.sz ≤ 16777216) = true) (h0 : decide (0 < n * E.sz) = true) (hfill : Instr.fill (fun i => some (i * E.sz, E.sz)) ((Array.range (n * E.sz)).map fun j => z.cells[j % z.cells.size]!) (parts.map fun (i, x) => (i, a.eval x)).toList = some (E.all xs).toArray)
    (hl : xs.length = n) (hbase : base ≤ w0.heap.size)
    (h : ∀ g w1, Loc w0 M w1 (row E base e (.slice (some ⟨g, 0, none⟩) n n) xs :: l) → wpList P ops Q rest (a.put o.dst (.slice (some ⟨g, 0, none⟩) n n)) w1) : wpList P ops Q (o :: rest) a W := by
  have hm : xs.length ≤ maxLen := by
    have h1 := of_decide_eq_true hn
    have h2 := E.pos
    have h3 : n ≤ n * E.sz := Nat.le_mul_of_pos_right n h2
    rw [hl]; unfold maxLen; omega
  have hb : base ≤ W.heap.size := Nat.le_trans hbase hL.size
  refine event hgd (v := .slice (some ⟨W.heap.size, 0, none⟩) n n) (w1 := W.alloc (.cells (E.all xs).toArray e)) ?_ (h _ _ (hL.callNew (bl_alloc (Below.refl _ _) _) (row_at (by have := Enc.O.lit (E := E) (w := W) (base := base) (e := e) (E.all xs).toArray xs rfl hb hm; rw [hl] at this; exact this)) fun k hk => by
    have hk' : (Value.slice (some ⟨W.heap.size, 0, none⟩) n n).ownBlock = some k := hk
    simp [Value.ownBlock] at hk'
    omega))
  obtain ⟨i, hi, hzz⟩ := Option.map_eq_some_iff.1 hz.zero
  have hsz : i.size = E.sz := by have := hs.size; simpa [hi] using this
  have h1 : ¬ n * E.sz > 2 ^ 24 := by have := of_decide_eq_true hn; omega
  have h2 : ¬ n * E.sz = 0 := by have := of_decide_eq_true h0; omega
  simp at hfill
  simp [execOp, ho, Instr.buildSlice, run_underlying ht.slice, sizeOf, typeInfo, hi, hsz, zeroValue, hzz, h1, h2, hfill, newRow]
/-- The empty literal. -/
theorem ev_lit0 {α : Type} (E : Enc α) {t e : TypeId} {z : Value} (base : Nat) [ht : SliceT P t e] [hz : ZeroT P e z] [hs : SizeT P e E.sz] (hgd : o.guard = none) (hL : Loc w0 M W l) (ho : o.op = .buildSlice t 0 #[]) (hbase : base ≤ w0.heap.size)
    (h : ∀ g w1, Loc w0 M w1 (row E base e (.slice (some ⟨g, 0, none⟩) 0 0) [] :: l) → wpList P ops Q rest (a.put o.dst (.slice (some ⟨g, 0, none⟩) 0 0)) w1) : wpList P ops Q (o :: rest) a W := by
  have hb : base ≤ W.heap.size := Nat.le_trans hbase hL.size
  refine event hgd (v := .slice (some ⟨W.heap.size, 0, none⟩) 0 0) (w1 := W.alloc (.cells #[] e)) ?_ (h _ _ (hL.callNew (bl_alloc (Below.refl _ _) _) (row_at (Enc.O.lit (E := E) (w := W) (base := base) (e := e) #[] [] rfl hb (by simp [maxLen]))) fun k hk => by
    have hk' : (Value.slice (some ⟨W.heap.size, 0, none⟩) 0 0).ownBlock = some k := hk
    simp [Value.ownBlock] at hk'
    omega))
  obtain ⟨i, hi, hzz⟩ := Option.map_eq_some_iff.1 hz.zero
  have hsz : i.size = E.sz := by have := hs.size; simpa [hi] using this
  simp [execOp, ho, Instr.buildSlice, run_underlying ht.slice, sizeOf, typeInfo, hi, hsz, zeroValue, hzz, Instr.fill, newRow]
  congr 2
  exact Array.eq_empty_of_size_eq_zero (by simp)
/-- append of what a slice reads as onto a row of one's own. -/
theorem ev_appL {α : Type} {E : Enc α} {s x : Operand} {t e : TypeId} {z : Value} {by_ : Nat} {base : Nat} {v xv : Value} {xs : List α} {f : Value → List Item} [ht : SliceT P t e] [hz : ZeroT P e z] [hsz : SizeT P e E.sz] [hb : BytesT P e by_]
    (ys : List α) (hgd : o.guard = none) (hL : Loc w0 M W l) (ho : o.op = .call { callee := .builtin .append, args := #[s, x], argTypes := #[t, t] }) (hs : a.eval s = v) (hx : a.eval x = xv)
    (hR : E.R W xv ys) (hsw : ∀ v', Swap (row E base e v xs) (row E base e v' (xs ++ ys)) l (f v')) (hzc : z.cells.size = E.sz) (hby : decide (by_ ≤ 1000) = true) (h63 : xs.length + ys.length ≤ 100000000000) (hbase : base ≤ W.heap.size)
    (h : ∀ v' w1, Loc w0 M w1 (f v') → wpList P ops Q rest (a.put o.dst v') w1) : wpList P ops Q (o :: rest) a W := by
  have hown : E.O W base e v xs := hL.own (hsw v).mem
  refine Enc.app (E := E) hgd s x t t ho z by_ ht.slice info_of hzc hs hown hx (hR.src ht.slice) h63 (of_decide_eq_true hby) hbase ?_
  intro v' w1 h1 h2 h3
  exact h v' w1 (hL.grow (hsw _) h2 h1 (h3.imp id fun h => ⟨_, h, Nat.le_refl _⟩))
end
end Go.Proofs.YtbkffeabikjnhaaDoor

/- Events on rows: a store of an element; '[]byte(s)' as bytes that may be written. Over any program. -/
namespace Go.Proofs.YtbkffeabikjnhaaDoor
open Go.RowKit

theorem bytesWorld_frozen (w : World) (e : TypeId) (s : ByteArray) (j : Nat) (hj : j < s.size) : (Lib.bytesWorld w e s).frozen? ⟨w.heap.size, j, none⟩ = false := by
  have hs : s.data.size = s.size := rfl
  have h : ¬ (Lib.bytesCells w e s).size ≤ j := by
    simp [Lib.bytesCells]
    omega
  simp [World.frozen?, Lib.bytesWorld_at_new, h]
/-- '[]byte(s)', named, its bytes free to be written. -/
theorem ev_s2bF {P : Program} {ops : Array Oper} {rest : List Oper} {o : Oper} {a : Act} {Q : Exit → Act → World → Prop} {W : World} {src dst e : TypeId} {x : Operand} {s : ByteArray} [hd : SliceT P dst e] (hgd : o.guard = none) (ho : o.op = .convert src dst x) (hx : a.eval x = .string s)
    (hs : P.underlying src = some .string) (he : P.underlying e = some (.int .u8))
    (h : ∀ g c w1, Below W.heap.size W w1 → W.heap.size ≤ g → s.size ≤ c → (∀ j, j < s.size → w1.cell? ⟨g, j, none⟩ = some (.int .u8 (s.data.toList.getD j 0).toNat)) → (∀ j, j < s.size → w1.frozen? ⟨g, j, none⟩ = false) →
      wpList P ops Q rest (a.put o.dst (.slice (some ⟨g, 0, none⟩) s.size c)) w1) : wpList P ops Q (o :: rest) a W := by
  refine event hgd (v := .slice (some ⟨W.heap.size, 0, none⟩) s.size (grownCap W s.size 0 e)) (w1 := Lib.bytesWorld W e s) ?_ (h _ _ _ ⟨rfl, rfl, rfl, ?_, fun k hk => Lib.bytesWorld_at_old W e s k hk⟩ (Nat.le_refl _) (grownCap_ge W s.size 0 e) (fun j hj => Lib.bytesWorld_cell W e s j hj) (fun j hj => bytesWorld_frozen W e s j hj))
  · simp only [execOp, ho, hx, Sem.run_bind, Lib.run_convert_string_bytes W src dst e s hs hd.slice he, Result.andThen_ok, Sem.run_pure]
  · rw [Lib.bytesWorld_size]; omega
/-- Bytes by their cells. -/
theorem read_cells {w : World} {g c : Nat} (l : List UInt8) (hc : l.length ≤ c) (hm : l.length ≤ 9223372036854775807) (h : ∀ j, j < l.length → w.cell? ⟨g, j, none⟩ = some (.int .u8 (l.getD j 0).toNat)) : encB.R w (.slice (some ⟨g, 0, none⟩) l.length c) l := by
  refine ⟨by rw [Enc.all_length], _, c, rfl, hc, hm, .inr ⟨_, rfl, fun j u hu => ?_⟩⟩
  rw [encB_all] at hu
  have hj : j < l.length := by have := (List.getElem?_eq_some_iff.1 hu).1; simpa using this
  have e1 : (⟨g, 0, none⟩ : Addr).add j = ⟨g, j, none⟩ := by unfold Addr.add; split <;> simp_all
  rw [e1, h j hj]
  rw [List.getElem?_map, List.getElem?_eq_getElem hj] at hu
  simp only [Option.map_some, Option.some.injEq] at hu
  rw [← hu]
  simp [List.getD_eq_getElem?_getD, List.getElem?_eq_getElem hj]

/-! ### A store of an element of a row of one's own -/
theorem Enc.all_set {α : Type} (E : Enc α) (xs : List α) (i : Nat) (hi : i < xs.length) (y : α) : E.all (xs.set i y) = (E.all xs).take (i * E.sz) ++ E.cells y ++ (E.all xs).drop (i * E.sz + E.sz) := by
  induction xs generalizing i with
  | nil => simp at hi
  | cons x xs ih =>
    have h : E.all (x :: xs) = E.cells x ++ E.all xs := by simp [Enc.all]
    cases i with
    | zero =>
      have h2 : E.all ((x :: xs).set 0 y) = E.cells y ++ E.all xs := by simp [Enc.all]
      rw [h2, h]
      simp [List.drop_append, E.len]
    | succ i =>
      have h2 : E.all ((x :: xs).set (i + 1) y) = E.cells x ++ E.all (xs.set i y) := by simp [Enc.all]
      have e1 : (i + 1) * E.sz = E.sz + i * E.sz := by rw [Nat.add_mul]; omega
      rw [h2, h, ih i (by simpa using hi), e1, List.take_append, List.drop_append]
      rw [List.take_of_length_le (l := E.cells x) (by rw [E.len]; omega), E.len, List.drop_of_length_le (l := E.cells x) (by rw [E.len]; omega)]
      simp only [List.append_assoc, List.nil_append]
      rw [Nat.add_sub_cancel_left, show E.sz + i * E.sz + E.sz - E.sz = i * E.sz + E.sz from by omega]
section
variable {P : Program} {ops : Array Oper} {rest : List Oper} {o : Oper} {a : Act} {Q : Exit → Act → World → Prop} {W w0 : World} {M : Nat → Prop} {l l' : List Item}
theorem O_set {α : Type} {E : Enc α} {w : World} {base g n c : Nat} {e : TypeId} {xs : List α} (h : E.O w base e (.slice (some ⟨g, 0, none⟩) n c) xs) (i : Nat) (hi : i < xs.length) (y : α) :
    ∃ w1, (storeCells ⟨g, i * E.sz, none⟩ (E.cells y) 0).run P w = .ok () w1 ∧ E.O w1 base e (.slice (some ⟨g, 0, none⟩) n c) (xs.set i y) ∧ Mod (· = g) w w1 := by
  obtain ⟨hl, h2⟩ := h
  rcases h2 with ⟨hn, _⟩ | ⟨g', cap, cur, hv, hb, hg, hnc, hcm, hcs, htake⟩
  · cases hn
  · injection hv with hv1 hv2 hv3
    injection hv1 with hv1
    injection hv1 with hv1
    subst hv1 hv2 hv3
    have hsz : i * E.sz + E.sz ≤ xs.length * E.sz := by
      have : (i + 1) * E.sz ≤ xs.length * E.sz := Nat.mul_le_mul_right _ hi
      rw [Nat.add_mul] at this; omega
    have hcap : xs.length * E.sz ≤ c * E.sz := Nat.mul_le_mul_right _ hnc
    have hst := run_storeCells_at P g (i * E.sz) e (E.cells y) 0 cur w hg (by rw [E.len, hcs]; omega) (E.one y)
    simp only [Nat.add_zero, E.len] at hst
    refine ⟨_, hst, ⟨E.all_length _, .inr ⟨g, c, _, by rw [List.length_set], hb, setRow_heap w g cur _ e _ hg, by rw [List.length_set]; exact hnc, hcm, ?_, ?_⟩⟩, ⟨rfl, rfl, rfl, by simp, fun k _ hk => setRow_other w g k _ hk⟩⟩
    · simp only [List.size_toArray, List.length_append, List.length_take, List.length_drop, Array.length_toList, E.len, hcs]
      omega
    · rw [List.length_set, E.all_set xs i hi y, ← htake, List.take_take, Nat.min_eq_left (by omega)]
      have hlen : cur.toList.length = c * E.sz := by rw [Array.length_toList, hcs]
      rw [List.append_assoc, List.append_assoc, List.take_append, List.take_append, List.length_take, hlen, Nat.min_eq_left (a := i * E.sz) (b := c * E.sz) (by omega), E.len,
        List.take_of_length_le (l := cur.toList.take (i * E.sz)) (by rw [List.length_take]; omega), List.take_of_length_le (l := E.cells y) (by rw [E.len]; omega), List.drop_take]
      rw [show xs.length * E.sz - i * E.sz - E.sz = xs.length * E.sz - (i * E.sz + E.sz) from by omega]
theorem ev_setRow {α : Type} {E : Enc α} {ty e : TypeId} {p x : Operand} {g base n c off : Nat} {xs : List α} {v : Value} [hn : SizeT P ty E.sz] (i : Nat) (y : α) (hgd : o.guard = none) (hL : Loc w0 M W l) (ho : o.op = .store ty p x)
    (hp : a.eval p = .pointer (some ⟨g, off, none⟩)) (hoff : off = i * E.sz) (hx : a.eval x = v) (hc : CellsOf v (E.cells y)) (hi : i < xs.length)
    (hs : Swap (row E base e (.slice (some ⟨g, 0, none⟩) n c) xs) (row E base e (.slice (some ⟨g, 0, none⟩) n c) (xs.set i y)) l l')
    (h : ∀ w1, Loc w0 M w1 l' → wpList P ops Q rest (a.put o.dst undef) w1) : wpList P ops Q (o :: rest) a W := by
  subst hoff
  obtain ⟨w1, hst, hO, hm⟩ := O_set (P := P) (hL.own hs.mem) i hi y
  refine wpList_plain hgd fun K hK => ?_
  obtain ⟨inf, hii, hsz⟩ := Option.map_eq_some_iff.1 hn.size
  have hst2 : (storeVar ty ⟨g, i * E.sz, none⟩ v).run P W = .ok () w1 := by
    simp [storeVar, sizeOf, typeInfo, hii, hsz, hc.eq, E.len, hst]
  unfold Oper.wp execOp
  simp only [ho, hp, hx, Instr.storeAt, Instr.sureAddr, Sem.run_bind, Sem.run_pure, Result.andThen_ok, hst2]
  refine hK _ _ (h _ (hL.swap hs (hm.mono fun k _ hk => ?_) (row_at hO) fun _ hk => .inl hk))
  show (Value.slice (some ⟨g, 0, none⟩) n c).ownBlock = some k
  rw [hk]; rfl
end
theorem Loc.gone {w0 w w1 : World} {M : Nat → Prop} {l : List Item} {g : Nat} {cs : List Value} {t : TypeId} (h : Loc w0 M w (var g cs t :: l)) (hp : Put w w1 g) : Loc w0 M w1 l := by
  have hg := h.new (var g cs t) (.head _) g rfl
  have ha := (List.pairwise_cons.1 h.apart).1
  refine ⟨h.mod.trans (Mod.of_put hp) fun b hb hk => ?_, fun i hi => (h.at_ i (.tail _ hi)).keep hp.size fun k hk => hp.block k ((h.at_ i (.tail _ hi)).lt k hk) fun e => ha i hi g rfl (e ▸ hk), fun i hi => h.new i (.tail _ hi), (List.pairwise_cons.1 h.apart).2⟩
  cases hk
  rcases hg with h1 | h1
  · omega
  · exact h1
theorem Loc.turn {w0 w w1 : World} {M : Nat → Prop} {l : List Item} {g : Nat} {cs cs' : List Value} {t : TypeId} (h : Loc w0 M w (var g cs t :: l)) (hp : Put w w1 g) (hx : Box w1 g cs'.toArray t) : Loc w0 M w1 (var g cs' t :: l) := h.put (.here _) hp hx
end Go.Proofs.YtbkffeabikjnhaaDoor

/- msg.Get's closure on any bytes. -/
namespace Go.Proofs.YtbkffeabikjnhaaDoor
open Go.RowKit

abbrev eyeV (g : Nat) (s : ByteArray) : Item := var g [.string s, .bool true] 143
/-- A look at an eye, among items. -/
theorem eyeL {α : Type} {P : Program} {f : FuncId} {args : Array Value} {mk : α → Value} {r : Option (α × ByteArray)} {g : Nat} {s : ByteArray} {w0 w : World} {M : Nat → Prop} {l : List Item} {F : ByteArray → List Item} (hL : Loc w0 M w l)
    (hs : ∀ s', Swap (eyeV g s) (eyeV g s') l (F s')) (hq : EyeAt w g s → Calls P f args w (Ans mk r g w)) :
    Calls P f args w fun e w1 => (r = none ∧ (∃ c, c ≠ 0 ∧ e = .panicked (flt c)) ∧ ∃ s', Loc w0 M w1 (F s')) ∨ (∃ x s', r = some (x, s') ∧ e = .returned (mk x) ∧ Loc w0 M w1 (F s')) := by
  refine (hq (hL.box (hs s).mem)).mono fun e w1 hA => ?_
  cases r with
  | none =>
    obtain ⟨s', hs'⟩ := hA.2.1
    exact .inl ⟨rfl, hA.1, s', hL.put (hs s') hA.2.2 hs'⟩
  | some p => exact .inr ⟨p.1, p.2, rfl, hA.1, hL.put (hs p.2) hA.2.2 hA.2.1⟩
theorem num_small {n : Nat} {s : ByteArray} {x : Int} {s' : ByteArray} (h : num? n s = some (x, s')) (hz : s.size ≤ 100000000000) : s'.size ≤ 100000000000 := by
  unfold num? at h
  split at h
  · simp only [Option.some.injEq, Prod.mk.injEq] at h
    rw [← h.2, eat_size]; omega
  · cases h
theorem vec_small {s : ByteArray} {x : V8} {s' : ByteArray} (h : vec? s = some (x, s')) (hz : s.size ≤ 100000000000) : s'.size ≤ 100000000000 := by
  unfold vec? at h
  split at h
  · simp only [Option.some.injEq, Prod.mk.injEq] at h
    rw [← h.2, eat_size]; omega
  · cases h
theorem mark_small {s : ByteArray} {x : Mk} {s' : ByteArray} (h : mark? s = some (x, s')) (hz : s.size ≤ 100000000000) : s'.size ≤ 100000000000 := by
  unfold mark? at h
  split at h
  · simp only [Option.some.injEq, Prod.mk.injEq] at h
    rw [← h.2, eat_size]; omega
  · cases h
theorem text_small {most : Int} {s : ByteArray} {x s' : ByteArray} (h : text? most s = some (x, s')) (hz : s.size ≤ 100000000000) : s'.size ≤ 100000000000 := by
  unfold text? at h
  cases hr : num? 2 s with
  | none => rw [hr] at h; cases h
  | some p =>
    have := num_small (x := p.1) (s' := p.2) hr hz
    rw [hr, Option.bind_some] at h
    split at h
    · cases h
    · split at h
      · simp only [Option.some.injEq, Prod.mk.injEq] at h
        rw [← h.2, eat_size]; omega
      · cases h
/-- What msg.Get's closure reads. -/
def getM (s : ByteArray) : Option (Msg × ByteArray) :=
  (num? 1 s).bind fun k => (num? 1 k.2).bind fun a => (num? 1 a.2).bind fun b => (num? 1 b.2).bind fun v => (vec? v.2).bind fun n =>
    if k.1 = 1 then (mark? n.2).bind fun x => (mark? x.2).bind fun y => (num? 2 y.2).bind fun i => some (⟨k.1, a.1, b.1, v.1, x.1, y.1, i.1, 0, n.1, ⟨#[]⟩⟩, i.2)
    else if k.1 = 2 then (mark? n.2).bind fun x => (mark? x.2).bind fun y => (num? 2 y.2).bind fun i => (num? 2 i.2).bind fun t => (text? 512 t.2).bind fun d => some (⟨k.1, a.1, b.1, v.1, x.1, y.1, i.1, t.1, n.1, d.1⟩, d.2)
    else if k.1 = 4 then (mark? n.2).bind fun y => some (⟨k.1, a.1, b.1, v.1, ⟨0, 0⟩, y.1, 0, 0, n.1, ⟨#[]⟩⟩, y.2)
    else some (⟨k.1, a.1, b.1, v.1, ⟨0, 0⟩, ⟨0, 0⟩, 0, 0, n.1, ⟨#[]⟩⟩, n.2)
def EyeM (g gm : Nat) : Nat → Prop := fun k => k = g ∨ k = gm
theorem open2 {w : World} {g gm : Nat} {cs cs' : List Value} {t t' : TypeId} (hx : Box w g cs.toArray t) (hm : Box w gm cs'.toArray t') (hne : g ≠ gm) : Loc w (EyeM g gm) w [var g cs t, var gm cs' t'] := by
  refine ⟨.refl _ _, fun i hi => ?_, fun i hi k hk => ?_, ?_⟩
  · rcases List.mem_cons.1 hi with rfl | hi
    · exact var_at hx
    · rw [List.mem_singleton.1 hi]; exact var_at hm
  · rcases List.mem_cons.1 hi with rfl | hi
    · exact .inr (.inl hk)
    · rw [List.mem_singleton.1 hi] at hk; exact .inr (.inr hk)
  · refine .cons (fun j hj k hk hk' => ?_) (.cons (by simp) .nil)
    rw [List.mem_singleton.1 hj] at hk'
    cases hk
    exact hne hk'
def BodyAns (r : Option (Msg × ByteArray)) (g gm : Nat) (w : World) (e : Ending) (w' : World) : Prop :=
  match r with
  | some (m, s') => e = .returned (.tuple #[]) ∧ EyeAt w' g s' ∧ Box w' gm m.cells.toArray 41 ∧ Mod (EyeM g gm) w w'
  | none => (∃ c, c ≠ 0 ∧ e = .panicked (flt c)) ∧ (∃ s', EyeAt w' g s') ∧ Mod (EyeM g gm) w w'
theorem BodyAns.no {r : Option (Msg × ByteArray)} {g gm : Nat} {w w' : World} {e : Ending} {l : List Item} {s' : ByteArray} (h : Hid (r = none)) (hc : ∃ c, c ≠ 0 ∧ e = .panicked (flt c)) (hm : Loc w (EyeM g gm) w' l) (h1 : eyeV g s' ∈ l) : BodyAns r g gm w e w' := by
  rw [h.out]; exact ⟨hc, ⟨s', hm.box h1⟩, hm.mod⟩
theorem BodyAns.yes {r : Option (Msg × ByteArray)} {g gm : Nat} {w w' : World} {m : Msg} {s' : ByteArray} {l : List Item} {cs : List Value} (h : Hid (r = some (m, s'))) (hL : Loc w (EyeM g gm) w' l) (h1 : eyeV g s' ∈ l) (h2 : var gm cs 41 ∈ l) (hc : cs = m.cells) : BodyAns r g gm w (.returned (.tuple #[])) w' := by
  rw [h.out]; subst hc; exact ⟨rfl, hL.box h1, hL.box h2, hL.mod⟩
set_option maxRecDepth 20000 in
set_option maxHeartbeats 4000000 in
theorem msg_body (g gm : Nat) (s : ByteArray) (w : World) (he0 : EyeAt w g s) (hx0 : Box w gm Msg.zero.cells.toArray 41) (hn : g ≠ gm) (hz : s.size ≤ 100000000000) :
    Calls Tryd.prog 72 #[.pointer (some ⟨g, 0, none⟩), .pointer (some ⟨gm, 0, none⟩)] w (BodyAns (getM s) g gm w) := by
  have hL : Loc w (EyeM g gm) w [eyeV g s, var gm Msg.zero.cells 41] := open2 he0 hx0 hn
  have HG : Hid (getM s = getM s) := Lib.hid rfl
  conv at HG => arg 1; rhs; unfold getM
  clear he0 hx0
  generalize getM s = R at *
  go_enter Tryd.func72, Tryd.ntmps72
  go_wp2_with (first
    | (go_at_call 73; have hq := eyeL hL (fun _ => .here _) (fun h => eye_Num1 g _ _ h hz); (with_reducible refine hq.mono ?_); clear hq; rintro e w1 (⟨hr, ⟨c, hc, rfl⟩, s', hm⟩ | ⟨x, s', hr, rfl, hL⟩); (rw [hr] at HG; exact ⟨rfl, BodyAns.no HG ⟨c, hc, rfl⟩ hm HasV.mem⟩); simp only [hr, Option.bind_some] at HG; have hz := num_small hr hz; clear hr)
    | (go_at_call 74; have hq := eyeL hL (fun _ => .here _) (fun h => see_Vec g _ _ h hz); (with_reducible refine hq.mono ?_); clear hq; rintro e w1 (⟨hr, ⟨c, hc, rfl⟩, s', hm⟩ | ⟨x, s', hr, rfl, hL⟩); (rw [hr] at HG; exact ⟨rfl, BodyAns.no HG ⟨c, hc, rfl⟩ hm HasV.mem⟩); simp only [hr, Option.bind_some] at HG; have hz := vec_small hr hz; clear hr; refine stop ?_)
    | ((with_reducible refine gAlloc rfl rfl ?_); (refine ev_allocL rfl hL rfl (by first | exact cells_agg _ rfl | exact cells_int _ _ | exact cells_str _ | exact cells_bool _ | exact cells_slice _ _ _ | exact cells_ptr _ | exact cells_map _ | exact cells_func _ _ _ | exact cells_nilFunc | exact cells_one (by assumption) (by assumption)) ?_; clear hL; intro gq wq hL)) | ((with_reducible refine gBox rfl rfl ?_); (refine ev_boxL rfl hL rfl rfl (by first | exact cells_agg _ rfl | exact cells_int _ _ | exact cells_str _ | exact cells_bool _ | exact cells_slice _ _ _ | exact cells_ptr _ | exact cells_map _ | exact cells_func _ _ _ | exact cells_nilFunc | exact cells_one (by assumption) (by assumption)) ?_; clear hL; intro gq wq hL)) | ((with_reducible refine gLoad rfl rfl ?_); (first | (refine ev_load1L rfl hL rfl rfl HasV.mem (by rfl) ?_) | (refine ev_loadAllL rfl hL rfl rfl HasV.mem (by rfl) ?_) | (refine ev_loadL rfl hL rfl rfl HasV.mem SegC.seg ?_))) | ((with_reducible refine gStore rfl rfl ?_); (first | (refine ev_storeC rfl hL rfl rfl rfl (by first | exact cells_agg _ rfl | exact cells_int _ _ | exact cells_str _ | exact cells_bool _ | exact cells_slice _ _ _ | exact cells_ptr _ | exact cells_map _ | exact cells_func _ _ _ | exact cells_nilFunc | exact cells_one (by assumption) (by assumption)) (by rfl) ?_) | (refine ev_storeAllC rfl hL rfl rfl rfl (by first | exact cells_agg _ rfl | exact cells_int _ _ | exact cells_str _ | exact cells_bool _ | exact cells_slice _ _ _ | exact cells_ptr _ | exact cells_map _ | exact cells_func _ _ _ | exact cells_nilFunc | exact cells_one (by assumption) (by assumption)) (by rfl) (by rfl) ?_)); clear hL; intro wq hL) | ((with_reducible refine gLoadG rfl rfl ?_ ?_); (exact wanted_some rfl rfl rfl (by with_reducible rfl)); (first | (refine ev_load1G (wanted_some rfl rfl rfl rfl) hL rfl rfl HasV.mem (by rfl) ?_) | (refine ev_loadAllG (wanted_some rfl rfl rfl rfl) hL rfl rfl HasV.mem (by rfl) ?_) | (refine ev_loadG_ (wanted_some rfl rfl rfl rfl) hL rfl rfl HasV.mem SegC.seg ?_))))
  unfold Stop
  rename_i _ k _ _ _ _ a _ _ _ _ b _ _ _ _ v _ _ _ _ _
  by_cases k1 : k = 1
  · subst k1
    simp only [↓reduceIte] at HG
    go_wp2_with (first
      | (go_at_call 75; have hq := eyeL hL (fun _ => .here _) (fun h => see_Mark g _ _ h hz); (with_reducible refine hq.mono ?_); clear hq; rintro e w1 (⟨hr, ⟨c, hc, rfl⟩, s', hm⟩ | ⟨x, s', hr, rfl, hL⟩); (rw [hr] at HG; exact ⟨rfl, BodyAns.no HG ⟨c, hc, rfl⟩ hm HasV.mem⟩); simp only [hr, Option.bind_some] at HG; have hz := mark_small hr hz; clear hr)
      | (go_at_call 73; have hq := eyeL hL (fun _ => .here _) (fun h => eye_Num2 g _ _ h hz); (with_reducible refine hq.mono ?_); clear hq; rintro e w1 (⟨hr, ⟨c, hc, rfl⟩, s', hm⟩ | ⟨x, s', hr, rfl, hL⟩); (rw [hr] at HG; exact ⟨rfl, BodyAns.no HG ⟨c, hc, rfl⟩ hm HasV.mem⟩); simp only [hr, Option.bind_some] at HG; have hz := num_small hr hz; clear hr)
      | (go_at_call 76; have hq := eyeL hL (fun _ => .here _) (fun h => eye_Text g _ 512 _ h hz); (with_reducible refine hq.mono ?_); clear hq; rintro e w1 (⟨hr, ⟨c, hc, rfl⟩, s', hm⟩ | ⟨x, s', hr, rfl, hL⟩); (rw [hr] at HG; exact ⟨rfl, BodyAns.no HG ⟨c, hc, rfl⟩ hm HasV.mem⟩); simp only [hr, Option.bind_some] at HG; have hz := text_small hr hz; clear hr)
      | ((with_reducible refine gAlloc rfl rfl ?_); (refine ev_allocL rfl hL rfl (by first | exact cells_agg _ rfl | exact cells_int _ _ | exact cells_str _ | exact cells_bool _ | exact cells_slice _ _ _ | exact cells_ptr _ | exact cells_map _ | exact cells_func _ _ _ | exact cells_nilFunc | exact cells_one (by assumption) (by assumption)) ?_; clear hL; intro gq wq hL)) | ((with_reducible refine gBox rfl rfl ?_); (refine ev_boxL rfl hL rfl rfl (by first | exact cells_agg _ rfl | exact cells_int _ _ | exact cells_str _ | exact cells_bool _ | exact cells_slice _ _ _ | exact cells_ptr _ | exact cells_map _ | exact cells_func _ _ _ | exact cells_nilFunc | exact cells_one (by assumption) (by assumption)) ?_; clear hL; intro gq wq hL)) | ((with_reducible refine gLoad rfl rfl ?_); (first | (refine ev_load1L rfl hL rfl rfl HasV.mem (by rfl) ?_) | (refine ev_loadAllL rfl hL rfl rfl HasV.mem (by rfl) ?_) | (refine ev_loadL rfl hL rfl rfl HasV.mem SegC.seg ?_))) | ((with_reducible refine gStore rfl rfl ?_); (first | (refine ev_storeC rfl hL rfl rfl rfl (by first | exact cells_agg _ rfl | exact cells_int _ _ | exact cells_str _ | exact cells_bool _ | exact cells_slice _ _ _ | exact cells_ptr _ | exact cells_map _ | exact cells_func _ _ _ | exact cells_nilFunc | exact cells_one (by assumption) (by assumption)) (by rfl) ?_) | (refine ev_storeAllC rfl hL rfl rfl rfl (by first | exact cells_agg _ rfl | exact cells_int _ _ | exact cells_str _ | exact cells_bool _ | exact cells_slice _ _ _ | exact cells_ptr _ | exact cells_map _ | exact cells_func _ _ _ | exact cells_nilFunc | exact cells_one (by assumption) (by assumption)) (by rfl) (by rfl) ?_)); clear hL; intro wq hL) | ((with_reducible refine gLoadG rfl rfl ?_ ?_); (exact wanted_some rfl rfl rfl (by with_reducible rfl)); (first | (refine ev_load1G (wanted_some rfl rfl rfl rfl) hL rfl rfl HasV.mem (by rfl) ?_) | (refine ev_loadAllG (wanted_some rfl rfl rfl rfl) hL rfl rfl HasV.mem (by rfl) ?_) | (refine ev_loadG_ (wanted_some rfl rfl rfl rfl) hL rfl rfl HasV.mem SegC.seg ?_))))
    go_end0
    exact BodyAns.yes HG hL HasV.mem HasV.mem rfl
  by_cases k2 : k = 2
  · subst k2
    simp only [↓reduceIte, show ¬ (2 : Int) = 1 from by decide] at HG
    clear k1
    go_wp2_with (first
      | (go_at_call 75; have hq := eyeL hL (fun _ => .here _) (fun h => see_Mark g _ _ h hz); (with_reducible refine hq.mono ?_); clear hq; rintro e w1 (⟨hr, ⟨c, hc, rfl⟩, s', hm⟩ | ⟨x, s', hr, rfl, hL⟩); (rw [hr] at HG; exact ⟨rfl, BodyAns.no HG ⟨c, hc, rfl⟩ hm HasV.mem⟩); simp only [hr, Option.bind_some] at HG; have hz := mark_small hr hz; clear hr)
      | (go_at_call 73; have hq := eyeL hL (fun _ => .here _) (fun h => eye_Num2 g _ _ h hz); (with_reducible refine hq.mono ?_); clear hq; rintro e w1 (⟨hr, ⟨c, hc, rfl⟩, s', hm⟩ | ⟨x, s', hr, rfl, hL⟩); (rw [hr] at HG; exact ⟨rfl, BodyAns.no HG ⟨c, hc, rfl⟩ hm HasV.mem⟩); simp only [hr, Option.bind_some] at HG; have hz := num_small hr hz; clear hr)
      | (go_at_call 76; have hq := eyeL hL (fun _ => .here _) (fun h => eye_Text g _ 512 _ h hz); (with_reducible refine hq.mono ?_); clear hq; rintro e w1 (⟨hr, ⟨c, hc, rfl⟩, s', hm⟩ | ⟨x, s', hr, rfl, hL⟩); (rw [hr] at HG; exact ⟨rfl, BodyAns.no HG ⟨c, hc, rfl⟩ hm HasV.mem⟩); simp only [hr, Option.bind_some] at HG; have hz := text_small hr hz; clear hr)
      | ((with_reducible refine gAlloc rfl rfl ?_); (refine ev_allocL rfl hL rfl (by first | exact cells_agg _ rfl | exact cells_int _ _ | exact cells_str _ | exact cells_bool _ | exact cells_slice _ _ _ | exact cells_ptr _ | exact cells_map _ | exact cells_func _ _ _ | exact cells_nilFunc | exact cells_one (by assumption) (by assumption)) ?_; clear hL; intro gq wq hL)) | ((with_reducible refine gBox rfl rfl ?_); (refine ev_boxL rfl hL rfl rfl (by first | exact cells_agg _ rfl | exact cells_int _ _ | exact cells_str _ | exact cells_bool _ | exact cells_slice _ _ _ | exact cells_ptr _ | exact cells_map _ | exact cells_func _ _ _ | exact cells_nilFunc | exact cells_one (by assumption) (by assumption)) ?_; clear hL; intro gq wq hL)) | ((with_reducible refine gLoad rfl rfl ?_); (first | (refine ev_load1L rfl hL rfl rfl HasV.mem (by rfl) ?_) | (refine ev_loadAllL rfl hL rfl rfl HasV.mem (by rfl) ?_) | (refine ev_loadL rfl hL rfl rfl HasV.mem SegC.seg ?_))) | ((with_reducible refine gStore rfl rfl ?_); (first | (refine ev_storeC rfl hL rfl rfl rfl (by first | exact cells_agg _ rfl | exact cells_int _ _ | exact cells_str _ | exact cells_bool _ | exact cells_slice _ _ _ | exact cells_ptr _ | exact cells_map _ | exact cells_func _ _ _ | exact cells_nilFunc | exact cells_one (by assumption) (by assumption)) (by rfl) ?_) | (refine ev_storeAllC rfl hL rfl rfl rfl (by first | exact cells_agg _ rfl | exact cells_int _ _ | exact cells_str _ | exact cells_bool _ | exact cells_slice _ _ _ | exact cells_ptr _ | exact cells_map _ | exact cells_func _ _ _ | exact cells_nilFunc | exact cells_one (by assumption) (by assumption)) (by rfl) (by rfl) ?_)); clear hL; intro wq hL) | ((with_reducible refine gLoadG rfl rfl ?_ ?_); (exact wanted_some rfl rfl rfl (by with_reducible rfl)); (first | (refine ev_load1G (wanted_some rfl rfl rfl rfl) hL rfl rfl HasV.mem (by rfl) ?_) | (refine ev_loadAllG (wanted_some rfl rfl rfl rfl) hL rfl rfl HasV.mem (by rfl) ?_) | (refine ev_loadG_ (wanted_some rfl rfl rfl rfl) hL rfl rfl HasV.mem SegC.seg ?_))))
    go_end0
    exact BodyAns.yes HG hL HasV.mem HasV.mem rfl
  have t1 : (k == 1) = false := by simpa using k1
  have t2 : (k == 2) = false := by simpa using k2
  by_cases k4 : k = 4
  · subst k4
    simp only [↓reduceIte, show ¬ (4 : Int) = 1 from by decide, show ¬ (4 : Int) = 2 from by decide] at HG
    clear k1 k2 t1 t2
    go_wp2_with (first
      | (go_at_call 75; have hq := eyeL hL (fun _ => .here _) (fun h => see_Mark g _ _ h hz); (with_reducible refine hq.mono ?_); clear hq; rintro e w1 (⟨hr, ⟨c, hc, rfl⟩, s', hm⟩ | ⟨x, s', hr, rfl, hL⟩); (rw [hr] at HG; exact ⟨rfl, BodyAns.no HG ⟨c, hc, rfl⟩ hm HasV.mem⟩); simp only [hr, Option.bind_some] at HG; have hz := mark_small hr hz; clear hr)
      | (go_at_call 73; have hq := eyeL hL (fun _ => .here _) (fun h => eye_Num2 g _ _ h hz); (with_reducible refine hq.mono ?_); clear hq; rintro e w1 (⟨hr, ⟨c, hc, rfl⟩, s', hm⟩ | ⟨x, s', hr, rfl, hL⟩); (rw [hr] at HG; exact ⟨rfl, BodyAns.no HG ⟨c, hc, rfl⟩ hm HasV.mem⟩); simp only [hr, Option.bind_some] at HG; have hz := num_small hr hz; clear hr)
      | (go_at_call 76; have hq := eyeL hL (fun _ => .here _) (fun h => eye_Text g _ 512 _ h hz); (with_reducible refine hq.mono ?_); clear hq; rintro e w1 (⟨hr, ⟨c, hc, rfl⟩, s', hm⟩ | ⟨x, s', hr, rfl, hL⟩); (rw [hr] at HG; exact ⟨rfl, BodyAns.no HG ⟨c, hc, rfl⟩ hm HasV.mem⟩); simp only [hr, Option.bind_some] at HG; have hz := text_small hr hz; clear hr)
      | ((with_reducible refine gAlloc rfl rfl ?_); (refine ev_allocL rfl hL rfl (by first | exact cells_agg _ rfl | exact cells_int _ _ | exact cells_str _ | exact cells_bool _ | exact cells_slice _ _ _ | exact cells_ptr _ | exact cells_map _ | exact cells_func _ _ _ | exact cells_nilFunc | exact cells_one (by assumption) (by assumption)) ?_; clear hL; intro gq wq hL)) | ((with_reducible refine gBox rfl rfl ?_); (refine ev_boxL rfl hL rfl rfl (by first | exact cells_agg _ rfl | exact cells_int _ _ | exact cells_str _ | exact cells_bool _ | exact cells_slice _ _ _ | exact cells_ptr _ | exact cells_map _ | exact cells_func _ _ _ | exact cells_nilFunc | exact cells_one (by assumption) (by assumption)) ?_; clear hL; intro gq wq hL)) | ((with_reducible refine gLoad rfl rfl ?_); (first | (refine ev_load1L rfl hL rfl rfl HasV.mem (by rfl) ?_) | (refine ev_loadAllL rfl hL rfl rfl HasV.mem (by rfl) ?_) | (refine ev_loadL rfl hL rfl rfl HasV.mem SegC.seg ?_))) | ((with_reducible refine gStore rfl rfl ?_); (first | (refine ev_storeC rfl hL rfl rfl rfl (by first | exact cells_agg _ rfl | exact cells_int _ _ | exact cells_str _ | exact cells_bool _ | exact cells_slice _ _ _ | exact cells_ptr _ | exact cells_map _ | exact cells_func _ _ _ | exact cells_nilFunc | exact cells_one (by assumption) (by assumption)) (by rfl) ?_) | (refine ev_storeAllC rfl hL rfl rfl rfl (by first | exact cells_agg _ rfl | exact cells_int _ _ | exact cells_str _ | exact cells_bool _ | exact cells_slice _ _ _ | exact cells_ptr _ | exact cells_map _ | exact cells_func _ _ _ | exact cells_nilFunc | exact cells_one (by assumption) (by assumption)) (by rfl) (by rfl) ?_)); clear hL; intro wq hL) | ((with_reducible refine gLoadG rfl rfl ?_ ?_); (exact wanted_some rfl rfl rfl (by with_reducible rfl)); (first | (refine ev_load1G (wanted_some rfl rfl rfl rfl) hL rfl rfl HasV.mem (by rfl) ?_) | (refine ev_loadAllG (wanted_some rfl rfl rfl rfl) hL rfl rfl HasV.mem (by rfl) ?_) | (refine ev_loadG_ (wanted_some rfl rfl rfl rfl) hL rfl rfl HasV.mem SegC.seg ?_))))
    go_end0
    exact BodyAns.yes HG hL HasV.mem HasV.mem rfl
  · have t4 : (k == 4) = false := by simpa using k4
    simp only [if_neg k1, if_neg k2, if_neg k4] at HG
    clear k1 k2 k4
    go_wp2_with (first
      | (go_at_call 75; have hq := eyeL hL (fun _ => .here _) (fun h => see_Mark g _ _ h hz); (with_reducible refine hq.mono ?_); clear hq; rintro e w1 (⟨hr, ⟨c, hc, rfl⟩, s', hm⟩ | ⟨x, s', hr, rfl, hL⟩); (rw [hr] at HG; exact ⟨rfl, BodyAns.no HG ⟨c, hc, rfl⟩ hm HasV.mem⟩); simp only [hr, Option.bind_some] at HG; have hz := mark_small hr hz; clear hr)
      | (go_at_call 73; have hq := eyeL hL (fun _ => .here _) (fun h => eye_Num2 g _ _ h hz); (with_reducible refine hq.mono ?_); clear hq; rintro e w1 (⟨hr, ⟨c, hc, rfl⟩, s', hm⟩ | ⟨x, s', hr, rfl, hL⟩); (rw [hr] at HG; exact ⟨rfl, BodyAns.no HG ⟨c, hc, rfl⟩ hm HasV.mem⟩); simp only [hr, Option.bind_some] at HG; have hz := num_small hr hz; clear hr)
      | (go_at_call 76; have hq := eyeL hL (fun _ => .here _) (fun h => eye_Text g _ 512 _ h hz); (with_reducible refine hq.mono ?_); clear hq; rintro e w1 (⟨hr, ⟨c, hc, rfl⟩, s', hm⟩ | ⟨x, s', hr, rfl, hL⟩); (rw [hr] at HG; exact ⟨rfl, BodyAns.no HG ⟨c, hc, rfl⟩ hm HasV.mem⟩); simp only [hr, Option.bind_some] at HG; have hz := text_small hr hz; clear hr)
      | ((with_reducible refine gAlloc rfl rfl ?_); (refine ev_allocL rfl hL rfl (by first | exact cells_agg _ rfl | exact cells_int _ _ | exact cells_str _ | exact cells_bool _ | exact cells_slice _ _ _ | exact cells_ptr _ | exact cells_map _ | exact cells_func _ _ _ | exact cells_nilFunc | exact cells_one (by assumption) (by assumption)) ?_; clear hL; intro gq wq hL)) | ((with_reducible refine gBox rfl rfl ?_); (refine ev_boxL rfl hL rfl rfl (by first | exact cells_agg _ rfl | exact cells_int _ _ | exact cells_str _ | exact cells_bool _ | exact cells_slice _ _ _ | exact cells_ptr _ | exact cells_map _ | exact cells_func _ _ _ | exact cells_nilFunc | exact cells_one (by assumption) (by assumption)) ?_; clear hL; intro gq wq hL)) | ((with_reducible refine gLoad rfl rfl ?_); (first | (refine ev_load1L rfl hL rfl rfl HasV.mem (by rfl) ?_) | (refine ev_loadAllL rfl hL rfl rfl HasV.mem (by rfl) ?_) | (refine ev_loadL rfl hL rfl rfl HasV.mem SegC.seg ?_))) | ((with_reducible refine gStore rfl rfl ?_); (first | (refine ev_storeC rfl hL rfl rfl rfl (by first | exact cells_agg _ rfl | exact cells_int _ _ | exact cells_str _ | exact cells_bool _ | exact cells_slice _ _ _ | exact cells_ptr _ | exact cells_map _ | exact cells_func _ _ _ | exact cells_nilFunc | exact cells_one (by assumption) (by assumption)) (by rfl) ?_) | (refine ev_storeAllC rfl hL rfl rfl rfl (by first | exact cells_agg _ rfl | exact cells_int _ _ | exact cells_str _ | exact cells_bool _ | exact cells_slice _ _ _ | exact cells_ptr _ | exact cells_map _ | exact cells_func _ _ _ | exact cells_nilFunc | exact cells_one (by assumption) (by assumption)) (by rfl) (by rfl) ?_)); clear hL; intro wq hL) | ((with_reducible refine gLoadG rfl rfl ?_ ?_); (exact wanted_some rfl rfl rfl (by with_reducible rfl)); (first | (refine ev_load1G (wanted_some rfl rfl rfl rfl) hL rfl rfl HasV.mem (by rfl) ?_) | (refine ev_loadAllG (wanted_some rfl rfl rfl rfl) hL rfl rfl HasV.mem (by rfl) ?_) | (refine ev_loadG_ (wanted_some rfl rfl rfl rfl) hL rfl rfl HasV.mem SegC.seg ?_))))
    go_end0
    exact BodyAns.yes HG hL HasV.mem HasV.mem rfl
end Go.Proofs.YtbkffeabikjnhaaDoor

/- The document's reader: its eye. -/
namespace Go.Proofs.YtbkffeabikjnhaaDoor
open Go.RowKit

def RE (w : World) (g : Nat) (B : ByteArray) (pos : Int) (d : Bool) (bad : Int) : Prop := Box w g [.string B, .int .i64 pos, .bool d, .int .i64 bad].toArray 106
theorem RE.loc {w : World} {g : Nat} {B : ByteArray} {pos : Int} {d : Bool} {bad : Int} (h : RE w g B pos d bad) : Loc w (· = g) w [var g [.string B, .int .i64 pos, .bool d, .int .i64 bad] 106] := by
  refine ⟨.refl _ _, fun i hi => ?_, fun i hi k hk => ?_, .cons (by simp) .nil⟩
  · rw [List.mem_singleton.1 hi]; exact var_at h
  · rw [List.mem_singleton.1 hi] at hk; exact .inr hk
theorem re_failDead (g : Nat) (B : ByteArray) (pos bad c : Int) (w : World) (h : RE w g B pos true bad) :
    Calls Tryd.prog 111 #[.pointer (some ⟨g, 0, none⟩), .int .i64 c] w fun e w' => e = .returned (.tuple #[]) ∧ RE w' g B pos true bad ∧ Put w w' g := by
  have hL := h.loc
  go_enter Tryd.func111, Tryd.ntmps111
  go_wp2_with (first | ((with_reducible refine gAlloc rfl rfl ?_); (refine ev_allocL rfl hL rfl (by first | exact cells_agg _ rfl | exact cells_int _ _ | exact cells_str _ | exact cells_bool _ | exact cells_slice _ _ _ | exact cells_ptr _ | exact cells_map _ | exact cells_func _ _ _ | exact cells_nilFunc | exact cells_one (by assumption) (by assumption)) ?_; clear hL; intro gq wq hL)) | ((with_reducible refine gBox rfl rfl ?_); (refine ev_boxL rfl hL rfl rfl (by first | exact cells_agg _ rfl | exact cells_int _ _ | exact cells_str _ | exact cells_bool _ | exact cells_slice _ _ _ | exact cells_ptr _ | exact cells_map _ | exact cells_func _ _ _ | exact cells_nilFunc | exact cells_one (by assumption) (by assumption)) ?_; clear hL; intro gq wq hL)) | ((with_reducible refine gLoad rfl rfl ?_); (first | (refine ev_load1L rfl hL rfl rfl HasV.mem (by rfl) ?_) | (refine ev_loadAllL rfl hL rfl rfl HasV.mem (by rfl) ?_) | (refine ev_loadL rfl hL rfl rfl HasV.mem SegC.seg ?_))) | ((with_reducible refine gStore rfl rfl ?_); (first | (refine ev_storeC rfl hL rfl rfl rfl (by first | exact cells_agg _ rfl | exact cells_int _ _ | exact cells_str _ | exact cells_bool _ | exact cells_slice _ _ _ | exact cells_ptr _ | exact cells_map _ | exact cells_func _ _ _ | exact cells_nilFunc | exact cells_one (by assumption) (by assumption)) (by rfl) ?_) | (refine ev_storeAllC rfl hL rfl rfl rfl (by first | exact cells_agg _ rfl | exact cells_int _ _ | exact cells_str _ | exact cells_bool _ | exact cells_slice _ _ _ | exact cells_ptr _ | exact cells_map _ | exact cells_func _ _ _ | exact cells_nilFunc | exact cells_one (by assumption) (by assumption)) (by rfl) (by rfl) ?_)); clear hL; intro wq hL) | ((with_reducible refine gLoadG rfl rfl ?_ ?_); (exact wanted_some rfl rfl rfl (by with_reducible rfl)); (first | (refine ev_load1G (wanted_some rfl rfl rfl rfl) hL rfl rfl HasV.mem (by rfl) ?_) | (refine ev_loadAllG (wanted_some rfl rfl rfl rfl) hL rfl rfl HasV.mem (by rfl) ?_) | (refine ev_loadG_ (wanted_some rfl rfl rfl rfl) hL rfl rfl HasV.mem SegC.seg ?_))))
  go_end0
  exact ⟨rfl, hL.box HasV.mem, Mod.put hL.mod⟩
theorem re_fail (g : Nat) (B : ByteArray) (pos bad c : Int) (w : World) (h : RE w g B pos false bad) :
    Calls Tryd.prog 111 #[.pointer (some ⟨g, 0, none⟩), .int .i64 c] w fun e w' => e = .returned (.tuple #[]) ∧ RE w' g B pos true c ∧ Put w w' g := by
  have hL := h.loc
  go_enter Tryd.func111, Tryd.ntmps111
  go_wp2_with (first | ((with_reducible refine gAlloc rfl rfl ?_); (refine ev_allocL rfl hL rfl (by first | exact cells_agg _ rfl | exact cells_int _ _ | exact cells_str _ | exact cells_bool _ | exact cells_slice _ _ _ | exact cells_ptr _ | exact cells_map _ | exact cells_func _ _ _ | exact cells_nilFunc | exact cells_one (by assumption) (by assumption)) ?_; clear hL; intro gq wq hL)) | ((with_reducible refine gBox rfl rfl ?_); (refine ev_boxL rfl hL rfl rfl (by first | exact cells_agg _ rfl | exact cells_int _ _ | exact cells_str _ | exact cells_bool _ | exact cells_slice _ _ _ | exact cells_ptr _ | exact cells_map _ | exact cells_func _ _ _ | exact cells_nilFunc | exact cells_one (by assumption) (by assumption)) ?_; clear hL; intro gq wq hL)) | ((with_reducible refine gLoad rfl rfl ?_); (first | (refine ev_load1L rfl hL rfl rfl HasV.mem (by rfl) ?_) | (refine ev_loadAllL rfl hL rfl rfl HasV.mem (by rfl) ?_) | (refine ev_loadL rfl hL rfl rfl HasV.mem SegC.seg ?_))) | ((with_reducible refine gStore rfl rfl ?_); (first | (refine ev_storeC rfl hL rfl rfl rfl (by first | exact cells_agg _ rfl | exact cells_int _ _ | exact cells_str _ | exact cells_bool _ | exact cells_slice _ _ _ | exact cells_ptr _ | exact cells_map _ | exact cells_func _ _ _ | exact cells_nilFunc | exact cells_one (by assumption) (by assumption)) (by rfl) ?_) | (refine ev_storeAllC rfl hL rfl rfl rfl (by first | exact cells_agg _ rfl | exact cells_int _ _ | exact cells_str _ | exact cells_bool _ | exact cells_slice _ _ _ | exact cells_ptr _ | exact cells_map _ | exact cells_func _ _ _ | exact cells_nilFunc | exact cells_one (by assumption) (by assumption)) (by rfl) (by rfl) ?_)); clear hL; intro wq hL) | ((with_reducible refine gLoadG rfl rfl ?_ ?_); (exact wanted_some rfl rfl rfl (by with_reducible rfl)); (first | (refine ev_load1G (wanted_some rfl rfl rfl rfl) hL rfl rfl HasV.mem (by rfl) ?_) | (refine ev_loadAllG (wanted_some rfl rfl rfl rfl) hL rfl rfl HasV.mem (by rfl) ?_) | (refine ev_loadG_ (wanted_some rfl rfl rfl rfl) hL rfl rfl HasV.mem SegC.seg ?_))))
  go_end0
  exact ⟨rfl, hL.box HasV.mem, Mod.put hL.mod⟩
theorem re_rawDead (g : Nat) (B : ByteArray) (pos bad n : Int) (w : World) (h : RE w g B pos true bad) :
    Calls Tryd.prog 112 #[.pointer (some ⟨g, 0, none⟩), .int .i64 n] w fun e w' => e = .returned (.string ⟨#[]⟩) ∧ RE w' g B pos true bad ∧ Put w w' g := by
  have hL := h.loc
  go_enter Tryd.func112, Tryd.ntmps112
  go_wp2_with (first | ((with_reducible refine gAlloc rfl rfl ?_); (refine ev_allocL rfl hL rfl (by first | exact cells_agg _ rfl | exact cells_int _ _ | exact cells_str _ | exact cells_bool _ | exact cells_slice _ _ _ | exact cells_ptr _ | exact cells_map _ | exact cells_func _ _ _ | exact cells_nilFunc | exact cells_one (by assumption) (by assumption)) ?_; clear hL; intro gq wq hL)) | ((with_reducible refine gBox rfl rfl ?_); (refine ev_boxL rfl hL rfl rfl (by first | exact cells_agg _ rfl | exact cells_int _ _ | exact cells_str _ | exact cells_bool _ | exact cells_slice _ _ _ | exact cells_ptr _ | exact cells_map _ | exact cells_func _ _ _ | exact cells_nilFunc | exact cells_one (by assumption) (by assumption)) ?_; clear hL; intro gq wq hL)) | ((with_reducible refine gLoad rfl rfl ?_); (first | (refine ev_load1L rfl hL rfl rfl HasV.mem (by rfl) ?_) | (refine ev_loadAllL rfl hL rfl rfl HasV.mem (by rfl) ?_) | (refine ev_loadL rfl hL rfl rfl HasV.mem SegC.seg ?_))) | ((with_reducible refine gStore rfl rfl ?_); (first | (refine ev_storeC rfl hL rfl rfl rfl (by first | exact cells_agg _ rfl | exact cells_int _ _ | exact cells_str _ | exact cells_bool _ | exact cells_slice _ _ _ | exact cells_ptr _ | exact cells_map _ | exact cells_func _ _ _ | exact cells_nilFunc | exact cells_one (by assumption) (by assumption)) (by rfl) ?_) | (refine ev_storeAllC rfl hL rfl rfl rfl (by first | exact cells_agg _ rfl | exact cells_int _ _ | exact cells_str _ | exact cells_bool _ | exact cells_slice _ _ _ | exact cells_ptr _ | exact cells_map _ | exact cells_func _ _ _ | exact cells_nilFunc | exact cells_one (by assumption) (by assumption)) (by rfl) (by rfl) ?_)); clear hL; intro wq hL) | ((with_reducible refine gLoadG rfl rfl ?_ ?_); (exact wanted_some rfl rfl rfl (by with_reducible rfl)); (first | (refine ev_load1G (wanted_some rfl rfl rfl rfl) hL rfl rfl HasV.mem (by rfl) ?_) | (refine ev_loadAllG (wanted_some rfl rfl rfl rfl) hL rfl rfl HasV.mem (by rfl) ?_) | (refine ev_loadG_ (wanted_some rfl rfl rfl rfl) hL rfl rfl HasV.mem SegC.seg ?_))))
  go_ret
  exact ⟨rfl, hL.box HasV.mem, Mod.put hL.mod⟩
theorem re_rawNo (g : Nat) (B : ByteArray) (at_ : Nat) (bad : Int) (n : Nat) (w : World) (h : RE w g B at_ false bad) (hat : at_ ≤ B.size) (hn : B.size - at_ < n) (hB : B.size ≤ 100000000000) :
    Calls Tryd.prog 112 #[.pointer (some ⟨g, 0, none⟩), .int .i64 n] w fun e w' => e = .returned (.string ⟨#[]⟩) ∧ RE w' g B at_ true 201 ∧ Put w w' g := by
  have hL := h.loc
  have t0 : decide ((n : Int) < 0) = false := by simp
  have t1 : decide ((B.size : Int) - (at_ : Int) < (n : Int)) = true := by simp; omega
  go_enter Tryd.func112, Tryd.ntmps112
  go_wp2_with (first | ((with_reducible refine gAlloc rfl rfl ?_); (refine ev_allocL rfl hL rfl (by first | exact cells_agg _ rfl | exact cells_int _ _ | exact cells_str _ | exact cells_bool _ | exact cells_slice _ _ _ | exact cells_ptr _ | exact cells_map _ | exact cells_func _ _ _ | exact cells_nilFunc | exact cells_one (by assumption) (by assumption)) ?_; clear hL; intro gq wq hL)) | ((with_reducible refine gBox rfl rfl ?_); (refine ev_boxL rfl hL rfl rfl (by first | exact cells_agg _ rfl | exact cells_int _ _ | exact cells_str _ | exact cells_bool _ | exact cells_slice _ _ _ | exact cells_ptr _ | exact cells_map _ | exact cells_func _ _ _ | exact cells_nilFunc | exact cells_one (by assumption) (by assumption)) ?_; clear hL; intro gq wq hL)) | ((with_reducible refine gLoad rfl rfl ?_); (first | (refine ev_load1L rfl hL rfl rfl HasV.mem (by rfl) ?_) | (refine ev_loadAllL rfl hL rfl rfl HasV.mem (by rfl) ?_) | (refine ev_loadL rfl hL rfl rfl HasV.mem SegC.seg ?_))) | ((with_reducible refine gStore rfl rfl ?_); (first | (refine ev_storeC rfl hL rfl rfl rfl (by first | exact cells_agg _ rfl | exact cells_int _ _ | exact cells_str _ | exact cells_bool _ | exact cells_slice _ _ _ | exact cells_ptr _ | exact cells_map _ | exact cells_func _ _ _ | exact cells_nilFunc | exact cells_one (by assumption) (by assumption)) (by rfl) ?_) | (refine ev_storeAllC rfl hL rfl rfl rfl (by first | exact cells_agg _ rfl | exact cells_int _ _ | exact cells_str _ | exact cells_bool _ | exact cells_slice _ _ _ | exact cells_ptr _ | exact cells_map _ | exact cells_func _ _ _ | exact cells_nilFunc | exact cells_one (by assumption) (by assumption)) (by rfl) (by rfl) ?_)); clear hL; intro wq hL) | ((with_reducible refine gLoadG rfl rfl ?_ ?_); (exact wanted_some rfl rfl rfl (by with_reducible rfl)); (first | (refine ev_load1G (wanted_some rfl rfl rfl rfl) hL rfl rfl HasV.mem (by rfl) ?_) | (refine ev_loadAllG (wanted_some rfl rfl rfl rfl) hL rfl rfl HasV.mem (by rfl) ?_) | (refine ev_loadG_ (wanted_some rfl rfl rfl rfl) hL rfl rfl HasV.mem SegC.seg ?_))))
  ((try simp only [Act.put, List.setIfInBounds_toArray, List.set_cons_succ, List.set_cons_zero]); refine wp_region_ext (by kernel_rfl) (by kernel_rfl) ?_; (repeat (first | (go_big_quiet_want; (first | refine quiet_load1L hL rfl rfl HasV.mem (by rfl) ?_ | refine quiet_loadAllL hL rfl rfl HasV.mem (by rfl) ?_ | refine quiet_loadL hL rfl rfl HasV.mem SegC.seg ?_); go_big_quiet_on; simp only [Act.put, List.setIfInBounds_toArray, List.set_cons_succ, List.set_cons_zero]) | go_big_quiet_step (fail))); refine wpQuiet_nil ?_; rintro _ ⟨⟨w2, hb2⟩, rfl⟩; have hL := (hL).call hb2; clear hb2)
  go_wp2_with (first
    | (go_at_call 111; have hq := re_fail g B at_ bad 201 _ (hL.box HasV.mem); (with_reducible refine hq.mono ?_); rintro e w3 ⟨rfl, hx3, hp3⟩; have hL := hL.turn hp3 hx3; clear hq hx3 hp3)
    | ((with_reducible refine gAlloc rfl rfl ?_); (refine ev_allocL rfl hL rfl (by first | exact cells_agg _ rfl | exact cells_int _ _ | exact cells_str _ | exact cells_bool _ | exact cells_slice _ _ _ | exact cells_ptr _ | exact cells_map _ | exact cells_func _ _ _ | exact cells_nilFunc | exact cells_one (by assumption) (by assumption)) ?_; clear hL; intro gq wq hL)) | ((with_reducible refine gBox rfl rfl ?_); (refine ev_boxL rfl hL rfl rfl (by first | exact cells_agg _ rfl | exact cells_int _ _ | exact cells_str _ | exact cells_bool _ | exact cells_slice _ _ _ | exact cells_ptr _ | exact cells_map _ | exact cells_func _ _ _ | exact cells_nilFunc | exact cells_one (by assumption) (by assumption)) ?_; clear hL; intro gq wq hL)) | ((with_reducible refine gLoad rfl rfl ?_); (first | (refine ev_load1L rfl hL rfl rfl HasV.mem (by rfl) ?_) | (refine ev_loadAllL rfl hL rfl rfl HasV.mem (by rfl) ?_) | (refine ev_loadL rfl hL rfl rfl HasV.mem SegC.seg ?_))) | ((with_reducible refine gStore rfl rfl ?_); (first | (refine ev_storeC rfl hL rfl rfl rfl (by first | exact cells_agg _ rfl | exact cells_int _ _ | exact cells_str _ | exact cells_bool _ | exact cells_slice _ _ _ | exact cells_ptr _ | exact cells_map _ | exact cells_func _ _ _ | exact cells_nilFunc | exact cells_one (by assumption) (by assumption)) (by rfl) ?_) | (refine ev_storeAllC rfl hL rfl rfl rfl (by first | exact cells_agg _ rfl | exact cells_int _ _ | exact cells_str _ | exact cells_bool _ | exact cells_slice _ _ _ | exact cells_ptr _ | exact cells_map _ | exact cells_func _ _ _ | exact cells_nilFunc | exact cells_one (by assumption) (by assumption)) (by rfl) (by rfl) ?_)); clear hL; intro wq hL) | ((with_reducible refine gLoadG rfl rfl ?_ ?_); (exact wanted_some rfl rfl rfl (by with_reducible rfl)); (first | (refine ev_load1G (wanted_some rfl rfl rfl rfl) hL rfl rfl HasV.mem (by rfl) ?_) | (refine ev_loadAllG (wanted_some rfl rfl rfl rfl) hL rfl rfl HasV.mem (by rfl) ?_) | (refine ev_loadG_ (wanted_some rfl rfl rfl rfl) hL rfl rfl HasV.mem SegC.seg ?_))))
  go_ret
  exact ⟨rfl, hL.box HasV.mem, Mod.put hL.mod⟩
theorem re_raw (g : Nat) (B : ByteArray) (at_ : Nat) (bad : Int) (n : Nat) (w : World) (h : RE w g B at_ false bad) (hat : at_ ≤ B.size) (hn : n ≤ B.size - at_) (hB : B.size ≤ 100000000000) :
    Calls Tryd.prog 112 #[.pointer (some ⟨g, 0, none⟩), .int .i64 n] w fun e w' => e = .returned (.string ((eat B at_).extract 0 n)) ∧ RE w' g B (at_ + n : Nat) false bad ∧ Put w w' g := by
  have hL := h.loc
  have t0 : decide ((n : Int) < 0) = false := by simp
  have t1 : decide ((B.size : Int) - (at_ : Int) < (n : Int)) = false := by simp; omega
  have he : (eat B at_).extract 0 n = B.extract at_ (at_ + n) := by
    apply ba_ext
    unfold eat
    rw [ByteArray.data_extract, ByteArray.data_extract, ByteArray.data_extract]
    simp
    omega
  rw [he]
  go_enter Tryd.func112, Tryd.ntmps112
  go_wp2_with (first | ((with_reducible refine gAlloc rfl rfl ?_); (refine ev_allocL rfl hL rfl (by first | exact cells_agg _ rfl | exact cells_int _ _ | exact cells_str _ | exact cells_bool _ | exact cells_slice _ _ _ | exact cells_ptr _ | exact cells_map _ | exact cells_func _ _ _ | exact cells_nilFunc | exact cells_one (by assumption) (by assumption)) ?_; clear hL; intro gq wq hL)) | ((with_reducible refine gBox rfl rfl ?_); (refine ev_boxL rfl hL rfl rfl (by first | exact cells_agg _ rfl | exact cells_int _ _ | exact cells_str _ | exact cells_bool _ | exact cells_slice _ _ _ | exact cells_ptr _ | exact cells_map _ | exact cells_func _ _ _ | exact cells_nilFunc | exact cells_one (by assumption) (by assumption)) ?_; clear hL; intro gq wq hL)) | ((with_reducible refine gLoad rfl rfl ?_); (first | (refine ev_load1L rfl hL rfl rfl HasV.mem (by rfl) ?_) | (refine ev_loadAllL rfl hL rfl rfl HasV.mem (by rfl) ?_) | (refine ev_loadL rfl hL rfl rfl HasV.mem SegC.seg ?_))) | ((with_reducible refine gStore rfl rfl ?_); (first | (refine ev_storeC rfl hL rfl rfl rfl (by first | exact cells_agg _ rfl | exact cells_int _ _ | exact cells_str _ | exact cells_bool _ | exact cells_slice _ _ _ | exact cells_ptr _ | exact cells_map _ | exact cells_func _ _ _ | exact cells_nilFunc | exact cells_one (by assumption) (by assumption)) (by rfl) ?_) | (refine ev_storeAllC rfl hL rfl rfl rfl (by first | exact cells_agg _ rfl | exact cells_int _ _ | exact cells_str _ | exact cells_bool _ | exact cells_slice _ _ _ | exact cells_ptr _ | exact cells_map _ | exact cells_func _ _ _ | exact cells_nilFunc | exact cells_one (by assumption) (by assumption)) (by rfl) (by rfl) ?_)); clear hL; intro wq hL) | ((with_reducible refine gLoadG rfl rfl ?_ ?_); (exact wanted_some rfl rfl rfl (by with_reducible rfl)); (first | (refine ev_load1G (wanted_some rfl rfl rfl rfl) hL rfl rfl HasV.mem (by rfl) ?_) | (refine ev_loadAllG (wanted_some rfl rfl rfl rfl) hL rfl rfl HasV.mem (by rfl) ?_) | (refine ev_loadG_ (wanted_some rfl rfl rfl rfl) hL rfl rfl HasV.mem SegC.seg ?_))))
  ((try simp only [Act.put, List.setIfInBounds_toArray, List.set_cons_succ, List.set_cons_zero]); refine wp_region_ext (by kernel_rfl) (by kernel_rfl) ?_; (repeat (first | (go_big_quiet_want; (first | refine quiet_load1L hL rfl rfl HasV.mem (by rfl) ?_ | refine quiet_loadAllL hL rfl rfl HasV.mem (by rfl) ?_ | refine quiet_loadL hL rfl rfl HasV.mem SegC.seg ?_); go_big_quiet_on; simp only [Act.put, List.setIfInBounds_toArray, List.set_cons_succ, List.set_cons_zero]) | go_big_quiet_step (fail))); refine wpQuiet_nil ?_; rintro _ ⟨⟨w2, hb2⟩, rfl⟩; have hL := (hL).call hb2; clear hb2)
  go_wp2_with (first | ((with_reducible refine gAlloc rfl rfl ?_); (refine ev_allocL rfl hL rfl (by first | exact cells_agg _ rfl | exact cells_int _ _ | exact cells_str _ | exact cells_bool _ | exact cells_slice _ _ _ | exact cells_ptr _ | exact cells_map _ | exact cells_func _ _ _ | exact cells_nilFunc | exact cells_one (by assumption) (by assumption)) ?_; clear hL; intro gq wq hL)) | ((with_reducible refine gBox rfl rfl ?_); (refine ev_boxL rfl hL rfl rfl (by first | exact cells_agg _ rfl | exact cells_int _ _ | exact cells_str _ | exact cells_bool _ | exact cells_slice _ _ _ | exact cells_ptr _ | exact cells_map _ | exact cells_func _ _ _ | exact cells_nilFunc | exact cells_one (by assumption) (by assumption)) ?_; clear hL; intro gq wq hL)) | ((with_reducible refine gLoad rfl rfl ?_); (first | (refine ev_load1L rfl hL rfl rfl HasV.mem (by rfl) ?_) | (refine ev_loadAllL rfl hL rfl rfl HasV.mem (by rfl) ?_) | (refine ev_loadL rfl hL rfl rfl HasV.mem SegC.seg ?_))) | ((with_reducible refine gStore rfl rfl ?_); (first | (refine ev_storeC rfl hL rfl rfl rfl (by first | exact cells_agg _ rfl | exact cells_int _ _ | exact cells_str _ | exact cells_bool _ | exact cells_slice _ _ _ | exact cells_ptr _ | exact cells_map _ | exact cells_func _ _ _ | exact cells_nilFunc | exact cells_one (by assumption) (by assumption)) (by rfl) ?_) | (refine ev_storeAllC rfl hL rfl rfl rfl (by first | exact cells_agg _ rfl | exact cells_int _ _ | exact cells_str _ | exact cells_bool _ | exact cells_slice _ _ _ | exact cells_ptr _ | exact cells_map _ | exact cells_func _ _ _ | exact cells_nilFunc | exact cells_one (by assumption) (by assumption)) (by rfl) (by rfl) ?_)); clear hL; intro wq hL) | ((with_reducible refine gLoadG rfl rfl ?_ ?_); (exact wanted_some rfl rfl rfl (by with_reducible rfl)); (first | (refine ev_load1G (wanted_some rfl rfl rfl rfl) hL rfl rfl HasV.mem (by rfl) ?_) | (refine ev_loadAllG (wanted_some rfl rfl rfl rfl) hL rfl rfl HasV.mem (by rfl) ?_) | (refine ev_loadG_ (wanted_some rfl rfl rfl rfl) hL rfl rfl HasV.mem SegC.seg ?_))))
  ((try simp only [Act.put, List.setIfInBounds_toArray, List.set_cons_succ, List.set_cons_zero]); refine wp_region_ext (by kernel_rfl) (by kernel_rfl) ?_; (repeat (first | (go_big_quiet_want; (first | refine quiet_load1L hL rfl rfl HasV.mem (by rfl) ?_ | refine quiet_loadAllL hL rfl rfl HasV.mem (by rfl) ?_ | refine quiet_loadL hL rfl rfl HasV.mem SegC.seg ?_); go_big_quiet_on; simp only [Act.put, List.setIfInBounds_toArray, List.set_cons_succ, List.set_cons_zero]) | go_big_quiet_step (fail))); refine wpQuiet_nil ?_; rintro _ ⟨⟨w2, hb2⟩, rfl⟩; have hL := (hL).call hb2; clear hb2)
  go_wp2_with (first | ((with_reducible refine gAlloc rfl rfl ?_); (refine ev_allocL rfl hL rfl (by first | exact cells_agg _ rfl | exact cells_int _ _ | exact cells_str _ | exact cells_bool _ | exact cells_slice _ _ _ | exact cells_ptr _ | exact cells_map _ | exact cells_func _ _ _ | exact cells_nilFunc | exact cells_one (by assumption) (by assumption)) ?_; clear hL; intro gq wq hL)) | ((with_reducible refine gBox rfl rfl ?_); (refine ev_boxL rfl hL rfl rfl (by first | exact cells_agg _ rfl | exact cells_int _ _ | exact cells_str _ | exact cells_bool _ | exact cells_slice _ _ _ | exact cells_ptr _ | exact cells_map _ | exact cells_func _ _ _ | exact cells_nilFunc | exact cells_one (by assumption) (by assumption)) ?_; clear hL; intro gq wq hL)) | ((with_reducible refine gLoad rfl rfl ?_); (first | (refine ev_load1L rfl hL rfl rfl HasV.mem (by rfl) ?_) | (refine ev_loadAllL rfl hL rfl rfl HasV.mem (by rfl) ?_) | (refine ev_loadL rfl hL rfl rfl HasV.mem SegC.seg ?_))) | ((with_reducible refine gStore rfl rfl ?_); (first | (refine ev_storeC rfl hL rfl rfl rfl (by first | exact cells_agg _ rfl | exact cells_int _ _ | exact cells_str _ | exact cells_bool _ | exact cells_slice _ _ _ | exact cells_ptr _ | exact cells_map _ | exact cells_func _ _ _ | exact cells_nilFunc | exact cells_one (by assumption) (by assumption)) (by rfl) ?_) | (refine ev_storeAllC rfl hL rfl rfl rfl (by first | exact cells_agg _ rfl | exact cells_int _ _ | exact cells_str _ | exact cells_bool _ | exact cells_slice _ _ _ | exact cells_ptr _ | exact cells_map _ | exact cells_func _ _ _ | exact cells_nilFunc | exact cells_one (by assumption) (by assumption)) (by rfl) (by rfl) ?_)); clear hL; intro wq hL) | ((with_reducible refine gLoadG rfl rfl ?_ ?_); (exact wanted_some rfl rfl rfl (by with_reducible rfl)); (first | (refine ev_load1G (wanted_some rfl rfl rfl rfl) hL rfl rfl HasV.mem (by rfl) ?_) | (refine ev_loadAllG (wanted_some rfl rfl rfl rfl) hL rfl rfl HasV.mem (by rfl) ?_) | (refine ev_loadG_ (wanted_some rfl rfl rfl rfl) hL rfl rfl HasV.mem SegC.seg ?_))))
  go_ret
  exact ⟨rfl, hL.box HasV.mem, Mod.put hL.mod⟩
end Go.Proofs.YtbkffeabikjnhaaDoor

/- The document's reader: numbers, texts, its end; each as a look. -/
namespace Go.Proofs.YtbkffeabikjnhaaDoor
open Go.RowKit

theorem re_numDead (g : Nat) (B : ByteArray) (pos bad n : Int) (w : World) (h : RE w g B pos true bad) :
    Calls Tryd.prog 78 #[.pointer (some ⟨g, 0, none⟩), .int .i64 n] w fun e w' => e = .returned (.int .i64 0) ∧ RE w' g B pos true bad ∧ Put w w' g := by
  have hL := h.loc
  go_enter Tryd.func78, Tryd.ntmps78
  go_wp2_with (first | ((with_reducible refine gAlloc rfl rfl ?_); (refine ev_allocL rfl hL rfl (by first | exact cells_agg _ rfl | exact cells_int _ _ | exact cells_str _ | exact cells_bool _ | exact cells_slice _ _ _ | exact cells_ptr _ | exact cells_map _ | exact cells_func _ _ _ | exact cells_nilFunc | exact cells_one (by assumption) (by assumption)) ?_; clear hL; intro gq wq hL)) | ((with_reducible refine gBox rfl rfl ?_); (refine ev_boxL rfl hL rfl rfl (by first | exact cells_agg _ rfl | exact cells_int _ _ | exact cells_str _ | exact cells_bool _ | exact cells_slice _ _ _ | exact cells_ptr _ | exact cells_map _ | exact cells_func _ _ _ | exact cells_nilFunc | exact cells_one (by assumption) (by assumption)) ?_; clear hL; intro gq wq hL)) | ((with_reducible refine gLoad rfl rfl ?_); (first | (refine ev_load1L rfl hL rfl rfl HasV.mem (by rfl) ?_) | (refine ev_loadAllL rfl hL rfl rfl HasV.mem (by rfl) ?_) | (refine ev_loadL rfl hL rfl rfl HasV.mem SegC.seg ?_))) | ((with_reducible refine gStore rfl rfl ?_); (first | (refine ev_storeC rfl hL rfl rfl rfl (by first | exact cells_agg _ rfl | exact cells_int _ _ | exact cells_str _ | exact cells_bool _ | exact cells_slice _ _ _ | exact cells_ptr _ | exact cells_map _ | exact cells_func _ _ _ | exact cells_nilFunc | exact cells_one (by assumption) (by assumption)) (by rfl) ?_) | (refine ev_storeAllC rfl hL rfl rfl rfl (by first | exact cells_agg _ rfl | exact cells_int _ _ | exact cells_str _ | exact cells_bool _ | exact cells_slice _ _ _ | exact cells_ptr _ | exact cells_map _ | exact cells_func _ _ _ | exact cells_nilFunc | exact cells_one (by assumption) (by assumption)) (by rfl) (by rfl) ?_)); clear hL; intro wq hL) | ((with_reducible refine gLoadG rfl rfl ?_ ?_); (exact wanted_some rfl rfl rfl (by with_reducible rfl)); (first | (refine ev_load1G (wanted_some rfl rfl rfl rfl) hL rfl rfl HasV.mem (by rfl) ?_) | (refine ev_loadAllG (wanted_some rfl rfl rfl rfl) hL rfl rfl HasV.mem (by rfl) ?_) | (refine ev_loadG_ (wanted_some rfl rfl rfl rfl) hL rfl rfl HasV.mem SegC.seg ?_))))
  go_ret
  exact ⟨rfl, hL.box HasV.mem, Mod.put hL.mod⟩
theorem re_numNo (g : Nat) (B : ByteArray) (at_ : Nat) (bad : Int) (n : Nat) (w : World) (h : RE w g B at_ false bad) (hn1 : 1 ≤ n) (hn6 : n ≤ 6) (hat : at_ ≤ B.size) (hn : B.size - at_ < n) (hB : B.size ≤ 100000000000) :
    Calls Tryd.prog 78 #[.pointer (some ⟨g, 0, none⟩), .int .i64 n] w fun e w' => e = .returned (.int .i64 0) ∧ RE w' g B at_ true 201 ∧ Put w w' g := by
  have hL := h.loc
  have t0 : decide ((n : Int) < 1) = false := by simp; omega
  have t1 : decide ((8 : Int) < n) = false := by simp; omega
  go_enter Tryd.func78, Tryd.ntmps78
  go_wp2_with (first
    | (go_at_call 112; have hq := re_rawNo g B at_ bad n _ (hL.box HasV.mem) hat hn hB; (with_reducible refine hq.mono ?_); rintro e w3 ⟨rfl, hx3, hp3⟩; have hL := hL.turn hp3 hx3; clear hq hx3 hp3)
    | ((with_reducible refine gAlloc rfl rfl ?_); (refine ev_allocL rfl hL rfl (by first | exact cells_agg _ rfl | exact cells_int _ _ | exact cells_str _ | exact cells_bool _ | exact cells_slice _ _ _ | exact cells_ptr _ | exact cells_map _ | exact cells_func _ _ _ | exact cells_nilFunc | exact cells_one (by assumption) (by assumption)) ?_; clear hL; intro gq wq hL)) | ((with_reducible refine gBox rfl rfl ?_); (refine ev_boxL rfl hL rfl rfl (by first | exact cells_agg _ rfl | exact cells_int _ _ | exact cells_str _ | exact cells_bool _ | exact cells_slice _ _ _ | exact cells_ptr _ | exact cells_map _ | exact cells_func _ _ _ | exact cells_nilFunc | exact cells_one (by assumption) (by assumption)) ?_; clear hL; intro gq wq hL)) | ((with_reducible refine gLoad rfl rfl ?_); (first | (refine ev_load1L rfl hL rfl rfl HasV.mem (by rfl) ?_) | (refine ev_loadAllL rfl hL rfl rfl HasV.mem (by rfl) ?_) | (refine ev_loadL rfl hL rfl rfl HasV.mem SegC.seg ?_))) | ((with_reducible refine gStore rfl rfl ?_); (first | (refine ev_storeC rfl hL rfl rfl rfl (by first | exact cells_agg _ rfl | exact cells_int _ _ | exact cells_str _ | exact cells_bool _ | exact cells_slice _ _ _ | exact cells_ptr _ | exact cells_map _ | exact cells_func _ _ _ | exact cells_nilFunc | exact cells_one (by assumption) (by assumption)) (by rfl) ?_) | (refine ev_storeAllC rfl hL rfl rfl rfl (by first | exact cells_agg _ rfl | exact cells_int _ _ | exact cells_str _ | exact cells_bool _ | exact cells_slice _ _ _ | exact cells_ptr _ | exact cells_map _ | exact cells_func _ _ _ | exact cells_nilFunc | exact cells_one (by assumption) (by assumption)) (by rfl) (by rfl) ?_)); clear hL; intro wq hL) | ((with_reducible refine gLoadG rfl rfl ?_ ?_); (exact wanted_some rfl rfl rfl (by with_reducible rfl)); (first | (refine ev_load1G (wanted_some rfl rfl rfl rfl) hL rfl rfl HasV.mem (by rfl) ?_) | (refine ev_loadAllG (wanted_some rfl rfl rfl rfl) hL rfl rfl HasV.mem (by rfl) ?_) | (refine ev_loadG_ (wanted_some rfl rfl rfl rfl) hL rfl rfl HasV.mem SegC.seg ?_))))
  go_loopw [6, 7, 25] (fun u _ i wr => u = .int .u64 0 ∧ i = .int .i64 0 ∧ wr = w3) (fun _ _ _ _ => 0)
  case atStart => exact ⟨rfl, rfl, rfl⟩
  case round =>
    obtain ⟨rfl, rfl, rfl⟩ := hrel
    go_wp2_with (first | ((with_reducible refine gAlloc rfl rfl ?_); (refine ev_allocL rfl hL rfl (by first | exact cells_agg _ rfl | exact cells_int _ _ | exact cells_str _ | exact cells_bool _ | exact cells_slice _ _ _ | exact cells_ptr _ | exact cells_map _ | exact cells_func _ _ _ | exact cells_nilFunc | exact cells_one (by assumption) (by assumption)) ?_; clear hL; intro gq wq hL)) | ((with_reducible refine gBox rfl rfl ?_); (refine ev_boxL rfl hL rfl rfl (by first | exact cells_agg _ rfl | exact cells_int _ _ | exact cells_str _ | exact cells_bool _ | exact cells_slice _ _ _ | exact cells_ptr _ | exact cells_map _ | exact cells_func _ _ _ | exact cells_nilFunc | exact cells_one (by assumption) (by assumption)) ?_; clear hL; intro gq wq hL)) | ((with_reducible refine gLoad rfl rfl ?_); (first | (refine ev_load1L rfl hL rfl rfl HasV.mem (by rfl) ?_) | (refine ev_loadAllL rfl hL rfl rfl HasV.mem (by rfl) ?_) | (refine ev_loadL rfl hL rfl rfl HasV.mem SegC.seg ?_))) | ((with_reducible refine gStore rfl rfl ?_); (first | (refine ev_storeC rfl hL rfl rfl rfl (by first | exact cells_agg _ rfl | exact cells_int _ _ | exact cells_str _ | exact cells_bool _ | exact cells_slice _ _ _ | exact cells_ptr _ | exact cells_map _ | exact cells_func _ _ _ | exact cells_nilFunc | exact cells_one (by assumption) (by assumption)) (by rfl) ?_) | (refine ev_storeAllC rfl hL rfl rfl rfl (by first | exact cells_agg _ rfl | exact cells_int _ _ | exact cells_str _ | exact cells_bool _ | exact cells_slice _ _ _ | exact cells_ptr _ | exact cells_map _ | exact cells_func _ _ _ | exact cells_nilFunc | exact cells_one (by assumption) (by assumption)) (by rfl) (by rfl) ?_)); clear hL; intro wq hL) | ((with_reducible refine gLoadG rfl rfl ?_ ?_); (exact wanted_some rfl rfl rfl (by with_reducible rfl)); (first | (refine ev_load1G (wanted_some rfl rfl rfl rfl) hL rfl rfl HasV.mem (by rfl) ?_) | (refine ev_loadAllG (wanted_some rfl rfl rfl rfl) hL rfl rfl HasV.mem (by rfl) ?_) | (refine ev_loadG_ (wanted_some rfl rfl rfl rfl) hL rfl rfl HasV.mem SegC.seg ?_))))
    go_ret
    exact ⟨rfl, hL.box HasV.mem, Mod.put hL.mod⟩
theorem re_num (g : Nat) (B : ByteArray) (at_ : Nat) (bad : Int) (n : Nat) (w : World) (h : RE w g B at_ false bad) (hn1 : 1 ≤ n) (hn6 : n ≤ 6) (hat : at_ ≤ B.size) (hn : n ≤ B.size - at_) (hB : B.size ≤ 100000000000) :
    Calls Tryd.prog 78 #[.pointer (some ⟨g, 0, none⟩), .int .i64 n] w fun e w' => e = .returned (.int .i64 (numOf ((eat B at_).data.toList.take n))) ∧ RE w' g B (at_ + n : Nat) false bad ∧ Put w w' g := by
  have hL := h.loc
  have t0 : decide ((n : Int) < 1) = false := by simp; omega
  have t1 : decide ((8 : Int) < n) = false := by simp; omega
  have hes : (eat B at_).size = B.size - at_ := eat_size _ _
  have hraw := fun w h => hide (re_raw g B at_ bad n w h hat hn hB)
  have hXs : ((eat B at_).extract 0 n).size = n := by rw [ByteArray.size_extract]; omega
  have HX : Hid ((eat B at_).data.toList.take n = ((eat B at_).extract 0 n).data.toList) := Lib.hid (by simp)
  rw [HX.out]
  generalize (eat B at_).extract 0 n = X at *
  clear HX h hes
  go_enter Tryd.func78, Tryd.ntmps78
  go_wp2_with (first
    | (go_at_call 112; have hq := unhide (hraw _ (hL.box HasV.mem)); (with_reducible refine hq.mono ?_); rintro e w3 ⟨rfl, hx3, hp3⟩; have hL := hL.turn hp3 hx3; clear hq hx3 hp3)
    | ((with_reducible refine gAlloc rfl rfl ?_); (refine ev_allocL rfl hL rfl (by first | exact cells_agg _ rfl | exact cells_int _ _ | exact cells_str _ | exact cells_bool _ | exact cells_slice _ _ _ | exact cells_ptr _ | exact cells_map _ | exact cells_func _ _ _ | exact cells_nilFunc | exact cells_one (by assumption) (by assumption)) ?_; clear hL; intro gq wq hL)) | ((with_reducible refine gBox rfl rfl ?_); (refine ev_boxL rfl hL rfl rfl (by first | exact cells_agg _ rfl | exact cells_int _ _ | exact cells_str _ | exact cells_bool _ | exact cells_slice _ _ _ | exact cells_ptr _ | exact cells_map _ | exact cells_func _ _ _ | exact cells_nilFunc | exact cells_one (by assumption) (by assumption)) ?_; clear hL; intro gq wq hL)) | ((with_reducible refine gLoad rfl rfl ?_); (first | (refine ev_load1L rfl hL rfl rfl HasV.mem (by rfl) ?_) | (refine ev_loadAllL rfl hL rfl rfl HasV.mem (by rfl) ?_) | (refine ev_loadL rfl hL rfl rfl HasV.mem SegC.seg ?_))) | ((with_reducible refine gStore rfl rfl ?_); (first | (refine ev_storeC rfl hL rfl rfl rfl (by first | exact cells_agg _ rfl | exact cells_int _ _ | exact cells_str _ | exact cells_bool _ | exact cells_slice _ _ _ | exact cells_ptr _ | exact cells_map _ | exact cells_func _ _ _ | exact cells_nilFunc | exact cells_one (by assumption) (by assumption)) (by rfl) ?_) | (refine ev_storeAllC rfl hL rfl rfl rfl (by first | exact cells_agg _ rfl | exact cells_int _ _ | exact cells_str _ | exact cells_bool _ | exact cells_slice _ _ _ | exact cells_ptr _ | exact cells_map _ | exact cells_func _ _ _ | exact cells_nilFunc | exact cells_one (by assumption) (by assumption)) (by rfl) (by rfl) ?_)); clear hL; intro wq hL) | ((with_reducible refine gLoadG rfl rfl ?_ ?_); (exact wanted_some rfl rfl rfl (by with_reducible rfl)); (first | (refine ev_load1G (wanted_some rfl rfl rfl rfl) hL rfl rfl HasV.mem (by rfl) ?_) | (refine ev_loadAllG (wanted_some rfl rfl rfl rfl) hL rfl rfl HasV.mem (by rfl) ?_) | (refine ev_loadG_ (wanted_some rfl rfl rfl rfl) hL rfl rfl HasV.mem SegC.seg ?_))))
  have hlen : X.data.toList.length = n := by rw [Array.length_toList]; exact hXs
  go_loopw [6, 7, 25] (fun u _ i wr => ∃ j : Nat, j ≤ n ∧ u = .int .u64 (numOf (X.data.toList.take j)) ∧ i = .int .i64 j ∧ wr = w3) (fun _ _ i _ => n - (intOf i).toNat)
  case atStart => exact ⟨0, by omega, rfl, rfl, rfl⟩
  case round =>
    obtain ⟨j, hj, rfl, rfl, rfl⟩ := hrel
    by_cases hlt : j < n
    · have hlt2 : j < X.size := by omega
      have hb := numOf_bound (X.data.toList.take j)
      have hx : numOf (X.data.toList.take j) < 1099511627776 := numOf_lt5 _ (by rw [List.length_take]; omega)
      have HS : Hid (numOf (X.data.toList.take (j + 1)) = numOf (X.data.toList.take j) * 256 + (X[j].toNat : Int)) := Lib.hid (by rw [take_snoc X j hlt2, numOf_snoc])
      have hc := (X[j]).toNat_lt
      have t2 : decide ((j : Int) < (X.size : Int)) = true := by simp; omega
      generalize numOf (X.data.toList.take j) = x at *
      have hx0 := hb.1
      clear hb
      go_wp2_with (first | ((with_reducible refine gAlloc rfl rfl ?_); (refine ev_allocL rfl hL rfl (by first | exact cells_agg _ rfl | exact cells_int _ _ | exact cells_str _ | exact cells_bool _ | exact cells_slice _ _ _ | exact cells_ptr _ | exact cells_map _ | exact cells_func _ _ _ | exact cells_nilFunc | exact cells_one (by assumption) (by assumption)) ?_; clear hL; intro gq wq hL)) | ((with_reducible refine gBox rfl rfl ?_); (refine ev_boxL rfl hL rfl rfl (by first | exact cells_agg _ rfl | exact cells_int _ _ | exact cells_str _ | exact cells_bool _ | exact cells_slice _ _ _ | exact cells_ptr _ | exact cells_map _ | exact cells_func _ _ _ | exact cells_nilFunc | exact cells_one (by assumption) (by assumption)) ?_; clear hL; intro gq wq hL)) | ((with_reducible refine gLoad rfl rfl ?_); (first | (refine ev_load1L rfl hL rfl rfl HasV.mem (by rfl) ?_) | (refine ev_loadAllL rfl hL rfl rfl HasV.mem (by rfl) ?_) | (refine ev_loadL rfl hL rfl rfl HasV.mem SegC.seg ?_))) | ((with_reducible refine gStore rfl rfl ?_); (first | (refine ev_storeC rfl hL rfl rfl rfl (by first | exact cells_agg _ rfl | exact cells_int _ _ | exact cells_str _ | exact cells_bool _ | exact cells_slice _ _ _ | exact cells_ptr _ | exact cells_map _ | exact cells_func _ _ _ | exact cells_nilFunc | exact cells_one (by assumption) (by assumption)) (by rfl) ?_) | (refine ev_storeAllC rfl hL rfl rfl rfl (by first | exact cells_agg _ rfl | exact cells_int _ _ | exact cells_str _ | exact cells_bool _ | exact cells_slice _ _ _ | exact cells_ptr _ | exact cells_map _ | exact cells_func _ _ _ | exact cells_nilFunc | exact cells_one (by assumption) (by assumption)) (by rfl) (by rfl) ?_)); clear hL; intro wq hL) | ((with_reducible refine gLoadG rfl rfl ?_ ?_); (exact wanted_some rfl rfl rfl (by with_reducible rfl)); (first | (refine ev_load1G (wanted_some rfl rfl rfl rfl) hL rfl rfl HasV.mem (by rfl) ?_) | (refine ev_loadAllG (wanted_some rfl rfl rfl rfl) hL rfl rfl HasV.mem (by rfl) ?_) | (refine ev_loadG_ (wanted_some rfl rfl rfl rfl) hL rfl rfl HasV.mem SegC.seg ?_))))
      go_roundw
      case rel => exact ⟨j + 1, by omega, by rw [HS.out], by go_num, trivial⟩
      case measure => simp [intOf]; omega
    · obtain rfl : j = n := by omega
      have t2 : decide ((j : Int) < (X.size : Int)) = false := by simp; omega
      have e1 : X.data.toList.take j = X.data.toList := List.take_of_length_le (by rw [hlen]; exact Nat.le_refl _)
      have hb := numOf_bound X.data.toList
      have hb6 : numOf X.data.toList < 281474976710656 := by
        have h2 := hb.2
        rw [hlen] at h2
        have : (256 : Int) ^ j ≤ 281474976710656 := by
          have h3 : j = 1 ∨ j = 2 ∨ j = 3 ∨ j = 4 ∨ j = 5 ∨ j = 6 := by omega
          rcases h3 with rfl | rfl | rfl | rfl | rfl | rfl <;> decide
        omega
      rw [e1]
      generalize hgx : numOf X.data.toList = x at *
      have HGX := Lib.hid hgx
      have hx0 := hb.1
      clear hgx hb e1
      have t3 : decide ((9223372036854775808 : Int) ≤ x) = false := by simp; omega
      go_wp2_with (first | ((with_reducible refine gAlloc rfl rfl ?_); (refine ev_allocL rfl hL rfl (by first | exact cells_agg _ rfl | exact cells_int _ _ | exact cells_str _ | exact cells_bool _ | exact cells_slice _ _ _ | exact cells_ptr _ | exact cells_map _ | exact cells_func _ _ _ | exact cells_nilFunc | exact cells_one (by assumption) (by assumption)) ?_; clear hL; intro gq wq hL)) | ((with_reducible refine gBox rfl rfl ?_); (refine ev_boxL rfl hL rfl rfl (by first | exact cells_agg _ rfl | exact cells_int _ _ | exact cells_str _ | exact cells_bool _ | exact cells_slice _ _ _ | exact cells_ptr _ | exact cells_map _ | exact cells_func _ _ _ | exact cells_nilFunc | exact cells_one (by assumption) (by assumption)) ?_; clear hL; intro gq wq hL)) | ((with_reducible refine gLoad rfl rfl ?_); (first | (refine ev_load1L rfl hL rfl rfl HasV.mem (by rfl) ?_) | (refine ev_loadAllL rfl hL rfl rfl HasV.mem (by rfl) ?_) | (refine ev_loadL rfl hL rfl rfl HasV.mem SegC.seg ?_))) | ((with_reducible refine gStore rfl rfl ?_); (first | (refine ev_storeC rfl hL rfl rfl rfl (by first | exact cells_agg _ rfl | exact cells_int _ _ | exact cells_str _ | exact cells_bool _ | exact cells_slice _ _ _ | exact cells_ptr _ | exact cells_map _ | exact cells_func _ _ _ | exact cells_nilFunc | exact cells_one (by assumption) (by assumption)) (by rfl) ?_) | (refine ev_storeAllC rfl hL rfl rfl rfl (by first | exact cells_agg _ rfl | exact cells_int _ _ | exact cells_str _ | exact cells_bool _ | exact cells_slice _ _ _ | exact cells_ptr _ | exact cells_map _ | exact cells_func _ _ _ | exact cells_nilFunc | exact cells_one (by assumption) (by assumption)) (by rfl) (by rfl) ?_)); clear hL; intro wq hL) | ((with_reducible refine gLoadG rfl rfl ?_ ?_); (exact wanted_some rfl rfl rfl (by with_reducible rfl)); (first | (refine ev_load1G (wanted_some rfl rfl rfl rfl) hL rfl rfl HasV.mem (by rfl) ?_) | (refine ev_loadAllG (wanted_some rfl rfl rfl rfl) hL rfl rfl HasV.mem (by rfl) ?_) | (refine ev_loadG_ (wanted_some rfl rfl rfl rfl) hL rfl rfl HasV.mem SegC.seg ?_))))
      go_ret
      exact ⟨by rw [HGX.out]; rfl, hL.box HasV.mem, Mod.put hL.mod⟩
/-- The eye as the laws see it: where it stands, or that it is done. -/
def REye (w : World) (g : Nat) (B : ByteArray) (st : Option Nat) : Prop :=
  match st with
  | some pos => pos ≤ B.size ∧ RE w g B pos false 0
  | none => ∃ pos bad, bad ≠ 0 ∧ RE w g B pos true bad
/-- A look: where it ends, and what is seen where it does not. -/
def Look {α : Type} (r : ByteArray → Option (α × ByteArray)) (B : ByteArray) (st : Option Nat) (x : α) (st' : Option Nat) : Prop :=
  match st with
  | none => st' = none
  | some pos => match r (eat B pos) with
    | none => st' = none
    | some (y, s') => x = y ∧ ∃ pos', st' = some pos' ∧ s' = eat B pos'
def go {β : Type} (st : Option Nat) (B : ByteArray) (f : ByteArray → Option β) : Option β := st.bind fun pos => f (eat B pos)
theorem go_step {α β : Type} {r : ByteArray → Option (α × ByteArray)} {B : ByteArray} {st st' : Option Nat} {x : α} (h : Look r B st x st') (k : α × ByteArray → Option β) : go st B (fun s => (r s).bind k) = go st' B (fun s => k (x, s)) := by
  unfold Look at h
  cases st with
  | none => simp only at h; subst h; rfl
  | some pos =>
    simp only at h
    unfold go
    rw [Option.bind_some]
    cases hr : r (eat B pos) with
    | none => rw [hr] at h; simp only at h; subst h; show (r (eat B pos)).bind k = _; rw [hr]; rfl
    | some p =>
      obtain ⟨y, s'⟩ := p
      rw [hr] at h
      obtain ⟨rfl, pos', rfl, rfl⟩ := h
      show (r (eat B pos)).bind k = _
      rw [hr]
      rfl
def RLook {α : Type} (mk : α → Value) (r : ByteArray → Option (α × ByteArray)) (B : ByteArray) (st : Option Nat) (g : Nat) (w : World) (e : Ending) (w' : World) : Prop :=
  ∃ x st', e = .returned (mk x) ∧ REye w' g B st' ∧ Put w w' g ∧ Look r B st x st'
theorem re_Num (n g : Nat) (B : ByteArray) (st : Option Nat) (w : World) (h : REye w g B st) (hn1 : 1 ≤ n) (hn6 : n ≤ 6) (hB : B.size ≤ 100000000000) :
    Calls Tryd.prog 78 #[.pointer (some ⟨g, 0, none⟩), .int .i64 n] w (RLook (.int .i64) (num? n) B st g w) := by
  cases st with
  | none =>
    obtain ⟨pos, bad, hb, hx⟩ := h
    exact (re_numDead g B pos bad n w hx).mono fun e w' ⟨h1, h2, h3⟩ => ⟨0, none, h1, ⟨pos, bad, hb, h2⟩, h3, rfl⟩
  | some pos =>
    obtain ⟨hp, hx⟩ := h
    by_cases hn : n ≤ B.size - pos
    · refine (re_num g B pos 0 n w hx hn1 hn6 hp hn hB).mono fun e w' ⟨h1, h2, h3⟩ => ⟨_, some (pos + n), h1, ⟨by omega, h2⟩, h3, ?_⟩
      unfold Look num?
      simp only [eat_size, hn, if_true]
      exact ⟨by trivial, pos + n, rfl, by rw [eat_eat]⟩
    · refine (re_numNo g B pos 0 n w hx hn1 hn6 hp (by omega) hB).mono fun e w' ⟨h1, h2, h3⟩ => ⟨0, none, h1, ⟨pos, 201, by decide, h2⟩, h3, ?_⟩
      unfold Look num?
      simp only [eat_size, hn, if_false]
theorem re_Num1 (g : Nat) (B : ByteArray) (st : Option Nat) (w : World) (h : REye w g B st) (hB : B.size ≤ 100000000000) :
    Calls Tryd.prog 78 #[.pointer (some ⟨g, 0, none⟩), .int .i64 1] w (RLook (.int .i64) (num? 1) B st g w) := re_Num 1 g B st w h (by omega) (by omega) hB
theorem re_Num2 (g : Nat) (B : ByteArray) (st : Option Nat) (w : World) (h : REye w g B st) (hB : B.size ≤ 100000000000) :
    Calls Tryd.prog 78 #[.pointer (some ⟨g, 0, none⟩), .int .i64 2] w (RLook (.int .i64) (num? 2) B st g w) := re_Num 2 g B st w h (by omega) (by omega) hB
theorem re_Num6 (g : Nat) (B : ByteArray) (st : Option Nat) (w : World) (h : REye w g B st) (hB : B.size ≤ 100000000000) :
    Calls Tryd.prog 78 #[.pointer (some ⟨g, 0, none⟩), .int .i64 6] w (RLook (.int .i64) (num? 6) B st g w) := re_Num 6 g B st w h (by omega) (by omega) hB
/-- Its item. -/
def eyeI (g : Nat) (B : ByteArray) (st : Option Nat) : Item := ⟨(· = g), fun w => REye w g B st⟩
theorem REye.stay {w w' : World} {g : Nat} {B : ByteArray} {st : Option Nat} (h : REye w g B st) (hb : w'.heap[g]? = w.heap[g]?) : REye w' g B st := by
  cases st with
  | none => obtain ⟨pos, bad, h1, h2⟩ := h; exact ⟨pos, bad, h1, hb.trans h2⟩
  | some pos => exact ⟨h.1, hb.trans h.2⟩
theorem REye.lt {w : World} {g : Nat} {B : ByteArray} {st : Option Nat} (h : REye w g B st) : g < w.heap.size := by
  cases st with
  | none => obtain ⟨pos, bad, h1, h2⟩ := h; exact Box.lt h2
  | some pos => exact Box.lt h.2
theorem eyeI_at {w : World} {g : Nat} {B : ByteArray} {st : Option Nat} (h : REye w g B st) : (eyeI g B st).At w :=
  ⟨h, fun k hk => by cases hk; exact h.lt, fun w' _ hb => h.stay (hb g rfl)⟩
theorem Loc.eye {w0 w : World} {M : Nat → Prop} {l : List Item} {g : Nat} {B : ByteArray} {st : Option Nat} (h : Loc w0 M w l) (hm : eyeI g B st ∈ l) : REye w g B st := h.get hm
/-- A look among items. -/
theorem reyeL {α : Type} {P : Program} {f : FuncId} {args : Array Value} {mk : α → Value} {r : ByteArray → Option (α × ByteArray)} {g : Nat} {B : ByteArray} {st : Option Nat} {w0 w : World} {M : Nat → Prop} {l : List Item} {F : Option Nat → List Item} (hL : Loc w0 M w l)
    (hs : ∀ st', Swap (eyeI g B st) (eyeI g B st') l (F st')) (hq : REye w g B st → Calls P f args w (RLook mk r B st g w)) :
    Calls P f args w fun e w1 => ∃ x st', e = .returned (mk x) ∧ Loc w0 M w1 (F st') ∧ Look r B st x st' :=
  (hq (hL.eye (hs st).mem)).mono fun e w1 ⟨x, st', h1, h2, h3, h4⟩ => ⟨x, st', h1, hL.swap (hs st') (Mod.of_put h3) (eyeI_at h2) (fun _ hk => .inl hk), h4⟩
end Go.Proofs.YtbkffeabikjnhaaDoor

/- The document's reader: texts and its end. -/
namespace Go.Proofs.YtbkffeabikjnhaaDoor
open Go.RowKit

theorem re_rawN0 (g : Nat) (B : ByteArray) (pos bad : Int) (n : Int) (w : World) (h : RE w g B pos true bad) :
    Calls Tryd.prog 112 #[.pointer (some ⟨g, 0, none⟩), .int .i64 n] w fun e w' => e = .returned (.string ⟨#[]⟩) ∧ RE w' g B pos true bad ∧ Put w w' g := re_rawDead g B pos bad n w h
theorem re_textDead (g : Nat) (B : ByteArray) (pos bad : Int) (w : World) (h : RE w g B pos true bad) :
    Calls Tryd.prog 81 #[.pointer (some ⟨g, 0, none⟩), .int .i64 512] w fun e w' => e = .returned (.string ⟨#[]⟩) ∧ RE w' g B pos true bad ∧ Put w w' g := by
  have hL := h.loc
  go_enter Tryd.func81, Tryd.ntmps81
  go_wp2_with (first
    | (go_at_call 78; have hq := re_numDead g B pos bad 2 _ (hL.box HasV.mem); (with_reducible refine hq.mono ?_); rintro e w3 ⟨rfl, hx3, hp3⟩; have hL := hL.turn hp3 hx3; clear hq hx3 hp3)
    | (go_at_call 112; have hq := re_rawDead g B pos bad 0 _ (hL.box HasV.mem); (with_reducible refine hq.mono ?_); rintro e w3 ⟨rfl, hx3, hp3⟩; have hL := hL.turn hp3 hx3; clear hq hx3 hp3)
    | ((with_reducible refine gAlloc rfl rfl ?_); (refine ev_allocL rfl hL rfl (by first | exact cells_agg _ rfl | exact cells_int _ _ | exact cells_str _ | exact cells_bool _ | exact cells_slice _ _ _ | exact cells_ptr _ | exact cells_map _ | exact cells_func _ _ _ | exact cells_nilFunc | exact cells_one (by assumption) (by assumption)) ?_; clear hL; intro gq wq hL)) | ((with_reducible refine gBox rfl rfl ?_); (refine ev_boxL rfl hL rfl rfl (by first | exact cells_agg _ rfl | exact cells_int _ _ | exact cells_str _ | exact cells_bool _ | exact cells_slice _ _ _ | exact cells_ptr _ | exact cells_map _ | exact cells_func _ _ _ | exact cells_nilFunc | exact cells_one (by assumption) (by assumption)) ?_; clear hL; intro gq wq hL)) | ((with_reducible refine gLoad rfl rfl ?_); (first | (refine ev_load1L rfl hL rfl rfl HasV.mem (by rfl) ?_) | (refine ev_loadAllL rfl hL rfl rfl HasV.mem (by rfl) ?_) | (refine ev_loadL rfl hL rfl rfl HasV.mem SegC.seg ?_))) | ((with_reducible refine gStore rfl rfl ?_); (first | (refine ev_storeC rfl hL rfl rfl rfl (by first | exact cells_agg _ rfl | exact cells_int _ _ | exact cells_str _ | exact cells_bool _ | exact cells_slice _ _ _ | exact cells_ptr _ | exact cells_map _ | exact cells_func _ _ _ | exact cells_nilFunc | exact cells_one (by assumption) (by assumption)) (by rfl) ?_) | (refine ev_storeAllC rfl hL rfl rfl rfl (by first | exact cells_agg _ rfl | exact cells_int _ _ | exact cells_str _ | exact cells_bool _ | exact cells_slice _ _ _ | exact cells_ptr _ | exact cells_map _ | exact cells_func _ _ _ | exact cells_nilFunc | exact cells_one (by assumption) (by assumption)) (by rfl) (by rfl) ?_)); clear hL; intro wq hL) | ((with_reducible refine gLoadG rfl rfl ?_ ?_); (exact wanted_some rfl rfl rfl (by with_reducible rfl)); (first | (refine ev_load1G (wanted_some rfl rfl rfl rfl) hL rfl rfl HasV.mem (by rfl) ?_) | (refine ev_loadAllG (wanted_some rfl rfl rfl rfl) hL rfl rfl HasV.mem (by rfl) ?_) | (refine ev_loadG_ (wanted_some rfl rfl rfl rfl) hL rfl rfl HasV.mem SegC.seg ?_))))
  go_ret
  exact ⟨rfl, hL.box HasV.mem, Mod.put hL.mod⟩
theorem re_text2 (g : Nat) (B : ByteArray) (pos : Nat) (w : World) (h : RE w g B pos false 0) (hp : pos ≤ B.size) (hn : B.size - pos < 2) (hB : B.size ≤ 100000000000) :
    Calls Tryd.prog 81 #[.pointer (some ⟨g, 0, none⟩), .int .i64 512] w fun e w' => e = .returned (.string ⟨#[]⟩) ∧ RE w' g B pos true 201 ∧ Put w w' g := by
  have hL := h.loc
  go_enter Tryd.func81, Tryd.ntmps81
  go_wp2_with (first
    | (go_at_call 78; have hq : Calls Tryd.prog 78 #[.pointer (some ⟨g, 0, none⟩), .int .i64 2] _ _ := re_numNo g B pos 0 2 _ (hL.box HasV.mem) (by omega) (by omega) hp hn hB; (with_reducible refine hq.mono ?_); rintro e w3 ⟨rfl, hx3, hp3⟩; have hL := hL.turn hp3 hx3; clear hq hx3 hp3)
    | (go_at_call 112; have hq := re_rawDead g B pos 201 0 _ (hL.box HasV.mem); (with_reducible refine hq.mono ?_); rintro e w3 ⟨rfl, hx3, hp3⟩; have hL := hL.turn hp3 hx3; clear hq hx3 hp3)
    | ((with_reducible refine gAlloc rfl rfl ?_); (refine ev_allocL rfl hL rfl (by first | exact cells_agg _ rfl | exact cells_int _ _ | exact cells_str _ | exact cells_bool _ | exact cells_slice _ _ _ | exact cells_ptr _ | exact cells_map _ | exact cells_func _ _ _ | exact cells_nilFunc | exact cells_one (by assumption) (by assumption)) ?_; clear hL; intro gq wq hL)) | ((with_reducible refine gBox rfl rfl ?_); (refine ev_boxL rfl hL rfl rfl (by first | exact cells_agg _ rfl | exact cells_int _ _ | exact cells_str _ | exact cells_bool _ | exact cells_slice _ _ _ | exact cells_ptr _ | exact cells_map _ | exact cells_func _ _ _ | exact cells_nilFunc | exact cells_one (by assumption) (by assumption)) ?_; clear hL; intro gq wq hL)) | ((with_reducible refine gLoad rfl rfl ?_); (first | (refine ev_load1L rfl hL rfl rfl HasV.mem (by rfl) ?_) | (refine ev_loadAllL rfl hL rfl rfl HasV.mem (by rfl) ?_) | (refine ev_loadL rfl hL rfl rfl HasV.mem SegC.seg ?_))) | ((with_reducible refine gStore rfl rfl ?_); (first | (refine ev_storeC rfl hL rfl rfl rfl (by first | exact cells_agg _ rfl | exact cells_int _ _ | exact cells_str _ | exact cells_bool _ | exact cells_slice _ _ _ | exact cells_ptr _ | exact cells_map _ | exact cells_func _ _ _ | exact cells_nilFunc | exact cells_one (by assumption) (by assumption)) (by rfl) ?_) | (refine ev_storeAllC rfl hL rfl rfl rfl (by first | exact cells_agg _ rfl | exact cells_int _ _ | exact cells_str _ | exact cells_bool _ | exact cells_slice _ _ _ | exact cells_ptr _ | exact cells_map _ | exact cells_func _ _ _ | exact cells_nilFunc | exact cells_one (by assumption) (by assumption)) (by rfl) (by rfl) ?_)); clear hL; intro wq hL) | ((with_reducible refine gLoadG rfl rfl ?_ ?_); (exact wanted_some rfl rfl rfl (by with_reducible rfl)); (first | (refine ev_load1G (wanted_some rfl rfl rfl rfl) hL rfl rfl HasV.mem (by rfl) ?_) | (refine ev_loadAllG (wanted_some rfl rfl rfl rfl) hL rfl rfl HasV.mem (by rfl) ?_) | (refine ev_loadG_ (wanted_some rfl rfl rfl rfl) hL rfl rfl HasV.mem SegC.seg ?_))))
  go_ret
  exact ⟨rfl, hL.box HasV.mem, Mod.put hL.mod⟩
theorem re_num2 (g : Nat) (B : ByteArray) (pos n : Nat) (w : World) (h : RE w g B pos false 0) (hp : pos ≤ B.size) (hn : 2 ≤ B.size - pos) (hB : B.size ≤ 100000000000) (hx : numOf ((eat B pos).data.toList.take 2) = n) :
    Calls Tryd.prog 78 #[.pointer (some ⟨g, 0, none⟩), .int .i64 2] w fun e w' => e = .returned (.int .i64 n) ∧ RE w' g B (pos + 2 : Nat) false 0 ∧ Put w w' g := by
  have := re_num g B pos 0 2 w h (by omega) (by omega) hp hn hB
  rw [hx] at this
  exact this
theorem re_textLong (g : Nat) (B : ByteArray) (pos n : Nat) (w : World) (h : RE w g B pos false 0) (hp : pos ≤ B.size) (hn : 2 ≤ B.size - pos) (hB : B.size ≤ 100000000000) (hx : numOf ((eat B pos).data.toList.take 2) = n) (hm : 512 < n) :
    Calls Tryd.prog 81 #[.pointer (some ⟨g, 0, none⟩), .int .i64 512] w fun e w' => e = .returned (.string ⟨#[]⟩) ∧ RE w' g B (pos + 2 : Nat) true 203 ∧ Put w w' g := by
  have hL := h.loc
  have t0 : decide ((512 : Int) < (n : Int)) = true := by simp; omega
  have hH := fun w h => hide (re_num2 g B pos n w h hp hn hB hx)
  clear hx
  go_enter Tryd.func81, Tryd.ntmps81
  go_wp2_with (first
    | (go_at_call 78; have hq := unhide (hH _ (hL.box HasV.mem)); (with_reducible refine hq.mono ?_); rintro e w3 ⟨rfl, hx3, hp3⟩; have hL := hL.turn hp3 hx3; clear hq hx3 hp3)
    | (go_at_call 111; have hq := re_fail g B (pos + 2 : Nat) 0 203 _ (hL.box HasV.mem); (with_reducible refine hq.mono ?_); rintro e w3 ⟨rfl, hx3, hp3⟩; have hL := hL.turn hp3 hx3; clear hq hx3 hp3)
    | (go_at_call 112; have hq := re_rawDead g B (pos + 2 : Nat) 203 n _ (hL.box HasV.mem); (with_reducible refine hq.mono ?_); rintro e w3 ⟨rfl, hx3, hp3⟩; have hL := hL.turn hp3 hx3; clear hq hx3 hp3)
    | ((with_reducible refine gAlloc rfl rfl ?_); (refine ev_allocL rfl hL rfl (by first | exact cells_agg _ rfl | exact cells_int _ _ | exact cells_str _ | exact cells_bool _ | exact cells_slice _ _ _ | exact cells_ptr _ | exact cells_map _ | exact cells_func _ _ _ | exact cells_nilFunc | exact cells_one (by assumption) (by assumption)) ?_; clear hL; intro gq wq hL)) | ((with_reducible refine gBox rfl rfl ?_); (refine ev_boxL rfl hL rfl rfl (by first | exact cells_agg _ rfl | exact cells_int _ _ | exact cells_str _ | exact cells_bool _ | exact cells_slice _ _ _ | exact cells_ptr _ | exact cells_map _ | exact cells_func _ _ _ | exact cells_nilFunc | exact cells_one (by assumption) (by assumption)) ?_; clear hL; intro gq wq hL)) | ((with_reducible refine gLoad rfl rfl ?_); (first | (refine ev_load1L rfl hL rfl rfl HasV.mem (by rfl) ?_) | (refine ev_loadAllL rfl hL rfl rfl HasV.mem (by rfl) ?_) | (refine ev_loadL rfl hL rfl rfl HasV.mem SegC.seg ?_))) | ((with_reducible refine gStore rfl rfl ?_); (first | (refine ev_storeC rfl hL rfl rfl rfl (by first | exact cells_agg _ rfl | exact cells_int _ _ | exact cells_str _ | exact cells_bool _ | exact cells_slice _ _ _ | exact cells_ptr _ | exact cells_map _ | exact cells_func _ _ _ | exact cells_nilFunc | exact cells_one (by assumption) (by assumption)) (by rfl) ?_) | (refine ev_storeAllC rfl hL rfl rfl rfl (by first | exact cells_agg _ rfl | exact cells_int _ _ | exact cells_str _ | exact cells_bool _ | exact cells_slice _ _ _ | exact cells_ptr _ | exact cells_map _ | exact cells_func _ _ _ | exact cells_nilFunc | exact cells_one (by assumption) (by assumption)) (by rfl) (by rfl) ?_)); clear hL; intro wq hL) | ((with_reducible refine gLoadG rfl rfl ?_ ?_); (exact wanted_some rfl rfl rfl (by with_reducible rfl)); (first | (refine ev_load1G (wanted_some rfl rfl rfl rfl) hL rfl rfl HasV.mem (by rfl) ?_) | (refine ev_loadAllG (wanted_some rfl rfl rfl rfl) hL rfl rfl HasV.mem (by rfl) ?_) | (refine ev_loadG_ (wanted_some rfl rfl rfl rfl) hL rfl rfl HasV.mem SegC.seg ?_))))
  go_ret
  exact ⟨rfl, hL.box HasV.mem, Mod.put hL.mod⟩
theorem re_textShort (g : Nat) (B : ByteArray) (pos n : Nat) (w : World) (h : RE w g B pos false 0) (hp : pos ≤ B.size) (hn : 2 ≤ B.size - pos) (hB : B.size ≤ 100000000000) (hx : numOf ((eat B pos).data.toList.take 2) = n) (hm : n ≤ 512) (hs : B.size - (pos + 2) < n) :
    Calls Tryd.prog 81 #[.pointer (some ⟨g, 0, none⟩), .int .i64 512] w fun e w' => e = .returned (.string ⟨#[]⟩) ∧ RE w' g B (pos + 2 : Nat) true 201 ∧ Put w w' g := by
  have hL := h.loc
  have t0 : decide ((512 : Int) < (n : Int)) = false := by simp; omega
  have hH := fun w h => hide (re_num2 g B pos n w h hp hn hB hx)
  clear hx
  go_enter Tryd.func81, Tryd.ntmps81
  go_wp2_with (first
    | (go_at_call 78; have hq := unhide (hH _ (hL.box HasV.mem)); (with_reducible refine hq.mono ?_); rintro e w3 ⟨rfl, hx3, hp3⟩; have hL := hL.turn hp3 hx3; clear hq hx3 hp3)
    | (go_at_call 112; have hq := re_rawNo g B (pos + 2) 0 n _ (hL.box HasV.mem) (by omega) hs hB; (with_reducible refine hq.mono ?_); rintro e w3 ⟨rfl, hx3, hp3⟩; have hL := hL.turn hp3 hx3; clear hq hx3 hp3)
    | ((with_reducible refine gAlloc rfl rfl ?_); (refine ev_allocL rfl hL rfl (by first | exact cells_agg _ rfl | exact cells_int _ _ | exact cells_str _ | exact cells_bool _ | exact cells_slice _ _ _ | exact cells_ptr _ | exact cells_map _ | exact cells_func _ _ _ | exact cells_nilFunc | exact cells_one (by assumption) (by assumption)) ?_; clear hL; intro gq wq hL)) | ((with_reducible refine gBox rfl rfl ?_); (refine ev_boxL rfl hL rfl rfl (by first | exact cells_agg _ rfl | exact cells_int _ _ | exact cells_str _ | exact cells_bool _ | exact cells_slice _ _ _ | exact cells_ptr _ | exact cells_map _ | exact cells_func _ _ _ | exact cells_nilFunc | exact cells_one (by assumption) (by assumption)) ?_; clear hL; intro gq wq hL)) | ((with_reducible refine gLoad rfl rfl ?_); (first | (refine ev_load1L rfl hL rfl rfl HasV.mem (by rfl) ?_) | (refine ev_loadAllL rfl hL rfl rfl HasV.mem (by rfl) ?_) | (refine ev_loadL rfl hL rfl rfl HasV.mem SegC.seg ?_))) | ((with_reducible refine gStore rfl rfl ?_); (first | (refine ev_storeC rfl hL rfl rfl rfl (by first | exact cells_agg _ rfl | exact cells_int _ _ | exact cells_str _ | exact cells_bool _ | exact cells_slice _ _ _ | exact cells_ptr _ | exact cells_map _ | exact cells_func _ _ _ | exact cells_nilFunc | exact cells_one (by assumption) (by assumption)) (by rfl) ?_) | (refine ev_storeAllC rfl hL rfl rfl rfl (by first | exact cells_agg _ rfl | exact cells_int _ _ | exact cells_str _ | exact cells_bool _ | exact cells_slice _ _ _ | exact cells_ptr _ | exact cells_map _ | exact cells_func _ _ _ | exact cells_nilFunc | exact cells_one (by assumption) (by assumption)) (by rfl) (by rfl) ?_)); clear hL; intro wq hL) | ((with_reducible refine gLoadG rfl rfl ?_ ?_); (exact wanted_some rfl rfl rfl (by with_reducible rfl)); (first | (refine ev_load1G (wanted_some rfl rfl rfl rfl) hL rfl rfl HasV.mem (by rfl) ?_) | (refine ev_loadAllG (wanted_some rfl rfl rfl rfl) hL rfl rfl HasV.mem (by rfl) ?_) | (refine ev_loadG_ (wanted_some rfl rfl rfl rfl) hL rfl rfl HasV.mem SegC.seg ?_))))
  go_ret
  exact ⟨rfl, hL.box HasV.mem, Mod.put hL.mod⟩
theorem re_text (g : Nat) (B : ByteArray) (pos n : Nat) (w : World) (h : RE w g B pos false 0) (hp : pos ≤ B.size) (hn : 2 ≤ B.size - pos) (hB : B.size ≤ 100000000000) (hx : numOf ((eat B pos).data.toList.take 2) = n) (hm : n ≤ 512) (hs : n ≤ B.size - (pos + 2)) :
    Calls Tryd.prog 81 #[.pointer (some ⟨g, 0, none⟩), .int .i64 512] w fun e w' => e = .returned (.string ((eat B (pos + 2)).extract 0 n)) ∧ RE w' g B (pos + 2 + n : Nat) false 0 ∧ Put w w' g := by
  have hL := h.loc
  have t0 : decide ((512 : Int) < (n : Int)) = false := by simp; omega
  have hH := fun w h => hide (re_num2 g B pos n w h hp hn hB hx)
  have hR := fun w h => hide (re_raw g B (pos + 2) 0 n w h (by omega) hs hB)
  generalize (eat B (pos + 2)).extract 0 n = X at *
  clear hx
  go_enter Tryd.func81, Tryd.ntmps81
  go_wp2_with (first
    | (go_at_call 78; have hq := unhide (hH _ (hL.box HasV.mem)); (with_reducible refine hq.mono ?_); rintro e w3 ⟨rfl, hx3, hp3⟩; have hL := hL.turn hp3 hx3; clear hq hx3 hp3)
    | (go_at_call 112; have hq := unhide (hR _ (hL.box HasV.mem)); (with_reducible refine hq.mono ?_); rintro e w3 ⟨rfl, hx3, hp3⟩; have hL := hL.turn hp3 hx3; clear hq hx3 hp3)
    | ((with_reducible refine gAlloc rfl rfl ?_); (refine ev_allocL rfl hL rfl (by first | exact cells_agg _ rfl | exact cells_int _ _ | exact cells_str _ | exact cells_bool _ | exact cells_slice _ _ _ | exact cells_ptr _ | exact cells_map _ | exact cells_func _ _ _ | exact cells_nilFunc | exact cells_one (by assumption) (by assumption)) ?_; clear hL; intro gq wq hL)) | ((with_reducible refine gBox rfl rfl ?_); (refine ev_boxL rfl hL rfl rfl (by first | exact cells_agg _ rfl | exact cells_int _ _ | exact cells_str _ | exact cells_bool _ | exact cells_slice _ _ _ | exact cells_ptr _ | exact cells_map _ | exact cells_func _ _ _ | exact cells_nilFunc | exact cells_one (by assumption) (by assumption)) ?_; clear hL; intro gq wq hL)) | ((with_reducible refine gLoad rfl rfl ?_); (first | (refine ev_load1L rfl hL rfl rfl HasV.mem (by rfl) ?_) | (refine ev_loadAllL rfl hL rfl rfl HasV.mem (by rfl) ?_) | (refine ev_loadL rfl hL rfl rfl HasV.mem SegC.seg ?_))) | ((with_reducible refine gStore rfl rfl ?_); (first | (refine ev_storeC rfl hL rfl rfl rfl (by first | exact cells_agg _ rfl | exact cells_int _ _ | exact cells_str _ | exact cells_bool _ | exact cells_slice _ _ _ | exact cells_ptr _ | exact cells_map _ | exact cells_func _ _ _ | exact cells_nilFunc | exact cells_one (by assumption) (by assumption)) (by rfl) ?_) | (refine ev_storeAllC rfl hL rfl rfl rfl (by first | exact cells_agg _ rfl | exact cells_int _ _ | exact cells_str _ | exact cells_bool _ | exact cells_slice _ _ _ | exact cells_ptr _ | exact cells_map _ | exact cells_func _ _ _ | exact cells_nilFunc | exact cells_one (by assumption) (by assumption)) (by rfl) (by rfl) ?_)); clear hL; intro wq hL) | ((with_reducible refine gLoadG rfl rfl ?_ ?_); (exact wanted_some rfl rfl rfl (by with_reducible rfl)); (first | (refine ev_load1G (wanted_some rfl rfl rfl rfl) hL rfl rfl HasV.mem (by rfl) ?_) | (refine ev_loadAllG (wanted_some rfl rfl rfl rfl) hL rfl rfl HasV.mem (by rfl) ?_) | (refine ev_loadG_ (wanted_some rfl rfl rfl rfl) hL rfl rfl HasV.mem SegC.seg ?_))))
  go_ret
  exact ⟨rfl, hL.box HasV.mem, Mod.put hL.mod⟩
theorem re_Text (g : Nat) (B : ByteArray) (st : Option Nat) (w : World) (h : REye w g B st) (hB : B.size ≤ 100000000000) :
    Calls Tryd.prog 81 #[.pointer (some ⟨g, 0, none⟩), .int .i64 512] w (RLook .string (text? 512) B st g w) := by
  cases st with
  | none =>
    obtain ⟨pos, bad, hb, hx⟩ := h
    exact (re_textDead g B pos bad w hx).mono fun e w' ⟨h1, h2, h3⟩ => ⟨_, none, h1, ⟨pos, bad, hb, h2⟩, h3, rfl⟩
  | some pos =>
    obtain ⟨hp, hx⟩ := h
    by_cases hn : 2 ≤ B.size - pos
    · have hb := numOf_bound ((eat B pos).data.toList.take 2)
      obtain ⟨n, hnn⟩ := Int.eq_ofNat_of_zero_le hb.1
      have hr : num? 2 (eat B pos) = some ((n : Int), eat B (pos + 2)) := by unfold num?; rw [eat_size, if_pos hn, hnn, eat_eat]
      by_cases hm : 512 < n
      · refine (re_textLong g B pos n w hx hp hn hB hnn hm).mono fun e w' ⟨h1, h2, h3⟩ => ⟨_, none, h1, ⟨_, 203, by decide, h2⟩, h3, ?_⟩
        have : text? 512 (eat B pos) = none := by unfold text?; rw [hr]; simp; omega
        simp only [Look, this]
      · by_cases hs : n ≤ B.size - (pos + 2)
        · refine (re_text g B pos n w hx hp hn hB hnn (by omega) hs).mono fun e w' ⟨h1, h2, h3⟩ => ⟨_, some (pos + 2 + n), h1, ⟨by omega, h2⟩, h3, ?_⟩
          have : text? 512 (eat B pos) = some ((eat B (pos + 2)).extract 0 n, eat (eat B (pos + 2)) n) := by
            unfold text?; rw [hr, Option.bind_some, if_neg (by simp only; omega), if_pos (by simp only [eat_size, Int.toNat_natCast]; omega)]
            simp only [Int.toNat_natCast]
          simp only [Look, this]
          exact ⟨by trivial, _, rfl, by rw [eat_eat]⟩
        · refine (re_textShort g B pos n w hx hp hn hB hnn (by omega) (by omega)).mono fun e w' ⟨h1, h2, h3⟩ => ⟨_, none, h1, ⟨_, 201, by decide, h2⟩, h3, ?_⟩
          have : text? 512 (eat B pos) = none := by
            unfold text?; rw [hr, Option.bind_some, if_neg (by simp only; omega), if_neg (by simp only [eat_size, Int.toNat_natCast]; omega)]
          simp only [Look, this]
    · refine (re_text2 g B pos w hx hp (by omega) hB).mono fun e w' ⟨h1, h2, h3⟩ => ⟨_, none, h1, ⟨_, 201, by decide, h2⟩, h3, ?_⟩
      have : text? 512 (eat B pos) = none := by unfold text? num?; rw [eat_size, if_neg hn]; rfl
      simp only [Look, this]
theorem re_End (g : Nat) (B : ByteArray) (st : Option Nat) (w : World) (h : REye w g B st) :
    Calls Tryd.prog 82 #[.pointer (some ⟨g, 0, none⟩)] w fun e w' => ∃ c : Int, e = .returned (.int .i64 c) ∧ (c = 0 ↔ st = some B.size) ∧ Put w w' g := by
  cases st with
  | none =>
    obtain ⟨pos, bad, hb, hx⟩ := h
    have hL := hx.loc
    go_enter Tryd.func82, Tryd.ntmps82
    go_wp2_with (first | ((with_reducible refine gAlloc rfl rfl ?_); (refine ev_allocL rfl hL rfl (by first | exact cells_agg _ rfl | exact cells_int _ _ | exact cells_str _ | exact cells_bool _ | exact cells_slice _ _ _ | exact cells_ptr _ | exact cells_map _ | exact cells_func _ _ _ | exact cells_nilFunc | exact cells_one (by assumption) (by assumption)) ?_; clear hL; intro gq wq hL)) | ((with_reducible refine gBox rfl rfl ?_); (refine ev_boxL rfl hL rfl rfl (by first | exact cells_agg _ rfl | exact cells_int _ _ | exact cells_str _ | exact cells_bool _ | exact cells_slice _ _ _ | exact cells_ptr _ | exact cells_map _ | exact cells_func _ _ _ | exact cells_nilFunc | exact cells_one (by assumption) (by assumption)) ?_; clear hL; intro gq wq hL)) | ((with_reducible refine gLoad rfl rfl ?_); (first | (refine ev_load1L rfl hL rfl rfl HasV.mem (by rfl) ?_) | (refine ev_loadAllL rfl hL rfl rfl HasV.mem (by rfl) ?_) | (refine ev_loadL rfl hL rfl rfl HasV.mem SegC.seg ?_))) | ((with_reducible refine gStore rfl rfl ?_); (first | (refine ev_storeC rfl hL rfl rfl rfl (by first | exact cells_agg _ rfl | exact cells_int _ _ | exact cells_str _ | exact cells_bool _ | exact cells_slice _ _ _ | exact cells_ptr _ | exact cells_map _ | exact cells_func _ _ _ | exact cells_nilFunc | exact cells_one (by assumption) (by assumption)) (by rfl) ?_) | (refine ev_storeAllC rfl hL rfl rfl rfl (by first | exact cells_agg _ rfl | exact cells_int _ _ | exact cells_str _ | exact cells_bool _ | exact cells_slice _ _ _ | exact cells_ptr _ | exact cells_map _ | exact cells_func _ _ _ | exact cells_nilFunc | exact cells_one (by assumption) (by assumption)) (by rfl) (by rfl) ?_)); clear hL; intro wq hL) | ((with_reducible refine gLoadG rfl rfl ?_ ?_); (exact wanted_some rfl rfl rfl (by with_reducible rfl)); (first | (refine ev_load1G (wanted_some rfl rfl rfl rfl) hL rfl rfl HasV.mem (by rfl) ?_) | (refine ev_loadAllG (wanted_some rfl rfl rfl rfl) hL rfl rfl HasV.mem (by rfl) ?_) | (refine ev_loadG_ (wanted_some rfl rfl rfl rfl) hL rfl rfl HasV.mem SegC.seg ?_))))
    ((try simp only [Act.put, List.setIfInBounds_toArray, List.set_cons_succ, List.set_cons_zero]); refine wp_region_ext (by kernel_rfl) (by kernel_rfl) ?_; (repeat (first | (go_big_quiet_want; (first | refine quiet_load1L hL rfl rfl HasV.mem (by rfl) ?_ | refine quiet_loadAllL hL rfl rfl HasV.mem (by rfl) ?_ | refine quiet_loadL hL rfl rfl HasV.mem SegC.seg ?_); go_big_quiet_on; simp only [Act.put, List.setIfInBounds_toArray, List.set_cons_succ, List.set_cons_zero]) | go_big_quiet_step (fail))); refine wpQuiet_nil ?_; rintro _ ⟨⟨w2, hb2⟩, rfl⟩; have hL := (hL).call hb2; clear hb2)
    go_wp2_with (first | ((with_reducible refine gAlloc rfl rfl ?_); (refine ev_allocL rfl hL rfl (by first | exact cells_agg _ rfl | exact cells_int _ _ | exact cells_str _ | exact cells_bool _ | exact cells_slice _ _ _ | exact cells_ptr _ | exact cells_map _ | exact cells_func _ _ _ | exact cells_nilFunc | exact cells_one (by assumption) (by assumption)) ?_; clear hL; intro gq wq hL)) | ((with_reducible refine gBox rfl rfl ?_); (refine ev_boxL rfl hL rfl rfl (by first | exact cells_agg _ rfl | exact cells_int _ _ | exact cells_str _ | exact cells_bool _ | exact cells_slice _ _ _ | exact cells_ptr _ | exact cells_map _ | exact cells_func _ _ _ | exact cells_nilFunc | exact cells_one (by assumption) (by assumption)) ?_; clear hL; intro gq wq hL)) | ((with_reducible refine gLoad rfl rfl ?_); (first | (refine ev_load1L rfl hL rfl rfl HasV.mem (by rfl) ?_) | (refine ev_loadAllL rfl hL rfl rfl HasV.mem (by rfl) ?_) | (refine ev_loadL rfl hL rfl rfl HasV.mem SegC.seg ?_))) | ((with_reducible refine gStore rfl rfl ?_); (first | (refine ev_storeC rfl hL rfl rfl rfl (by first | exact cells_agg _ rfl | exact cells_int _ _ | exact cells_str _ | exact cells_bool _ | exact cells_slice _ _ _ | exact cells_ptr _ | exact cells_map _ | exact cells_func _ _ _ | exact cells_nilFunc | exact cells_one (by assumption) (by assumption)) (by rfl) ?_) | (refine ev_storeAllC rfl hL rfl rfl rfl (by first | exact cells_agg _ rfl | exact cells_int _ _ | exact cells_str _ | exact cells_bool _ | exact cells_slice _ _ _ | exact cells_ptr _ | exact cells_map _ | exact cells_func _ _ _ | exact cells_nilFunc | exact cells_one (by assumption) (by assumption)) (by rfl) (by rfl) ?_)); clear hL; intro wq hL) | ((with_reducible refine gLoadG rfl rfl ?_ ?_); (exact wanted_some rfl rfl rfl (by with_reducible rfl)); (first | (refine ev_load1G (wanted_some rfl rfl rfl rfl) hL rfl rfl HasV.mem (by rfl) ?_) | (refine ev_loadAllG (wanted_some rfl rfl rfl rfl) hL rfl rfl HasV.mem (by rfl) ?_) | (refine ev_loadG_ (wanted_some rfl rfl rfl rfl) hL rfl rfl HasV.mem SegC.seg ?_))))
    go_ret
    exact ⟨_, rfl, by simp; exact hb, Mod.put hL.mod⟩
  | some pos =>
    obtain ⟨hp, hx⟩ := h
    have hL := hx.loc
    by_cases hlt : pos < B.size
    · have t0 : decide ((pos : Int) < (B.size : Int)) = true := by simp; omega
      go_enter Tryd.func82, Tryd.ntmps82
      go_wp2_with (first | ((with_reducible refine gAlloc rfl rfl ?_); (refine ev_allocL rfl hL rfl (by first | exact cells_agg _ rfl | exact cells_int _ _ | exact cells_str _ | exact cells_bool _ | exact cells_slice _ _ _ | exact cells_ptr _ | exact cells_map _ | exact cells_func _ _ _ | exact cells_nilFunc | exact cells_one (by assumption) (by assumption)) ?_; clear hL; intro gq wq hL)) | ((with_reducible refine gBox rfl rfl ?_); (refine ev_boxL rfl hL rfl rfl (by first | exact cells_agg _ rfl | exact cells_int _ _ | exact cells_str _ | exact cells_bool _ | exact cells_slice _ _ _ | exact cells_ptr _ | exact cells_map _ | exact cells_func _ _ _ | exact cells_nilFunc | exact cells_one (by assumption) (by assumption)) ?_; clear hL; intro gq wq hL)) | ((with_reducible refine gLoad rfl rfl ?_); (first | (refine ev_load1L rfl hL rfl rfl HasV.mem (by rfl) ?_) | (refine ev_loadAllL rfl hL rfl rfl HasV.mem (by rfl) ?_) | (refine ev_loadL rfl hL rfl rfl HasV.mem SegC.seg ?_))) | ((with_reducible refine gStore rfl rfl ?_); (first | (refine ev_storeC rfl hL rfl rfl rfl (by first | exact cells_agg _ rfl | exact cells_int _ _ | exact cells_str _ | exact cells_bool _ | exact cells_slice _ _ _ | exact cells_ptr _ | exact cells_map _ | exact cells_func _ _ _ | exact cells_nilFunc | exact cells_one (by assumption) (by assumption)) (by rfl) ?_) | (refine ev_storeAllC rfl hL rfl rfl rfl (by first | exact cells_agg _ rfl | exact cells_int _ _ | exact cells_str _ | exact cells_bool _ | exact cells_slice _ _ _ | exact cells_ptr _ | exact cells_map _ | exact cells_func _ _ _ | exact cells_nilFunc | exact cells_one (by assumption) (by assumption)) (by rfl) (by rfl) ?_)); clear hL; intro wq hL) | ((with_reducible refine gLoadG rfl rfl ?_ ?_); (exact wanted_some rfl rfl rfl (by with_reducible rfl)); (first | (refine ev_load1G (wanted_some rfl rfl rfl rfl) hL rfl rfl HasV.mem (by rfl) ?_) | (refine ev_loadAllG (wanted_some rfl rfl rfl rfl) hL rfl rfl HasV.mem (by rfl) ?_) | (refine ev_loadG_ (wanted_some rfl rfl rfl rfl) hL rfl rfl HasV.mem SegC.seg ?_))))
      ((try simp only [Act.put, List.setIfInBounds_toArray, List.set_cons_succ, List.set_cons_zero]); refine wp_region_ext (by kernel_rfl) (by kernel_rfl) ?_; (repeat (first | (go_big_quiet_want; (first | refine quiet_load1L hL rfl rfl HasV.mem (by rfl) ?_ | refine quiet_loadAllL hL rfl rfl HasV.mem (by rfl) ?_ | refine quiet_loadL hL rfl rfl HasV.mem SegC.seg ?_); go_big_quiet_on; simp only [Act.put, List.setIfInBounds_toArray, List.set_cons_succ, List.set_cons_zero]) | go_big_quiet_step (fail))); refine wpQuiet_nil ?_; rintro _ ⟨⟨w2, hb2⟩, rfl⟩; have hL := (hL).call hb2; clear hb2)
      go_wp2_with (first
        | (go_at_call 111; have hq := re_fail g B pos 0 201 _ (hL.box HasV.mem); (with_reducible refine hq.mono ?_); rintro e w3 ⟨rfl, hx3, hp3⟩; have hL := hL.turn hp3 hx3; clear hq hx3 hp3)
        | ((with_reducible refine gAlloc rfl rfl ?_); (refine ev_allocL rfl hL rfl (by first | exact cells_agg _ rfl | exact cells_int _ _ | exact cells_str _ | exact cells_bool _ | exact cells_slice _ _ _ | exact cells_ptr _ | exact cells_map _ | exact cells_func _ _ _ | exact cells_nilFunc | exact cells_one (by assumption) (by assumption)) ?_; clear hL; intro gq wq hL)) | ((with_reducible refine gBox rfl rfl ?_); (refine ev_boxL rfl hL rfl rfl (by first | exact cells_agg _ rfl | exact cells_int _ _ | exact cells_str _ | exact cells_bool _ | exact cells_slice _ _ _ | exact cells_ptr _ | exact cells_map _ | exact cells_func _ _ _ | exact cells_nilFunc | exact cells_one (by assumption) (by assumption)) ?_; clear hL; intro gq wq hL)) | ((with_reducible refine gLoad rfl rfl ?_); (first | (refine ev_load1L rfl hL rfl rfl HasV.mem (by rfl) ?_) | (refine ev_loadAllL rfl hL rfl rfl HasV.mem (by rfl) ?_) | (refine ev_loadL rfl hL rfl rfl HasV.mem SegC.seg ?_))) | ((with_reducible refine gStore rfl rfl ?_); (first | (refine ev_storeC rfl hL rfl rfl rfl (by first | exact cells_agg _ rfl | exact cells_int _ _ | exact cells_str _ | exact cells_bool _ | exact cells_slice _ _ _ | exact cells_ptr _ | exact cells_map _ | exact cells_func _ _ _ | exact cells_nilFunc | exact cells_one (by assumption) (by assumption)) (by rfl) ?_) | (refine ev_storeAllC rfl hL rfl rfl rfl (by first | exact cells_agg _ rfl | exact cells_int _ _ | exact cells_str _ | exact cells_bool _ | exact cells_slice _ _ _ | exact cells_ptr _ | exact cells_map _ | exact cells_func _ _ _ | exact cells_nilFunc | exact cells_one (by assumption) (by assumption)) (by rfl) (by rfl) ?_)); clear hL; intro wq hL) | ((with_reducible refine gLoadG rfl rfl ?_ ?_); (exact wanted_some rfl rfl rfl (by with_reducible rfl)); (first | (refine ev_load1G (wanted_some rfl rfl rfl rfl) hL rfl rfl HasV.mem (by rfl) ?_) | (refine ev_loadAllG (wanted_some rfl rfl rfl rfl) hL rfl rfl HasV.mem (by rfl) ?_) | (refine ev_loadG_ (wanted_some rfl rfl rfl rfl) hL rfl rfl HasV.mem SegC.seg ?_))))
      go_ret
      exact ⟨_, rfl, by simp; omega, Mod.put hL.mod⟩
    · have t0 : decide ((pos : Int) < (B.size : Int)) = false := by simp; omega
      go_enter Tryd.func82, Tryd.ntmps82
      go_wp2_with (first | ((with_reducible refine gAlloc rfl rfl ?_); (refine ev_allocL rfl hL rfl (by first | exact cells_agg _ rfl | exact cells_int _ _ | exact cells_str _ | exact cells_bool _ | exact cells_slice _ _ _ | exact cells_ptr _ | exact cells_map _ | exact cells_func _ _ _ | exact cells_nilFunc | exact cells_one (by assumption) (by assumption)) ?_; clear hL; intro gq wq hL)) | ((with_reducible refine gBox rfl rfl ?_); (refine ev_boxL rfl hL rfl rfl (by first | exact cells_agg _ rfl | exact cells_int _ _ | exact cells_str _ | exact cells_bool _ | exact cells_slice _ _ _ | exact cells_ptr _ | exact cells_map _ | exact cells_func _ _ _ | exact cells_nilFunc | exact cells_one (by assumption) (by assumption)) ?_; clear hL; intro gq wq hL)) | ((with_reducible refine gLoad rfl rfl ?_); (first | (refine ev_load1L rfl hL rfl rfl HasV.mem (by rfl) ?_) | (refine ev_loadAllL rfl hL rfl rfl HasV.mem (by rfl) ?_) | (refine ev_loadL rfl hL rfl rfl HasV.mem SegC.seg ?_))) | ((with_reducible refine gStore rfl rfl ?_); (first | (refine ev_storeC rfl hL rfl rfl rfl (by first | exact cells_agg _ rfl | exact cells_int _ _ | exact cells_str _ | exact cells_bool _ | exact cells_slice _ _ _ | exact cells_ptr _ | exact cells_map _ | exact cells_func _ _ _ | exact cells_nilFunc | exact cells_one (by assumption) (by assumption)) (by rfl) ?_) | (refine ev_storeAllC rfl hL rfl rfl rfl (by first | exact cells_agg _ rfl | exact cells_int _ _ | exact cells_str _ | exact cells_bool _ | exact cells_slice _ _ _ | exact cells_ptr _ | exact cells_map _ | exact cells_func _ _ _ | exact cells_nilFunc | exact cells_one (by assumption) (by assumption)) (by rfl) (by rfl) ?_)); clear hL; intro wq hL) | ((with_reducible refine gLoadG rfl rfl ?_ ?_); (exact wanted_some rfl rfl rfl (by with_reducible rfl)); (first | (refine ev_load1G (wanted_some rfl rfl rfl rfl) hL rfl rfl HasV.mem (by rfl) ?_) | (refine ev_loadAllG (wanted_some rfl rfl rfl rfl) hL rfl rfl HasV.mem (by rfl) ?_) | (refine ev_loadG_ (wanted_some rfl rfl rfl rfl) hL rfl rfl HasV.mem SegC.seg ?_))))
      ((try simp only [Act.put, List.setIfInBounds_toArray, List.set_cons_succ, List.set_cons_zero]); refine wp_region_ext (by kernel_rfl) (by kernel_rfl) ?_; (repeat (first | (go_big_quiet_want; (first | refine quiet_load1L hL rfl rfl HasV.mem (by rfl) ?_ | refine quiet_loadAllL hL rfl rfl HasV.mem (by rfl) ?_ | refine quiet_loadL hL rfl rfl HasV.mem SegC.seg ?_); go_big_quiet_on; simp only [Act.put, List.setIfInBounds_toArray, List.set_cons_succ, List.set_cons_zero]) | go_big_quiet_step (fail))); refine wpQuiet_nil ?_; rintro _ ⟨⟨w2, hb2⟩, rfl⟩; have hL := (hL).call hb2; clear hb2)
      go_wp2_with (first | ((with_reducible refine gAlloc rfl rfl ?_); (refine ev_allocL rfl hL rfl (by first | exact cells_agg _ rfl | exact cells_int _ _ | exact cells_str _ | exact cells_bool _ | exact cells_slice _ _ _ | exact cells_ptr _ | exact cells_map _ | exact cells_func _ _ _ | exact cells_nilFunc | exact cells_one (by assumption) (by assumption)) ?_; clear hL; intro gq wq hL)) | ((with_reducible refine gBox rfl rfl ?_); (refine ev_boxL rfl hL rfl rfl (by first | exact cells_agg _ rfl | exact cells_int _ _ | exact cells_str _ | exact cells_bool _ | exact cells_slice _ _ _ | exact cells_ptr _ | exact cells_map _ | exact cells_func _ _ _ | exact cells_nilFunc | exact cells_one (by assumption) (by assumption)) ?_; clear hL; intro gq wq hL)) | ((with_reducible refine gLoad rfl rfl ?_); (first | (refine ev_load1L rfl hL rfl rfl HasV.mem (by rfl) ?_) | (refine ev_loadAllL rfl hL rfl rfl HasV.mem (by rfl) ?_) | (refine ev_loadL rfl hL rfl rfl HasV.mem SegC.seg ?_))) | ((with_reducible refine gStore rfl rfl ?_); (first | (refine ev_storeC rfl hL rfl rfl rfl (by first | exact cells_agg _ rfl | exact cells_int _ _ | exact cells_str _ | exact cells_bool _ | exact cells_slice _ _ _ | exact cells_ptr _ | exact cells_map _ | exact cells_func _ _ _ | exact cells_nilFunc | exact cells_one (by assumption) (by assumption)) (by rfl) ?_) | (refine ev_storeAllC rfl hL rfl rfl rfl (by first | exact cells_agg _ rfl | exact cells_int _ _ | exact cells_str _ | exact cells_bool _ | exact cells_slice _ _ _ | exact cells_ptr _ | exact cells_map _ | exact cells_func _ _ _ | exact cells_nilFunc | exact cells_one (by assumption) (by assumption)) (by rfl) (by rfl) ?_)); clear hL; intro wq hL) | ((with_reducible refine gLoadG rfl rfl ?_ ?_); (exact wanted_some rfl rfl rfl (by with_reducible rfl)); (first | (refine ev_load1G (wanted_some rfl rfl rfl rfl) hL rfl rfl HasV.mem (by rfl) ?_) | (refine ev_loadAllG (wanted_some rfl rfl rfl rfl) hL rfl rfl HasV.mem (by rfl) ?_) | (refine ev_loadG_ (wanted_some rfl rfl rfl rfl) hL rfl rfl HasV.mem SegC.seg ?_))))
      go_ret
      exact ⟨_, rfl, by simp; omega, Mod.put hL.mod⟩
end Go.Proofs.YtbkffeabikjnhaaDoor
