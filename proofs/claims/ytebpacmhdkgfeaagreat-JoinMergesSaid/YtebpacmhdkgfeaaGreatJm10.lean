/- Texts laid together: SortK1, SortK2, SortK3, SortK4, SortK5, SortK6, SortK7, SortK8, SortK9. -/
import Derived.Test.YtebpacmhdkgfeaaGreatJm6
set_option linter.unusedSimpArgs false
set_option linter.unusedVariables false
namespace Go.Proofs.YtebpacmhdkgfeaaGreat.SortK
open Go.RowKit
variable {α : Type} (E : Enc α)
abbrev Own (w : World) (base g n c : Nat) (xs : List α) : Prop := E.O w base 46 (.slice (some ⟨g, 0, none⟩) n c) xs
abbrev it (base g n c : Nat) (xs : List α) : Item := row E base 46 (.slice (some ⟨g, 0, none⟩) n c) xs
theorem ofR {w0 w : World} {M : Nat → Prop} {base g n c : Nat} {xs : List α} (h : Loc w0 M w [it E base g n c xs]) : Own E w base g n c xs := h.own (.head _)
theorem openR {w : World} {base g n c : Nat} {xs : List α} (h : Own E w base g n c xs) : Loc w (· = g) w [it E base g n c xs] := by
 refine ⟨.refl _ _, fun i hi => ?_, fun i hi k hk => ?_, .cons (by simp) .nil⟩
 ·rw [List.mem_singleton.1 hi]; exact row_at h
 ·rw [List.mem_singleton.1 hi] at hk
  have hk' : (Value.slice (some ⟨g, 0, none⟩) n c).ownBlock = some k := hk
  injection hk' with hk'
  exact .inr hk'.symm
variable [hsz : SizeT Tryz.prog 46 E.sz]
set_option maxRecDepth 100000 in
set_option maxHeartbeats 8000000 in
theorem swap_range (w : World) (base g n c a b k : Nat) (fv : Value) (P A M B R : List α) (h : Own E w base g n c (P ++ A ++ M ++ B ++ R)) (hn : n = (P ++ A ++ M ++ B ++ R).length) (ha : a = P.length) (hA : A.length = k) (hb : b = a + k + M.length) (hB : B.length = k) (hmax : n ≤ 1000000000) :
  Calls Tryz.prog 222 #[.slice (some ⟨g, 0, none⟩) n c, .int .i64 a, .int .i64 b, .int .i64 k, fv] w fun e w' => e = .returned (.tuple #[]) ∧ Loc w (· = g) w' [it E base g n c (P ++ B ++ M ++ A ++ R)] := by
 have hL := openR E h
 have hlen : P.length + k + M.length + k + R.length = n := by rw [hn]; simp; omega
 clear h
 go_enter Tryz.func222, Tryz.ntmps222
 go_wp2
 go_loopw [10] (fun iv wr => ∃ i : Nat, i ≤ k ∧ iv = .int .i64 i ∧ Loc w (· = g) wr [it E base g n c (P ++ (B.take i ++ A.drop i) ++ M ++ (A.take i ++ B.drop i) ++ R)]) (fun iv _ => k - (intOf iv).toNat)
 case atStart => exact ⟨0, by omega, rfl, by simpa using hL⟩
 case round =>
  clear hL
  obtain ⟨i, hi, rfl, hL⟩ := hrel
  by_cases hlt : i < k
  ·have t0 : decide ((i : Int) < (k : Int)) = true := by simp; omega
   obtain ⟨x, hx⟩ : ∃ x, A[i]? = some x := ⟨_, List.getElem?_eq_getElem (by omega)⟩
   obtain ⟨y, hy⟩ : ∃ y, B[i]? = some y := ⟨_, List.getElem?_eq_getElem (by omega)⟩
   obtain ⟨q1, q2, q3⟩ := Stab.swap_step P A M B R i x y hx hy (hA.trans hB.symm)
   have ia1 : a + i = (P ++ B.take i).length := by simp; omega
   have ib1 : b + i = (P ++ B.take i).length + 1 + (A.drop (i + 1) ++ M ++ A.take i).length := by simp; omega
   rw [← ib1] at q2 q3
   rw [← ia1] at q1 q3
   go_wp2
   refine region_any (by kernel_rfl) hL ?_
   clear hL
   intro wR hL _ _
   refine tQ (i := 0) (y := y_move (.slice (some ⟨g, 0, none⟩) n c) rfl rfl (by rfl)) (z := ?_)
   refine tQ (i := 1) (y := y_move (.int .i64 ((a : Nat) : Int)) rfl rfl (by rfl)) (z := ?_)
   refine tQ (i := 2) (y := y_move (.int .i64 ((i : Nat) : Int)) rfl rfl (by rfl)) (z := ?_)
   refine tQ (i := 3) (y := y_add (a) (i) rfl rfl (by rfl) (by rfl) (by omega)) (z := ?_)
   refine tQ (i := 4) (y := y_move (.slice (some ⟨g, 0, none⟩) n c) rfl rfl (by rfl)) (z := ?_)
   refine tQ (i := 5) (y := y_move (.int .i64 ((b : Nat) : Int)) rfl rfl (by rfl)) (z := ?_)
   (try simp only [Act.put, zs, zt, zu])
   refine tQ (i := 6) (y := y_move (.int .i64 ((i : Nat) : Int)) rfl rfl (by rfl)) (z := ?_)
   refine tQ (i := 7) (y := y_add (b) (i) rfl rfl (by rfl) (by rfl) (by omega)) (z := ?_)
   refine tQ (i := 8) (y := y_move (.slice (some ⟨g, 0, none⟩) n c) rfl rfl (by rfl)) (z := ?_)
   refine tQ (i := 9) (y := y_move (.int .i64 ((b : Nat) : Int)) rfl rfl (by rfl)) (z := ?_)
   refine tQ (i := 10) (y := y_move (.int .i64 ((i : Nat) : Int)) rfl rfl (by rfl)) (z := ?_)
   refine tQ (i := 11) (y := y_add (b) (i) rfl rfl (by rfl) (by rfl) (by omega)) (z := ?_)
   (try simp only [Act.put, zs, zt, zu])
   refine tQ (i := 12) (y := y_index E (b + i) rfl rfl (by rfl) (by rfl) (by omega)) (z := ?_)
   refine tQ (i := 14) (y := y_move (.slice (some ⟨g, 0, none⟩) n c) rfl rfl (by rfl)) (z := ?_)
   refine tQ (i := 15) (y := y_move (.int .i64 ((a : Nat) : Int)) rfl rfl (by rfl)) (z := ?_)
   refine tQ (i := 16) (y := y_move (.int .i64 ((i : Nat) : Int)) rfl rfl (by rfl)) (z := ?_)
   refine tQ (i := 17) (y := y_add (a) (i) rfl rfl (by rfl) (by rfl) (by omega)) (z := ?_)
   refine tQ (i := 18) (y := y_index E (a + i) rfl rfl (by rfl) (by rfl) (by omega)) (z := ?_)
   (try simp only [Act.put, zs, zt, zu])
   (try simp only [Act.put, zs, zt, zu])
   refine wpAny_loads (E := E) (ix := a + i) (jx := b + i) (i := 13) (j := 19) nx nx rfl rfl (by kernel_rfl) (by kernel_rfl) (by kernel_rfl) (by decide) rfl rfl rfl rfl (by decide) hL (.head _) (by rfl) (by rfl) q2 q1 ?_
   (try simp only [Act.put, zs, zt, zu])
   refine wpAny_drop 20 (by rfl) (by kernel_rfl) ?_
   simp only [List.drop_succ_cons, List.drop_zero]
   (try simp only [Act.put, zs, zt, zu])
   refine event rfl (run_indexRow (E := E) (i := a + i) rfl (by rfl) (by rfl) (by omega) _) ?_
   (try simp only [Act.put, zs, zt, zu])
   refine ev_setRow (E := E) (a + i) y rfl hL rfl (by rfl) rfl (by rfl) ⟨rfl, E.one _⟩ (List.getElem?_eq_some_iff.1 q1).1 (.here _) ?_
   clear hL
   intro wS hL
   (try simp only [Act.put, zs, zt, zu])
   refine event rfl (run_indexRow (E := E) (i := b + i) rfl (by rfl) (by rfl) (by omega) _) ?_
   (try simp only [Act.put, zs, zt, zu])
   refine ev_setRow (E := E) (b + i) x rfl hL rfl (by rfl) rfl (by rfl) ⟨rfl, E.one _⟩ (by rw [List.length_set]; exact (List.getElem?_eq_some_iff.1 q2).1) (.here _) ?_
   clear hL
   intro wS hL
   (try simp only [Act.put, zs, zt, zu])
   rw [q3] at hL
   go_wp2
   go_roundw
   case rel => exact ⟨i + 1, by omega, by go_num, hL⟩
   case measure => simp [intOf]; omega
  ·obtain rfl : i = k := by omega
   have t0 : decide ((i : Int) < (i : Int)) = false := by simp
   go_wp2
   go_end0
   rw [List.take_of_length_le (l := A) (by omega), List.take_of_length_le (l := B) (by omega), List.drop_of_length_le (l := A) (by omega), List.drop_of_length_le (l := B) (by omega), List.append_nil, List.append_nil] at hL
   exact ⟨rfl, hL⟩
end Go.Proofs.YtebpacmhdkgfeaaGreat.SortK

namespace Go.Proofs.YtebpacmhdkgfeaaGreat.SortK
open Go.RowKit
variable {α : Type} (E : Enc α) [hsz : SizeT Tryz.prog 46 E.sz]
set_option maxHeartbeats 2000000 in
theorem rotate (w : World) (base g n c a m b : Nat) (fv : Value) (P A B R : List α) (h : Own E w base g n c (P ++ A ++ B ++ R)) (hn : n = (P ++ A ++ B ++ R).length) (ha : a = P.length) (hm : m = a + A.length) (hb : b = m + B.length) (hA : A ≠ []) (hB : B ≠ []) (hmax : n ≤ 1000000000) :
  Calls Tryz.prog 212 #[.slice (some ⟨g, 0, none⟩) n c, .int .i64 a, .int .i64 m, .int .i64 b, fv] w fun e w' => e = .returned (.tuple #[]) ∧ Loc w (· = g) w' [it E base g n c (P ++ B ++ A ++ R)] := by
 have hL := openR E h
 have hlen : P.length + A.length + B.length + R.length = n := by rw [hn]; simp; omega
 have hA0 : 0 < A.length := List.length_pos_iff.2 hA
 have hB0 : 0 < B.length := List.length_pos_iff.2 hB
 have HM := kD (show m ≤ n ∧ m = P.length + A.length ∧ P.length + A.length + B.length + R.length = n from ⟨by omega, by omega, hlen⟩)
 have e1 : (m : Int) - (a : Int) = (A.length : Int) := by omega
 have e2 : (b : Int) - (m : Int) = (B.length : Int) := by omega
 have hm9 : m ≤ 1000000000 := by omega
 have hA9 : A.length ≤ 1000000000 := by omega
 have hB9 : B.length ≤ 1000000000 := by omega
 clear h hn ha hm hb hlen hA hB
 go_enter Tryz.func212, Tryz.ntmps212
 go_wp2
 clear e1 e2
 go_loopw [10, 11] (fun iv jv wr => ∃ (X U V Y : List α), iv = .int .i64 U.length ∧ jv = .int .i64 V.length ∧ Hid (0 < U.length ∧ 0 < V.length ∧ P.length + X.length + U.length = m ∧ X ++ V ++ U ++ Y = B ++ A) ∧ Loc w (· = g) wr [it E base g n c (P ++ X ++ U ++ V ++ Y ++ R)]) (fun iv jv _ => (intOf iv).toNat + (intOf jv).toNat)
 case atStart => exact ⟨[], A, B, [], rfl, rfl, kD ⟨hA0, hB0, by have := HM.out; simp; omega, by simp⟩, by simpa using hL⟩
 case round =>
  clear hL
  obtain ⟨X, U, V, Y, rfl, rfl, HI, hL⟩ := hrel
  have HJ : Hid (P.length + X.length + U.length + V.length + Y.length + R.length = n) := kD (by
   have h1 := HM.out
   have h2 := congrArg List.length HI.out.2.2.2
   simp only [List.length_append] at h2
   omega)
  have hUm : U.length ≤ m := by have := HI.out; omega
  have hV9 : V.length ≤ 1000000000 := by have := HJ.out; omega
  by_cases heq : U.length = V.length
  ·have t0 : ((U.length : Int) != (V.length : Int)) = false := by simp [heq]
   have HE := kD heq
   have hq : ∀ w, Own E w base g n c (P ++ X ++ U ++ V ++ Y ++ R) → Hid (Calls Tryz.prog 222 #[.slice (some ⟨g, 0, none⟩) n c, .int .i64 ((m : Int) - (U.length : Int)), .int .i64 m, .int .i64 U.length, fv] w fun e w' => e = .returned (.tuple #[]) ∧ Loc w (· = g) w' [it E base g n c (P ++ B ++ A ++ R)]) := fun w h => hide (by
    have h1 := HI.out; have h2 := HM.out; have h3 := HJ.out
    have q := swap_range E w base g n c (m - U.length) m U.length fv (P ++ X) U [] V (Y ++ R) (by simpa using h) (by simp; omega) (by simp; omega) rfl (by simp; omega) heq.symm hmax
    rw [show ((m - U.length : Nat) : Int) = (m : Int) - (U.length : Int) from by omega, show P ++ X ++ V ++ [] ++ U ++ (Y ++ R) = P ++ B ++ A ++ R from by rw [List.append_assoc P B, ← h1.2.2.2]; simp] at q
    exact q)
   clear heq HI HJ HM HE
   go_wp2_with (go_at_call 222; (with_reducible refine (unhide (hq _ (ofR E hL))).mono ?_); rintro e w2 ⟨rfl, hL2⟩; have hL := hL.overRow hL2; clear hL2)
   go_end0
   exact ⟨rfl, hL⟩
  ·have t0 : ((U.length : Int) != (V.length : Int)) = true := by simp; omega
   by_cases hgt : V.length < U.length
   ·have t1 : decide ((V.length : Int) < (U.length : Int)) = true := by simp; omega
    obtain ⟨U1, U2, HU⟩ : ∃ U1 U2, Hid (U = U1 ++ U2 ∧ U1.length = V.length ∧ U2.length = U.length - V.length) := ⟨U.take V.length, U.drop V.length, kD ⟨(List.take_append_drop _ _).symm, by rw [List.length_take]; omega, List.length_drop⟩⟩
    have hq : ∀ w, Own E w base g n c (P ++ X ++ U ++ V ++ Y ++ R) → Hid (Calls Tryz.prog 222 #[.slice (some ⟨g, 0, none⟩) n c, .int .i64 ((m : Int) - (U.length : Int)), .int .i64 m, .int .i64 V.length, fv] w fun e w' => e = .returned (.tuple #[]) ∧ Loc w (· = g) w' [it E base g n c (P ++ (X ++ V) ++ U2 ++ U1 ++ Y ++ R)]) := fun w h => hide (by
     have h1 := HI.out; have h2 := HM.out; have h3 := HJ.out; have h4 := HU.out
     have q := swap_range E w base g n c (m - U.length) m V.length fv (P ++ X) U1 U2 V (Y ++ R) (by rw [h4.1] at h; simpa using h) (by simp; omega) (by simp; omega) h4.2.1 (by omega) rfl hmax
     rw [show ((m - U.length : Nat) : Int) = (m : Int) - (U.length : Int) from by omega, show P ++ X ++ V ++ U2 ++ U1 ++ (Y ++ R) = P ++ (X ++ V) ++ U2 ++ U1 ++ Y ++ R from by simp] at q
     exact q)
    have HR : Hid ((U2.length : Int) = (U.length : Int) - (V.length : Int) ∧ U1.length = V.length ∧ 0 < U2.length ∧ 0 < U1.length ∧ P.length + (X ++ V).length + U2.length = m ∧ (X ++ V) ++ U1 ++ U2 ++ Y = B ++ A) := kD (by
     have h1 := HI.out; have h4 := HU.out
     refine ⟨by omega, h4.2.1, by omega, by omega, by simp; omega, ?_⟩
     rw [← h1.2.2.2, h4.1]; simp)
    have hV := HI.out.2.1
    clear HI HJ HU heq
    go_wp2_with (go_at_call 222; (with_reducible refine (unhide (hq _ (ofR E hL))).mono ?_); rintro e w2 ⟨rfl, hL2⟩; have hL := hL.overRow hL2; clear hL2)
    go_roundw
    case rel => exact ⟨X ++ V, U2, U1, Y, by rw [HR.out.1], by rw [HR.out.2.1], kD HR.out.2.2, hL⟩
    case measure => simp [intOf]; omega
   ·have t1 : decide ((V.length : Int) < (U.length : Int)) = false := by simp; omega
    obtain ⟨V1, V2, HU⟩ : ∃ V1 V2, Hid (V = V1 ++ V2 ∧ V1.length = V.length - U.length ∧ V2.length = U.length) := ⟨V.take (V.length - U.length), V.drop (V.length - U.length), kD ⟨(List.take_append_drop _ _).symm, by rw [List.length_take]; omega, by rw [List.length_drop]; omega⟩⟩
    have hq : ∀ w, Own E w base g n c (P ++ X ++ U ++ V ++ Y ++ R) → Hid (Calls Tryz.prog 222 #[.slice (some ⟨g, 0, none⟩) n c, .int .i64 ((m : Int) - (U.length : Int)), .int .i64 ((m : Int) + (V.length : Int) - (U.length : Int)), .int .i64 U.length, fv] w fun e w' => e = .returned (.tuple #[]) ∧ Loc w (· = g) w' [it E base g n c (P ++ X ++ V2 ++ V1 ++ (U ++ Y) ++ R)]) := fun w h => hide (by
     have h1 := HI.out; have h2 := HM.out; have h3 := HJ.out; have h4 := HU.out
     have q := swap_range E w base g n c (m - U.length) (m + V.length - U.length) U.length fv (P ++ X) U V1 V2 (Y ++ R) (by rw [h4.1] at h; simpa using h) (by simp; omega) (by simp; omega) rfl (by omega) h4.2.2 hmax
     rw [show ((m - U.length : Nat) : Int) = (m : Int) - (U.length : Int) from by omega, show ((m + V.length - U.length : Nat) : Int) = (m : Int) + (V.length : Int) - (U.length : Int) from by omega, show P ++ X ++ V2 ++ V1 ++ U ++ (Y ++ R) = P ++ X ++ V2 ++ V1 ++ (U ++ Y) ++ R from by simp] at q
     exact q)
    have HR : Hid (V2.length = U.length ∧ (V1.length : Int) = (V.length : Int) - (U.length : Int) ∧ 0 < V2.length ∧ 0 < V1.length ∧ P.length + X.length + V2.length = m ∧ X ++ V1 ++ V2 ++ (U ++ Y) = B ++ A) := kD (by
     have h1 := HI.out; have h4 := HU.out
     refine ⟨h4.2.2, by omega, by omega, by omega, by omega, ?_⟩
     rw [← h1.2.2.2, h4.1]; simp)
    have hU := HI.out.1
    clear HI HJ HU
    go_wp2_with (go_at_call 222; (with_reducible refine (unhide (hq _ (ofR E hL))).mono ?_); rintro e w2 ⟨rfl, hL2⟩; have hL := hL.overRow hL2; clear hL2)
    go_roundw
    case rel => exact ⟨X, V2, V1, U ++ Y, by rw [HR.out.1], by rw [HR.out.2.1], kD HR.out.2.2, hL⟩
    case measure => simp [intOf]; omega
end Go.Proofs.YtebpacmhdkgfeaaGreat.SortK

namespace Go.Proofs.YtebpacmhdkgfeaaGreat.SortK
open Go.RowKit
variable {α : Type} (E : Enc α) [hsz : SizeT Tryz.prog 46 E.sz]
def CmpOk (f : Nat) (cb : Array Value) (cf : α → α → Int) (w0 : World) (g : Nat) : Prop := ∀ x y w, Mod (· = g) w0 w → Calls Tryz.prog f (#[.agg (E.cells x).toArray, .agg (E.cells y).toArray] ++ cb) w fun e w' => e = .returned (.int .i64 (cf x y)) ∧ Below w.heap.size w w'
abbrev ltf (cf : α → α → Int) (x y : α) : Bool := decide (cf x y < 0)
set_option maxRecDepth 100000 in
set_option maxHeartbeats 8000000 in
theorem insertion (f : Nat) (cb : Array Value) (cf : α → α → Int) (eg : ∀ args w, (callFunc f args).run Tryz.prog w = .ok (.enter f args) w) (ho : Stab.Ord (ltf cf)) (w : World) (base g n c a b : Nat) (P L R : List α) (hcmp : CmpOk E f cb cf w g) (h : Own E w base g n c (P ++ L ++ R)) (hn : n = (P ++ L ++ R).length) (ha : a = P.length) (hb : b = a + L.length) (hmax : n ≤ 1000000000) :
  Calls Tryz.prog 199 #[.slice (some ⟨g, 0, none⟩) n c, .int .i64 a, .int .i64 b, .func (.func f) #[] cb] w fun e w' => e = .returned (.tuple #[]) ∧ Loc w (· = g) w' [it E base g n c (P ++ Stab.isort (ltf cf) L ++ R)] := by
 have hL := openR E h
 have HN := kD (show n = P.length + L.length + R.length ∧ a = P.length ∧ b = a + L.length from ⟨by rw [hn]; simp; omega, ha, hb⟩)
 have ha9 : a ≤ 1000000000 := by have := HN.out; omega
 have hb9 : b ≤ 1000000000 := by have := HN.out; omega
 have HC := hide hcmp
 clear h hn ha hb hcmp
 go_enter Tryz.func199, Tryz.ntmps199
 go_wp2
 go_loopw [8] (fun iv wr => ∃ k : Nat, iv = .int .i64 ((a + k : Nat) : Int) ∧ Hid (1 ≤ k ∧ (k ≤ L.length ∨ k = 1)) ∧ Loc w (· = g) wr [it E base g n c (P ++ (Stab.isort (ltf cf) (L.take k) ++ L.drop k) ++ R)]) (fun iv _ => b + 1 - (intOf iv).toNat)
 case atStart =>
  refine ⟨1, rfl, kD ⟨by omega, .inr rfl⟩, ?_⟩
  have e : Stab.isort (ltf cf) (L.take 1) ++ L.drop 1 = L := by cases L <;> rfl
  rw [e]; exact hL
 case round =>
  clear hL
  obtain ⟨k, rfl, HK, hL⟩ := hrel
  by_cases hlt : a + k < b
  ·have t0 : decide (((a + k : Nat) : Int) < (b : Int)) = true := by simp; omega
   have hk : k < L.length := by have := HN.out; omega
   obtain ⟨x, hx⟩ : ∃ x, L[k]? = some x := ⟨_, List.getElem?_eq_getElem hk⟩
   have hdr := Stab.drop_cons' hx
   have HS : Hid (Stab.isort (ltf cf) (L.take (k + 1)) = Stab.ins (ltf cf) x (Stab.isort (ltf cf) (L.take k)) ∧ Stab.Of (ltf cf) (L.take k) (Stab.isort (ltf cf) (L.take k)) ∧ (Stab.isort (ltf cf) (L.take k)).length = k ∧ k < L.length) := kD (by
    refine ⟨by rw [Stab.take_snoc' hx, Stab.isort_snoc], Stab.isort_of ho _, ?_, hk⟩
    rw [(Stab.isort_of ho _).len, List.length_take]; omega)
   rw [hdr] at hL
   clear hdr hx hk
   go_wp2
   go_loopw [9] (fun jv wr2 => ∃ (L1 L2 : List α), jv = .int .i64 ((a + L1.length : Nat) : Int) ∧ Hid (L1 ++ L2 = Stab.isort (ltf cf) (L.take k) ∧ ∀ y ∈ L2, ltf cf x y = true) ∧ Loc w (· = g) wr2 [it E base g n c (P ++ (L1 ++ x :: L2 ++ L.drop (k + 1)) ++ R)]) (fun jv _ => (intOf jv).toNat)
   case atStart =>
    refine ⟨Stab.isort (ltf cf) (L.take k), [], by rw [HS.out.2.2.1], kD ⟨by simp, by simp⟩, ?_⟩
    have e : Stab.isort (ltf cf) (L.take k) ++ [x] ++ L.drop (k + 1) = Stab.isort (ltf cf) (L.take k) ++ x :: L.drop (k + 1) := by simp
    rw [e]; exact hL
   case round =>
    clear hL
    obtain ⟨L1, L2, rfl, HI, hL⟩ := hrel
    have hfin : (∀ y ∈ L1, ltf cf x y = false) → Hid (P ++ (L1 ++ x :: L2 ++ L.drop (k + 1)) ++ R = P ++ (Stab.isort (ltf cf) (L.take (k + 1)) ++ L.drop (k + 1)) ++ R) := fun hh => kD (by
     rw [HS.out.1, ← HI.out.1, Stab.ins_split x L1 L2 hh (fun y hy => HI.out.2 y (List.mem_of_mem_head? hy))])
    have hlen : Hid (n = a + L1.length + 1 + L2.length + (L.length - (k + 1)) + R.length ∧ L1.length ≤ k) := kD (by
     have h1 := congrArg List.length HI.out.1
     have h2 := HS.out
     have h3 := HN.out
     rw [List.length_append] at h1
     omega)
    rcases Stab.nil_or_snoc L1 with rfl | ⟨L1', y, rfl⟩
    ·have t1 : decide ((a : Int) < (a : Int)) = false := by simp
     have HF := hfin (by simp)
     clear hfin
     simp only [List.length_nil, Nat.add_zero]
     go_wp2_with fail
     (try simp only [Act.put, zs, zt, zu])
     refine wp_region_ext (by kernel_rfl) (by kernel_rfl) ?_
     repeat (go_big_quiet_step (fail))
     refine wpQuiet_nil ?_
     rintro _ ⟨⟨wC, hbC⟩, rfl⟩
     have hL := hL.call hbC
     clear hbC
     rw [HF.out] at hL
     go_wp2
     go_roundw
     case rel => exact ⟨k + 1, by go_num, kD ⟨by omega, .inl (by have := HS.out; omega)⟩, hL⟩
     case measure => have := HN.out; have := HS.out; simp [intOf]; omega
    ·obtain ⟨jp, HP⟩ : ∃ jp, Hid (jp = a + L1'.length ∧ a + (L1' ++ [y]).length = jp + 1) := ⟨_, kD ⟨rfl, by simp; omega⟩⟩
     have hjp9 : jp + 1 < n := by have h1 := hlen.out; have h2 := HP.out; simp only [List.length_append, List.length_singleton] at h1 h2; omega
     have hajp : a ≤ jp := by have := HP.out; omega
     have t1 : decide ((a : Int) < (jp : Int) + 1) = true := by simp; omega
     obtain ⟨q1, q2, -⟩ := Stab.exch_at (P ++ L1') [] (L2 ++ L.drop (k + 1) ++ R) y x
     have q3 := Stab.exch_at' (P ++ L1') [] (L2 ++ L.drop (k + 1) ++ R) y x
     have hpl : (P ++ L1').length = jp := by have := HP.out; have := HN.out; simp; omega
     simp only [List.nil_append, List.length_nil, Nat.add_zero, hpl] at q1 q2 q3
     have e0 : P ++ (L1' ++ [y] ++ x :: L2 ++ L.drop (k + 1)) ++ R = P ++ L1' ++ y :: x :: (L2 ++ L.drop (k + 1) ++ R) := by simp
     rw [e0] at hL hfin
     rw [HP.out.2]
     have e9 : P ++ L1' ++ x :: y :: (L2 ++ L.drop (k + 1) ++ R) = P ++ (L1' ++ x :: (y :: L2) ++ L.drop (k + 1)) ++ R := by simp
     have HE9 := kD e9
     clear hpl e0 e9 hlen
     generalize P ++ L1' ++ y :: x :: (L2 ++ L.drop (k + 1) ++ R) = xs at *
     have hy1 := q1
     have hy2 := q2
     have hcq := fun w (hb : Below _ _ w) => unhide HC x y w (hL.mod.trans (Mod.of_below (M := NoM) hb) fun _ _ e => e.elim)
     by_cases hc : cf x y < 0
     ·have t2 : decide (cf x y < 0) = true := by simpa using hc
      clear hfin
      go_wp2_with fail
      (try simp only [Act.put, zs, zt, zu])
      refine wp_region_ext (by kernel_rfl) (by kernel_rfl) ?_
      repeat (first
          | (go_big_quiet_want; (first | refine qK E rfl (by rfl) (by rfl) (by omega) ?_ | refine qJ (E := E) hL (.head _) rfl (by rfl) hy1 ?_ | refine qJ (E := E) hL (.head _) rfl (by rfl) hy2 ?_); go_big_quiet_on; simp only [Act.put, zs, zt, zu])
          | go_big_quiet_step (first | (go_at_fn f; exact calls_ext (hcq _ (Ext.ok _)))))
      refine wpQuiet_nil ?_
      rintro _ ⟨⟨wC, hbC⟩, rfl⟩
      have hL := hL.call hbC
      clear hbC hcq
      go_wp2_with fail
      clear hy1 hy2
      refine region_any (by kernel_rfl) hL ?_
      clear hL
      intro wR hL _ _
      refine tQ (i := 0) (y := y_move (.slice (some ⟨g, 0, none⟩) n c) rfl rfl (by rfl)) (z := ?_)
      refine tQ (i := 1) (y := y_move (.int .i64 ((jp + 1 : Nat) : Int)) rfl rfl (by rfl)) (z := ?_)
      refine tQ (i := 2) (y := y_move (.slice (some ⟨g, 0, none⟩) n c) rfl rfl (by rfl)) (z := ?_)
      refine tQ (i := 3) (y := y_move (.int .i64 ((jp + 1 : Nat) : Int)) rfl rfl (by rfl)) (z := ?_)
      refine tQ (i := 4) (y := y_sub (jp + 1) (1) rfl rfl (by rfl) (by rfl) (by omega) (by omega)) (z := ?_)
      refine tQ (i := 5) (y := y_move (.slice (some ⟨g, 0, none⟩) n c) rfl rfl (by rfl)) (z := ?_)
      (try simp only [Act.put, zs, zt, zu])
      refine tQ (i := 6) (y := y_move (.int .i64 ((jp + 1 : Nat) : Int)) rfl rfl (by rfl)) (z := ?_)
      refine tQ (i := 7) (y := y_sub (jp + 1) (1) rfl rfl (by rfl) (by rfl) (by omega) (by omega)) (z := ?_)
      refine tQ (i := 8) (y := y_index E (jp) rfl rfl (by rfl) (by rfl) (by omega)) (z := ?_)
      refine tQ (i := 10) (y := y_move (.slice (some ⟨g, 0, none⟩) n c) rfl rfl (by rfl)) (z := ?_)
      refine tQ (i := 11) (y := y_move (.int .i64 ((jp + 1 : Nat) : Int)) rfl rfl (by rfl)) (z := ?_)
      refine tQ (i := 12) (y := y_index E (jp + 1) rfl rfl (by rfl) (by rfl) (by omega)) (z := ?_)
      (try simp only [Act.put, zs, zt, zu])
      (try simp only [Act.put, zs, zt, zu])
      refine wpAny_loads (E := E) (ix := jp + 1) (jx := jp) (i := 9) (j := 13) nx nx rfl rfl (by kernel_rfl) (by kernel_rfl) (by kernel_rfl) (by decide) rfl rfl rfl rfl (by decide) hL (.head _) (by rfl) (by rfl) q1 q2 ?_
      (try simp only [Act.put, zs, zt, zu])
      refine wpAny_drop 14 (by rfl) (by kernel_rfl) ?_
      simp only [List.drop_succ_cons, List.drop_zero]
      (try simp only [Act.put, zs, zt, zu])
      refine event rfl (run_indexRow (E := E) (i := jp + 1) rfl (by rfl) (by rfl) (by omega) _) ?_
      (try simp only [Act.put, zs, zt, zu])
      refine ev_setRow (E := E) (jp + 1) y rfl hL rfl (by rfl) rfl (by rfl) ⟨rfl, E.one _⟩ (List.getElem?_eq_some_iff.1 q2).1 (.here _) ?_
      clear hL
      intro wS hL
      (try simp only [Act.put, zs, zt, zu])
      refine event rfl (run_indexRow (E := E) (i := jp) rfl (by rfl) (by rfl) (by omega) _) ?_
      (try simp only [Act.put, zs, zt, zu])
      refine ev_setRow (E := E) (jp) x rfl hL rfl (by rfl) rfl (by rfl) ⟨rfl, E.one _⟩ (by rw [List.length_set]; exact (List.getElem?_eq_some_iff.1 q1).1) (.here _) ?_
      clear hL
      intro wS hL
      (try simp only [Act.put, zs, zt, zu])
      rw [q3, HE9.out] at hL
      go_wp2
      go_roundw
      case rel =>
       refine ⟨L1', y :: L2, by rw [← HP.out.1], kD ⟨?_, fun z hz => ?_⟩, hL⟩
       ·have := HI.out.1; rw [← this]; simp
       ·rcases List.mem_cons.1 hz with rfl | hz
        ·exact t2
        ·exact HI.out.2 z hz
      case measure => simp [intOf]
     ·have t2 : decide (cf x y < 0) = false := by simpa using hc
      have HF := hfin (fun z hz => by
       rcases List.mem_append.1 hz with hz | hz
       ·have hs := HS.out.2.1.sorted
        rw [← HI.out.1] at hs
        have h1 := List.pairwise_append.1 hs
        have h2 := List.pairwise_append.1 h1.1
        exact ho.le_trans (h2.2.2 z hz y (.head _)) t2
       ·rw [List.mem_singleton.1 hz]; exact t2)
      clear hfin
      go_wp2_with fail
      (try simp only [Act.put, zs, zt, zu])
      refine wp_region_ext (by kernel_rfl) (by kernel_rfl) ?_
      repeat (first
          | (go_big_quiet_want; (first | refine qK E rfl (by rfl) (by rfl) (by omega) ?_ | refine qJ (E := E) hL (.head _) rfl (by rfl) hy1 ?_ | refine qJ (E := E) hL (.head _) rfl (by rfl) hy2 ?_); go_big_quiet_on; simp only [Act.put, zs, zt, zu])
          | go_big_quiet_step (first | (go_at_fn f; exact calls_ext (hcq _ (Ext.ok _)))))
      refine wpQuiet_nil ?_
      rintro _ ⟨⟨wC, hbC⟩, rfl⟩
      have hL := hL.call hbC
      clear hbC hcq
      rw [HF.out] at hL
      go_wp2
      go_roundw
      case rel => exact ⟨k + 1, by go_num, kD ⟨by omega, .inl (by have := HS.out; omega)⟩, hL⟩
      case measure => have := HN.out; have := HS.out; simp [intOf]; omega
  ·have t0 : decide (((a + k : Nat) : Int) < (b : Int)) = false := by simp; omega
   have HF : Hid (P ++ (Stab.isort (ltf cf) (L.take k) ++ L.drop k) ++ R = P ++ Stab.isort (ltf cf) L ++ R) := kD (by
    have := HN.out
    rw [List.take_of_length_le (by omega), List.drop_of_length_le (by omega), List.append_nil])
   rw [HF.out] at hL
   go_wp2
   go_end0
   exact ⟨rfl, hL⟩
end Go.Proofs.YtebpacmhdkgfeaaGreat.SortK

namespace Go.Proofs.YtebpacmhdkgfeaaGreat.SortK
open Go.RowKit
variable {α : Type} (E : Enc α) [hsz : SizeT Tryz.prog 46 E.sz]
theorem CmpOk.next {α : Type} {E : Enc α} {f : Nat} {cb : Array Value} {cf : α → α → Int} {w w1 : World} {g : Nat} (h : CmpOk E f cb cf w g) (hm : Mod (· = g) w w1) : CmpOk E f cb cf w1 g := fun x y w2 h2 => h x y w2 (hm.trans h2 fun _ _ e => e)
def Merged (lt : α → α → Bool) (w : World) (base g n c : Nat) (P A B R : List α) (e : Ending) (w' : World) : Prop := e = .returned (.tuple #[]) ∧ ∃ L, Stab.Of lt (A ++ B) L ∧ Loc w (· = g) w' [it E base g n c (P ++ L ++ R)]
set_option maxRecDepth 100000 in
set_option maxHeartbeats 8000000 in
theorem sym_left (f : Nat) (cb : Array Value) (cf : α → α → Int) (eg : ∀ args w, (callFunc f args).run Tryz.prog w = .ok (.enter f args) w) (ho : Stab.Ord (ltf cf)) (w : World) (base g n c a b : Nat) (x : α) (P B R : List α) (hcmp : CmpOk E f cb cf w g) (h : Own E w base g n c (P ++ [x] ++ B ++ R)) (hn : n = (P ++ [x] ++ B ++ R).length) (ha : a = P.length) (hb : b = a + 1 + B.length) (hsB : Stab.Sorted (ltf cf) B) (hmax : n ≤ 1000000000) :
  Calls Tryz.prog 200 #[.slice (some ⟨g, 0, none⟩) n c, .int .i64 a, .int .i64 ((a + 1 : Nat) : Int), .int .i64 b, .func (.func f) #[] cb] w (Merged E (ltf cf) w base g n c P [x] B R) := by
 have hL := openR E h
 have HN := kD (show n = P.length + 1 + B.length + R.length ∧ a = P.length ∧ b = a + 1 + B.length from ⟨by rw [hn]; simp; omega, ha, hb⟩)
 have HS := kD hsB
 have ha9 : a + 1 ≤ 1000000000 := by have := HN.out; omega
 have hb9 : b ≤ 1000000000 := by have := HN.out; omega
 have HC := hide hcmp
 have tA : ((a : Int) + 1 - (a : Int) == 1) = true := by simp; omega
 clear h hn ha hb hcmp hsB
 go_enter Tryz.func200, Tryz.ntmps200
 go_wp2
 go_loopw [10, 11, 12] (fun iv jv hv wr => ∃ (B1 B2 B3 : List α) (i j : Nat), iv = .int .i64 i ∧ jv = .int .i64 j ∧ Hid (B = B1 ++ B2 ++ B3 ∧ i = a + 1 + B1.length ∧ j = i + B2.length ∧ (∀ y ∈ B1, ltf cf y x = true) ∧ ∀ y ∈ B3, ltf cf y x = false) ∧ Loc w (· = g) wr [it E base g n c (P ++ [x] ++ B ++ R)]) (fun iv jv _ _ => (intOf jv).toNat - (intOf iv).toNat)
 case atStart => exact ⟨[], B, [], a + 1, b, by go_num, rfl, kD ⟨by simp, by simp, by have := HN.out; omega, by simp, by simp⟩, hL⟩
 case round =>
  clear hL
  obtain ⟨B1, B2, B3, i, j, rfl, rfl, HI, hL⟩ := hrel
  by_cases hlt : i < j
  ·have t0 : decide ((i : Int) < (j : Int)) = true := by simp; omega
   have hj9 : j ≤ n := by have h1 := HI.out; have h2 := HN.out; have h3 := congrArg List.length h1.1; simp at h3; omega
   obtain ⟨hm, hhm, hb1, hb2⟩ : ∃ hm : Nat, ((i : Int) + (j : Int)) / 2 = (hm : Int) ∧ i ≤ hm ∧ hm < j := ⟨(i + j) / 2, by omega, by omega, by omega⟩
   obtain ⟨B2a, y, B2b, H2⟩ : ∃ B2a y B2b, Hid (B2 = B2a ++ y :: B2b ∧ B2a.length = hm - i) := by
    obtain ⟨y, hy⟩ : ∃ y, B2[hm - i]? = some y := ⟨_, List.getElem?_eq_getElem (by have := HI.out; omega)⟩
    exact ⟨B2.take (hm - i), y, B2.drop (hm - i + 1), kD ⟨by rw [← Stab.drop_cons' hy, List.take_append_drop], by rw [List.length_take]; have := HI.out; omega⟩⟩
   have HX : Hid (B = B1 ++ B2a ++ y :: (B2b ++ B3)) := kD (by rw [HI.out.1, H2.out.1]; simp)
   have hy2 : (P ++ [x] ++ B ++ R)[a]? = some x := by have := HN.out; rw [List.append_assoc, List.append_assoc, this.2.1, List.getElem?_append_right (Nat.le_refl _), Nat.sub_self]; rfl
   have hy1 : (P ++ [x] ++ B ++ R)[hm]? = some y := by
    have h1 := HN.out; have h2 := HI.out; have h3 := H2.out
    rw [HX.out, show P ++ [x] ++ (B1 ++ B2a ++ y :: (B2b ++ B3)) ++ R = (P ++ [x] ++ B1 ++ B2a) ++ y :: (B2b ++ B3 ++ R) from by simp]
    have hl : hm = (P ++ [x] ++ B1 ++ B2a).length := by simp; omega
    rw [hl]
    exact (Stab.exch_at (P ++ [x] ++ B1 ++ B2a) [] (B2b ++ B3 ++ R) y y).1 |> fun _ => by simp
   have hsrt : (∀ z ∈ B1 ++ B2a, ltf cf y z = false) ∧ (∀ z ∈ B2b ++ B3, ltf cf z y = false) := by
    have h1 := HS.out
    rw [HX.out] at h1
    have h2 := List.pairwise_append.1 h1
    exact ⟨fun z hz => h2.2.2 z hz y (.head _), fun z hz => (List.pairwise_cons.1 h2.2.1).1 z hz⟩
   have han : a < n := by have := HN.out; omega
   have hmn : hm < n := by omega
   have hcq := fun w (hb : Below _ _ w) => unhide HC y x w (hL.mod.trans (Mod.of_below (M := NoM) hb) fun _ _ e => e.elim)
   have HXS := kD (Eq.refl (P ++ [x] ++ B ++ R))
   generalize P ++ [x] ++ B ++ R = xs at *
   by_cases hc : cf y x < 0
   ·have t2 : decide (cf y x < 0) = true := by simpa using hc
    go_wp2_with fail
    (try simp only [Act.put, zs, zt, zu])
    refine wp_region_ext (by kernel_rfl) (by kernel_rfl) ?_
    repeat (first
        | (go_big_quiet_want; (first | refine qK E rfl (by rfl) (by rfl) (by omega) ?_ | refine qJ (E := E) hL (.head _) rfl (by rfl) hy1 ?_ | refine qJ (E := E) hL (.head _) rfl (by rfl) hy2 ?_); go_big_quiet_on; simp only [Act.put, zs, zt, zu])
        | go_big_quiet_step (first | (go_at_fn f; exact calls_ext (hcq _ (Ext.ok _)))))
    refine wpQuiet_nil ?_
    rintro _ ⟨⟨wC, hbC⟩, rfl⟩
    have hL := hL.call hbC
    clear hbC hcq
    go_wp2
    refine ⟨?_, ?measure⟩
    iterate 26 (apply Exists.intro)
    refine ⟨?rel, rfl⟩
    case rel =>
     refine ⟨B1 ++ B2a ++ [y], B2b, B3, hm + 1, j, by go_num, rfl, kD ⟨by rw [HX.out]; simp, ?_, ?_, fun z hz => ?_, HI.out.2.2.2.2⟩, hL⟩
     ·have h2 := HI.out; have h3 := H2.out; simp; omega
     ·have h2 := HI.out; have h3 := H2.out; have h4 := congrArg List.length h3.1; simp at h4; omega
     ·rcases List.mem_append.1 hz with hz | hz
      ·exact ho.le_lt (hsrt.1 z hz) t2
      ·rw [List.mem_singleton.1 hz]; exact t2
    case measure => simp [intOf]; omega
   ·have t2 : decide (cf y x < 0) = false := by simpa using hc
    go_wp2_with fail
    (try simp only [Act.put, zs, zt, zu])
    refine wp_region_ext (by kernel_rfl) (by kernel_rfl) ?_
    repeat (first
        | (go_big_quiet_want; (first | refine qK E rfl (by rfl) (by rfl) (by omega) ?_ | refine qJ (E := E) hL (.head _) rfl (by rfl) hy1 ?_ | refine qJ (E := E) hL (.head _) rfl (by rfl) hy2 ?_); go_big_quiet_on; simp only [Act.put, zs, zt, zu])
        | go_big_quiet_step (first | (go_at_fn f; exact calls_ext (hcq _ (Ext.ok _)))))
    refine wpQuiet_nil ?_
    rintro _ ⟨⟨wC, hbC⟩, rfl⟩
    have hL := hL.call hbC
    clear hbC hcq
    go_wp2
    refine ⟨?_, ?measure⟩
    iterate 26 (apply Exists.intro)
    refine ⟨?rel, rfl⟩
    case rel =>
     refine ⟨B1, B2a, y :: (B2b ++ B3), i, hm, rfl, rfl, kD ⟨by first | (rw [HX.out]; done) | (rw [HX.out]; simp), HI.out.2.1, ?_, HI.out.2.2.2.1, fun z hz => ?_⟩, hL⟩
     ·have h3 := H2.out; omega
     ·rcases List.mem_cons.1 hz with rfl | hz
      ·exact t2
      ·exact ho.le_trans t2 (hsrt.2 z hz)
    case measure => simp [intOf]; omega
  ·have hij : j = i := by have := HI.out; omega
   subst hij
   have t0 : decide ((j : Int) < (j : Int)) = false := by simp
   have HB : Hid (B = B1 ++ B3 ∧ j = a + 1 + B1.length ∧ Stab.Of (ltf cf) ([x] ++ B) (B1 ++ x :: B3)) := kD (by
    have h1 := HI.out
    have h2 : B2 = [] := List.eq_nil_of_length_eq_zero (by omega)
    have h3 : B = B1 ++ B3 := by rw [h1.1, h2]; simp
    refine ⟨h3, h1.2.1, ?_⟩
    have h4 := HS.out
    rw [h3] at h4 ⊢
    exact Stab.one_left ho h4 h1.2.2.2.1 h1.2.2.2.2)
   have hj1 : 1 ≤ j := by have := HB.out; omega
   have hj9 : j ≤ n := by have h1 := HB.out; have h2 := HN.out; have h3 := congrArg List.length h1.1; simp at h3; omega
   rw [show P ++ [x] ++ B ++ R = P ++ ([] ++ x :: B1 ++ B3) ++ R from by rw [HB.out.1]; simp] at hL
   clear HI
   go_wp2
   go_loopw [13] (fun kv wr => ∃ (C1 C2 : List α) (k : Nat), kv = .int .i64 k ∧ Hid (B1 = C1 ++ C2 ∧ k = a + C1.length) ∧ Loc w (· = g) wr [it E base g n c (P ++ (C1 ++ x :: C2 ++ B3) ++ R)]) (fun kv _ => j - (intOf kv).toNat)
   case atStart => exact ⟨[], B1, a, rfl, kD ⟨rfl, by simp⟩, hL⟩
   case round =>
    clear hL
    obtain ⟨C1, C2, k, rfl, HI, hL⟩ := hrel
    by_cases hk : k + 1 < j
    ·have t1 : decide ((k : Int) < (j : Int) - 1) = true := by simp; omega
     obtain ⟨y, C2', H2⟩ : ∃ y C2', Hid (C2 = y :: C2') := by
      cases h : C2 with
      | nil => have h1 := HI.out; have h2 := HB.out; rw [h, List.append_nil] at h1; rw [h1.1] at h2; omega
      | cons y C2' => exact ⟨y, C2', kD rfl⟩
     rw [H2.out] at hL HI
     obtain ⟨q1, q2, q3⟩ := Stab.exch_at (P ++ C1) [] (C2' ++ B3 ++ R) x y
     have hpl : (P ++ C1).length = k := by have h1 := HI.out; have h2 := HN.out; simp; omega
     simp only [List.nil_append, List.length_nil, Nat.add_zero, hpl] at q1 q2 q3
     have e0 : P ++ (C1 ++ x :: y :: C2' ++ B3) ++ R = P ++ C1 ++ x :: y :: (C2' ++ B3 ++ R) := by simp
     rw [e0] at hL
     have HE9 := kD (show P ++ C1 ++ y :: x :: (C2' ++ B3 ++ R) = P ++ (C1 ++ [y] ++ x :: C2' ++ B3) ++ R from by simp)
     clear hpl e0
     generalize P ++ C1 ++ x :: y :: (C2' ++ B3 ++ R) = xs at *
     go_wp2_with fail
     refine region_any (by kernel_rfl) hL ?_
     clear hL
     intro wR hL _ _
     refine tQ (i := 0) (y := y_move (.slice (some ⟨g, 0, none⟩) n c) rfl rfl (by rfl)) (z := ?_)
     refine tQ (i := 1) (y := y_move (.int .i64 ((k : Nat) : Int)) rfl rfl (by rfl)) (z := ?_)
     refine tQ (i := 2) (y := y_move (.slice (some ⟨g, 0, none⟩) n c) rfl rfl (by rfl)) (z := ?_)
     refine tQ (i := 3) (y := y_move (.int .i64 ((k : Nat) : Int)) rfl rfl (by rfl)) (z := ?_)
     refine tQ (i := 4) (y := y_add (k) (1) rfl rfl (by rfl) (by rfl) (by omega)) (z := ?_)
     refine tQ (i := 5) (y := y_move (.slice (some ⟨g, 0, none⟩) n c) rfl rfl (by rfl)) (z := ?_)
     (try simp only [Act.put, zs, zt, zu])
     refine tQ (i := 6) (y := y_move (.int .i64 ((k : Nat) : Int)) rfl rfl (by rfl)) (z := ?_)
     refine tQ (i := 7) (y := y_add (k) (1) rfl rfl (by rfl) (by rfl) (by omega)) (z := ?_)
     refine tQ (i := 8) (y := y_index E (k + 1) rfl rfl (by rfl) (by rfl) (by omega)) (z := ?_)
     refine tQ (i := 10) (y := y_move (.slice (some ⟨g, 0, none⟩) n c) rfl rfl (by rfl)) (z := ?_)
     refine tQ (i := 11) (y := y_move (.int .i64 ((k : Nat) : Int)) rfl rfl (by rfl)) (z := ?_)
     refine tQ (i := 12) (y := y_index E (k) rfl rfl (by rfl) (by rfl) (by omega)) (z := ?_)
     (try simp only [Act.put, zs, zt, zu])
     (try simp only [Act.put, zs, zt, zu])
     refine wpAny_loads (E := E) (ix := k) (jx := k + 1) (i := 9) (j := 13) nx nx rfl rfl (by kernel_rfl) (by kernel_rfl) (by kernel_rfl) (by decide) rfl rfl rfl rfl (by decide) hL (.head _) (by rfl) (by rfl) q2 q1 ?_
     (try simp only [Act.put, zs, zt, zu])
     refine wpAny_drop 14 (by rfl) (by kernel_rfl) ?_
     simp only [List.drop_succ_cons, List.drop_zero]
     (try simp only [Act.put, zs, zt, zu])
     refine event rfl (run_indexRow (E := E) (i := k) rfl (by rfl) (by rfl) (by omega) _) ?_
     (try simp only [Act.put, zs, zt, zu])
     refine ev_setRow (E := E) (k) y rfl hL rfl (by rfl) rfl (by rfl) ⟨rfl, E.one _⟩ (List.getElem?_eq_some_iff.1 q1).1 (.here _) ?_
     clear hL
     intro wS hL
     (try simp only [Act.put, zs, zt, zu])
     refine event rfl (run_indexRow (E := E) (i := k + 1) rfl (by rfl) (by rfl) (by omega) _) ?_
     (try simp only [Act.put, zs, zt, zu])
     refine ev_setRow (E := E) (k + 1) x rfl hL rfl (by rfl) rfl (by rfl) ⟨rfl, E.one _⟩ (by rw [List.length_set]; exact (List.getElem?_eq_some_iff.1 q2).1) (.here _) ?_
     clear hL
     intro wS hL
     (try simp only [Act.put, zs, zt, zu])
     rw [q3, HE9.out] at hL
     go_wp2
     go_roundw
     case rel => exact ⟨C1 ++ [y], C2', k + 1, by go_num, kD ⟨by rw [HI.out.1]; simp, by have := HI.out; simp; omega⟩, hL⟩
     case measure => simp [intOf]; omega
    ·have t1 : decide ((k : Int) < (j : Int) - 1) = false := by simp; omega
     have HF : Hid (C1 = B1 ∧ C2 = []) := kD (by
      have h1 := HI.out; have h2 := HB.out
      have h3 := congrArg List.length h1.1
      simp only [List.length_append] at h3
      have h4 : C2 = [] := List.eq_nil_of_length_eq_zero (by omega)
      exact ⟨by rw [h1.1, h4, List.append_nil], h4⟩)
     rw [HF.out.1, HF.out.2] at hL
     go_wp2
     go_end0
     refine ⟨rfl, _, HB.out.2.2, ?_⟩
     have e : P ++ (B1 ++ [x] ++ B3) ++ R = P ++ (B1 ++ x :: B3) ++ R := by simp
     rw [← e]
     exact hL
end Go.Proofs.YtebpacmhdkgfeaaGreat.SortK

namespace Go.Proofs.YtebpacmhdkgfeaaGreat.SortK
open Go.RowKit
variable {α : Type} (E : Enc α) [hsz : SizeT Tryz.prog 46 E.sz]
set_option maxRecDepth 100000 in
set_option maxHeartbeats 8000000 in
theorem sym_right (f : Nat) (cb : Array Value) (cf : α → α → Int) (eg : ∀ args w, (callFunc f args).run Tryz.prog w = .ok (.enter f args) w) (ho : Stab.Ord (ltf cf)) (w : World) (base g n c a m : Nat) (y : α) (P A R : List α) (hcmp : CmpOk E f cb cf w g) (h : Own E w base g n c (P ++ A ++ [y] ++ R)) (hn : n = (P ++ A ++ [y] ++ R).length) (ha : a = P.length) (hm : m = a + A.length) (hA1 : A.length ≠ 1) (hsA : Stab.Sorted (ltf cf) A) (hmax : n ≤ 1000000000) :
  Calls Tryz.prog 200 #[.slice (some ⟨g, 0, none⟩) n c, .int .i64 a, .int .i64 m, .int .i64 ((m + 1 : Nat) : Int), .func (.func f) #[] cb] w (Merged E (ltf cf) w base g n c P A [y] R) := by
 have hL := openR E h
 have HN := kD (show n = P.length + A.length + 1 + R.length ∧ a = P.length ∧ m = a + A.length from ⟨by rw [hn]; simp; omega, ha, hm⟩)
 have HS := kD hsA
 have ha9 : a ≤ m := by have := HN.out; omega
 have hm9 : m + 1 ≤ n := by have := HN.out; omega
 have HC := hide hcmp
 have tA : ((m : Int) - (a : Int) == 1) = false := by rw [beq_eq_false_iff_ne]; omega
 have tB : ((m : Int) + 1 - (m : Int) == 1) = true := by simp; omega
 clear h hn ha hm hcmp hsA hA1
 go_enter Tryz.func200, Tryz.ntmps200
 go_wp2
 go_loopw [14, 15, 16] (fun iv jv hv wr => ∃ (A1 A2 A3 : List α) (i j : Nat), iv = .int .i64 i ∧ jv = .int .i64 j ∧ Hid (A = A1 ++ A2 ++ A3 ∧ i = a + A1.length ∧ j = i + A2.length ∧ (∀ z ∈ A1, ltf cf y z = false) ∧ ∀ z ∈ A3, ltf cf y z = true) ∧ Loc w (· = g) wr [it E base g n c (P ++ A ++ [y] ++ R)]) (fun iv jv _ _ => (intOf jv).toNat - (intOf iv).toNat)
 case atStart => exact ⟨[], A, [], a, m, rfl, rfl, kD ⟨by simp, by simp, by have := HN.out; omega, by simp, by simp⟩, hL⟩
 case round =>
  clear hL
  obtain ⟨A1, A2, A3, i, j, rfl, rfl, HI, hL⟩ := hrel
  have hjm : j ≤ m := by have h1 := HI.out; have h2 := HN.out; have h3 := congrArg List.length h1.1; simp at h3; omega
  by_cases hlt : i < j
  ·have t0 : decide ((i : Int) < (j : Int)) = true := by simp; omega
   obtain ⟨hm, hhm, hb1, hb2⟩ : ∃ hm : Nat, ((i : Int) + (j : Int)) / 2 = (hm : Int) ∧ i ≤ hm ∧ hm < j := ⟨(i + j) / 2, by omega, by omega, by omega⟩
   obtain ⟨A2a, z, A2b, H2⟩ : ∃ A2a z A2b, Hid (A2 = A2a ++ z :: A2b ∧ A2a.length = hm - i) := by
    obtain ⟨z, hz⟩ : ∃ z, A2[hm - i]? = some z := ⟨_, List.getElem?_eq_getElem (by have := HI.out; omega)⟩
    exact ⟨A2.take (hm - i), z, A2.drop (hm - i + 1), kD ⟨by rw [← Stab.drop_cons' hz, List.take_append_drop], by rw [List.length_take]; have := HI.out; omega⟩⟩
   have HX : Hid (A = A1 ++ A2a ++ z :: (A2b ++ A3)) := kD (by rw [HI.out.1, H2.out.1]; simp)
   have hy1 : (P ++ A ++ [y] ++ R)[m]? = some y := by
    have h1 := HN.out
    have hl : m = (P ++ A).length := by simp; omega
    rw [List.append_assoc, hl, List.getElem?_append_right (Nat.le_refl _), Nat.sub_self]; rfl
   have hy2 : (P ++ A ++ [y] ++ R)[hm]? = some z := by
    have h1 := HN.out; have h2 := HI.out; have h3 := H2.out
    rw [HX.out, show P ++ (A1 ++ A2a ++ z :: (A2b ++ A3)) ++ [y] ++ R = (P ++ A1 ++ A2a) ++ z :: (A2b ++ A3 ++ [y] ++ R) from by simp]
    have hl : hm = (P ++ A1 ++ A2a).length := by simp; omega
    rw [hl]; simp
   have hsrt : (∀ u ∈ A1 ++ A2a, ltf cf z u = false) ∧ (∀ u ∈ A2b ++ A3, ltf cf u z = false) := by
    have h1 := HS.out
    rw [HX.out] at h1
    have h2 := List.pairwise_append.1 h1
    exact ⟨fun u hu => h2.2.2 u hu z (.head _), fun u hu => (List.pairwise_cons.1 h2.2.1).1 u hu⟩
   have hmn : hm < n := by omega
   have hcq := fun w (hb : Below _ _ w) => unhide HC y z w (hL.mod.trans (Mod.of_below (M := NoM) hb) fun _ _ e => e.elim)
   generalize P ++ A ++ [y] ++ R = xs at *
   by_cases hc : cf y z < 0
   ·have t2 : decide (cf y z < 0) = true := by simpa using hc
    go_wp2_with fail
    (try simp only [Act.put, zs, zt, zu])
    refine wp_region_ext (by kernel_rfl) (by kernel_rfl) ?_
    repeat (first
        | (go_big_quiet_want; (first | refine qK E rfl (by rfl) (by rfl) (by omega) ?_ | refine qJ (E := E) hL (.head _) rfl (by rfl) hy1 ?_ | refine qJ (E := E) hL (.head _) rfl (by rfl) hy2 ?_); go_big_quiet_on; simp only [Act.put, zs, zt, zu])
        | go_big_quiet_step (first | (go_at_fn f; exact calls_ext (hcq _ (Ext.ok _)))))
    refine wpQuiet_nil ?_
    rintro _ ⟨⟨wC, hbC⟩, rfl⟩
    have hL := hL.call hbC
    clear hbC hcq
    go_wp2
    go_roundw
    case rel =>
     refine ⟨A1, A2a, z :: (A2b ++ A3), i, hm, rfl, rfl, kD ⟨by first | (rw [HX.out]; done) | (rw [HX.out]; simp), HI.out.2.1, ?_, HI.out.2.2.2.1, fun u hu => ?_⟩, hL⟩
     ·have h3 := H2.out; omega
     ·rcases List.mem_cons.1 hu with rfl | hu
      ·exact t2
      ·exact ho.lt_le t2 (hsrt.2 u hu)
    case measure => simp [intOf]; omega
   ·have t2 : decide (cf y z < 0) = false := by simpa using hc
    go_wp2_with fail
    (try simp only [Act.put, zs, zt, zu])
    refine wp_region_ext (by kernel_rfl) (by kernel_rfl) ?_
    repeat (first
        | (go_big_quiet_want; (first | refine qK E rfl (by rfl) (by rfl) (by omega) ?_ | refine qJ (E := E) hL (.head _) rfl (by rfl) hy1 ?_ | refine qJ (E := E) hL (.head _) rfl (by rfl) hy2 ?_); go_big_quiet_on; simp only [Act.put, zs, zt, zu])
        | go_big_quiet_step (first | (go_at_fn f; exact calls_ext (hcq _ (Ext.ok _)))))
    refine wpQuiet_nil ?_
    rintro _ ⟨⟨wC, hbC⟩, rfl⟩
    have hL := hL.call hbC
    clear hbC hcq
    go_wp2
    refine ⟨?_, ?measure⟩
    iterate 27 (apply Exists.intro)
    refine ⟨?rel, rfl⟩
    case rel =>
     refine ⟨A1 ++ A2a ++ [z], A2b, A3, hm + 1, j, by go_num, rfl, kD ⟨by rw [HX.out]; simp, ?_, ?_, fun u hu => ?_, HI.out.2.2.2.2⟩, hL⟩
     ·have h2 := HI.out; have h3 := H2.out; simp; omega
     ·have h2 := HI.out; have h3 := H2.out; have h4 := congrArg List.length h3.1; simp at h4; omega
     ·rcases List.mem_append.1 hu with hu | hu
      ·exact ho.le_trans (hsrt.1 u hu) t2
      ·rw [List.mem_singleton.1 hu]; exact t2
    case measure => simp [intOf]; omega
  ·have hij : j = i := by have := HI.out; omega
   subst hij
   have t0 : decide ((j : Int) < (j : Int)) = false := by simp
   have HB : Hid (A = A1 ++ A3 ∧ j = a + A1.length ∧ Stab.Of (ltf cf) (A ++ [y]) (A1 ++ y :: A3)) := kD (by
    have h1 := HI.out
    have h2 : A2 = [] := List.eq_nil_of_length_eq_zero (by omega)
    have h3 : A = A1 ++ A3 := by rw [h1.1, h2]; simp
    refine ⟨h3, h1.2.1, ?_⟩
    have h4 := HS.out
    rw [h3] at h4 ⊢
    exact Stab.one_right ho h4 h1.2.2.2.1 h1.2.2.2.2)
   rw [show P ++ A ++ [y] ++ R = P ++ (A1 ++ A3 ++ y :: []) ++ R from by rw [HB.out.1]; simp] at hL
   have HM0 : Hid (m = j + A3.length) := kD (by have h1 := HB.out; have h2 := HN.out; have h3 := congrArg List.length h1.1; simp at h3; omega)
   clear HI
   go_wp2
   go_loopw [17] (fun kv wr => ∃ (C1 C2 : List α) (k : Nat), kv = .int .i64 k ∧ Hid (A3 = C1 ++ C2 ∧ k = j + C1.length) ∧ Loc w (· = g) wr [it E base g n c (P ++ (A1 ++ C1 ++ y :: C2) ++ R)]) (fun kv _ => (intOf kv).toNat)
   case atStart => exact ⟨A3, [], m, rfl, kD ⟨by simp, HM0.out⟩, hL⟩
   case round =>
    clear hL
    obtain ⟨C1, C2, k, rfl, HI, hL⟩ := hrel
    rcases Stab.nil_or_snoc C1 with rfl | ⟨C1', z, rfl⟩
    ·have hkj : k = j := by have := HI.out; simp at this; omega
     subst hkj
     have t1 : decide ((k : Int) < (k : Int)) = false := by simp
     have HF : Hid (C2 = A3) := kD (by have := HI.out; simpa using this.1.symm)
     rw [HF.out] at hL
     go_wp2
     go_end0
     refine ⟨rfl, _, HB.out.2.2, ?_⟩
     have e : P ++ (A1 ++ [] ++ y :: A3) ++ R = P ++ (A1 ++ y :: A3) ++ R := by simp
     rw [← e]
     exact hL
    ·obtain ⟨jp, rfl⟩ : ∃ jp, k = jp + 1 := ⟨k - 1, by have := HI.out; simp at this; omega⟩
     have hjp : j ≤ jp ∧ jp + 1 < n := by
      have h1 := HI.out; have h5 := HM0.out; have h3 := congrArg List.length h1.1
      simp at h1 h3; omega
     obtain ⟨hj1, hj2⟩ := hjp
     have t1 : decide ((j : Int) < (jp : Int) + 1) = true := by simp; omega
     obtain ⟨q1, q2, -⟩ := Stab.exch_at (P ++ A1 ++ C1') [] (C2 ++ R) z y
     have q3 := Stab.exch_at' (P ++ A1 ++ C1') [] (C2 ++ R) z y
     have hpl : (P ++ A1 ++ C1').length = jp := by have h1 := HI.out; have h2 := HN.out; have h3 := HB.out; simp at h1 ⊢; omega
     simp only [List.nil_append, List.length_nil, Nat.add_zero, hpl] at q1 q2 q3
     have e0 : P ++ (A1 ++ (C1' ++ [z]) ++ y :: C2) ++ R = P ++ A1 ++ C1' ++ z :: y :: (C2 ++ R) := by simp
     rw [e0] at hL
     have HE9 := kD (show P ++ A1 ++ C1' ++ y :: z :: (C2 ++ R) = P ++ (A1 ++ C1' ++ y :: (z :: C2)) ++ R from by simp)
     clear hpl e0
     generalize P ++ A1 ++ C1' ++ z :: y :: (C2 ++ R) = xs at *
     go_wp2_with fail
     refine region_any (by kernel_rfl) hL ?_
     clear hL
     intro wR hL _ _
     refine tQ (i := 0) (y := y_move (.slice (some ⟨g, 0, none⟩) n c) rfl rfl (by rfl)) (z := ?_)
     refine tQ (i := 1) (y := y_move (.int .i64 ((jp + 1 : Nat) : Int)) rfl rfl (by rfl)) (z := ?_)
     refine tQ (i := 2) (y := y_move (.slice (some ⟨g, 0, none⟩) n c) rfl rfl (by rfl)) (z := ?_)
     refine tQ (i := 3) (y := y_move (.int .i64 ((jp + 1 : Nat) : Int)) rfl rfl (by rfl)) (z := ?_)
     refine tQ (i := 4) (y := y_sub (jp + 1) (1) rfl rfl (by rfl) (by rfl) (by omega) (by omega)) (z := ?_)
     refine tQ (i := 5) (y := y_move (.slice (some ⟨g, 0, none⟩) n c) rfl rfl (by rfl)) (z := ?_)
     (try simp only [Act.put, zs, zt, zu])
     refine tQ (i := 6) (y := y_move (.int .i64 ((jp + 1 : Nat) : Int)) rfl rfl (by rfl)) (z := ?_)
     refine tQ (i := 7) (y := y_sub (jp + 1) (1) rfl rfl (by rfl) (by rfl) (by omega) (by omega)) (z := ?_)
     refine tQ (i := 8) (y := y_index E (jp) rfl rfl (by rfl) (by rfl) (by omega)) (z := ?_)
     refine tQ (i := 10) (y := y_move (.slice (some ⟨g, 0, none⟩) n c) rfl rfl (by rfl)) (z := ?_)
     refine tQ (i := 11) (y := y_move (.int .i64 ((jp + 1 : Nat) : Int)) rfl rfl (by rfl)) (z := ?_)
     refine tQ (i := 12) (y := y_index E (jp + 1) rfl rfl (by rfl) (by rfl) (by omega)) (z := ?_)
     (try simp only [Act.put, zs, zt, zu])
     (try simp only [Act.put, zs, zt, zu])
     refine wpAny_loads (E := E) (ix := jp + 1) (jx := jp) (i := 9) (j := 13) nx nx rfl rfl (by kernel_rfl) (by kernel_rfl) (by kernel_rfl) (by decide) rfl rfl rfl rfl (by decide) hL (.head _) (by rfl) (by rfl) q1 q2 ?_
     (try simp only [Act.put, zs, zt, zu])
     refine wpAny_drop 14 (by rfl) (by kernel_rfl) ?_
     simp only [List.drop_succ_cons, List.drop_zero]
     (try simp only [Act.put, zs, zt, zu])
     refine event rfl (run_indexRow (E := E) (i := jp + 1) rfl (by rfl) (by rfl) (by omega) _) ?_
     (try simp only [Act.put, zs, zt, zu])
     refine ev_setRow (E := E) (jp + 1) z rfl hL rfl (by rfl) rfl (by rfl) ⟨rfl, E.one _⟩ (List.getElem?_eq_some_iff.1 q2).1 (.here _) ?_
     clear hL
     intro wS hL
     (try simp only [Act.put, zs, zt, zu])
     refine event rfl (run_indexRow (E := E) (i := jp) rfl (by rfl) (by rfl) (by omega) _) ?_
     (try simp only [Act.put, zs, zt, zu])
     refine ev_setRow (E := E) (jp) y rfl hL rfl (by rfl) rfl (by rfl) ⟨rfl, E.one _⟩ (by rw [List.length_set]; exact (List.getElem?_eq_some_iff.1 q1).1) (.here _) ?_
     clear hL
     intro wS hL
     (try simp only [Act.put, zs, zt, zu])
     rw [q3, HE9.out] at hL
     go_wp2
     go_roundw
     case rel => exact ⟨C1', z :: C2, jp, rfl, kD ⟨by rw [HI.out.1]; simp, by have := HI.out; simp at this; omega⟩, hL⟩
     case measure => simp [intOf]
end Go.Proofs.YtebpacmhdkgfeaaGreat.SortK

namespace Go.Proofs.YtebpacmhdkgfeaaGreat.SortK
open Go.RowKit
variable {α : Type} (E : Enc α) [hsz : SizeT Tryz.prog 46 E.sz]
def SymAt (f : Nat) (cb : Array Value) (cf : α → α → Int) (base g n c N : Nat) : Prop := ∀ (w : World) (a m b : Nat) (P A B R : List α), A.length + B.length ≤ N → A ≠ [] → B ≠ [] → CmpOk E f cb cf w g → Own E w base g n c (P ++ A ++ B ++ R) → n = (P ++ A ++ B ++ R).length → a = P.length → m = a + A.length → b = m + B.length → Stab.Sorted (ltf cf) A → Stab.Sorted (ltf cf) B →
  Calls Tryz.prog 200 #[.slice (some ⟨g, 0, none⟩) n c, .int .i64 a, .int .i64 m, .int .i64 b, .func (.func f) #[] cb] w (Merged E (ltf cf) w base g n c P A B R)
set_option maxRecDepth 100000 in
set_option maxHeartbeats 16000000 in
theorem sym_step (f : Nat) (cb : Array Value) (cf : α → α → Int) (eg : ∀ args w, (callFunc f args).run Tryz.prog w = .ok (.enter f args) w) (ho : Stab.Ord (ltf cf)) (base g n c N : Nat) (hmax : n ≤ 1000000000) (IH : Hid (SymAt E f cb cf base g n c N)) (w : World) (a m b : Nat) (P A B R : List α) (hN : A.length + B.length ≤ N + 1) (hA : 1 < A.length) (hB : 1 < B.length) (hcmp : CmpOk E f cb cf w g) (h : Own E w base g n c (P ++ A ++ B ++ R)) (hn : n = (P ++ A ++ B ++ R).length) (ha : a = P.length) (hm : m = a + A.length) (hb : b = m + B.length) (hsA : Stab.Sorted (ltf cf) A) (hsB : Stab.Sorted (ltf cf) B) :
  Calls Tryz.prog 200 #[.slice (some ⟨g, 0, none⟩) n c, .int .i64 a, .int .i64 m, .int .i64 b, .func (.func f) #[] cb] w (Merged E (ltf cf) w base g n c P A B R) := by
 have hL := openR E h
 have HN := kD (show n = P.length + A.length + B.length + R.length ∧ a = P.length ∧ m = a + A.length ∧ b = m + B.length from ⟨by rw [hn]; simp; omega, ha, hm, hb⟩)
 have HS := kD (And.intro hsA (And.intro hsB (And.intro hA (And.intro hB hN))))
 have HC := hide hcmp
 obtain ⟨mid, hmid, hmb⟩ : ∃ mid : Nat, ((a : Int) + (b : Int)) / 2 = (mid : Int) ∧ mid < b := ⟨(a + b) / 2, by omega, by omega⟩
 obtain ⟨nn, hnn⟩ : ∃ nn : Nat, (mid : Int) + (m : Int) = (nn : Int) := ⟨mid + m, by omega⟩
 obtain ⟨p, hp⟩ : ∃ p : Nat, (nn : Int) - 1 = (p : Int) := ⟨nn - 1, by omega⟩
 have HE0 := kD (show a + 1 ≤ mid ∧ mid + 1 ≤ b ∧ nn = mid + m ∧ nn = p + 1 ∧ 2 * mid ≤ a + b ∧ a + b ≤ 2 * mid + 1 ∧ A.length + B.length ≤ N + 1 ∧ 1 < A.length ∧ 1 < B.length from by omega)
 have hb9 : b ≤ n := by have := HN.out; omega
 have hm9 : m ≤ n := by have := HN.out; omega
 have ha9 : a ≤ n := by have := HN.out; omega
 have hp9 : nn ≤ n + n := by have := HE0.out; omega
 have hp8 : p ≤ nn := by have := HE0.out; omega
 have tA : ((m : Int) - (a : Int) == 1) = false := by rw [beq_eq_false_iff_ne]; omega
 have tB : ((b : Int) - (m : Int) == 1) = false := by rw [beq_eq_false_iff_ne]; omega
 clear h hn ha hm hb hcmp hsA hsB hA hB hN
 go_enter Tryz.func200, Tryz.ntmps200
 by_cases hmm : mid < m
 ·have tM : decide ((mid : Int) < (m : Int)) = true := by simp; omega
  obtain ⟨lo, hlo⟩ : ∃ lo : Nat, (nn : Int) - (b : Int) = (lo : Int) := ⟨nn - b, by have h1 := HN.out; have h2 := HE0.out; omega⟩
  have HK := kD (show a ≤ lo ∧ lo ≤ mid ∧ mid ≤ m ∧ mid ≤ mid ∧ nn ≤ lo + b ∧ (lo = a ∨ nn = lo + b) ∧ mid < m from by have h1 := HN.out; have h2 := HE0.out; omega)
  go_wp2
  go_loopw [20, 21, 23] (fun sv rv cv wr => ∃ i q : Nat, sv = .int .i64 i ∧ rv = .int .i64 q ∧ Hid (lo ≤ i ∧ i ≤ q ∧ q ≤ mid ∧ (lo < i → Stab.At (ltf cf) A B (i - 1 - a) (mid - i) false) ∧ (q < mid → Stab.At (ltf cf) A B (q - a) (mid - 1 - q) true)) ∧ Loc w (· = g) wr [it E base g n c (P ++ A ++ B ++ R)]) (fun sv rv _ _ => (intOf rv).toNat - (intOf sv).toNat)
  case atStart => exact ⟨lo, mid, rfl, rfl, kD ⟨Nat.le_refl _, HK.out.2.1, Nat.le_refl _, fun h => absurd h (Nat.lt_irrefl _), fun h => absurd h (Nat.lt_irrefl _)⟩, hL⟩
  case round =>
   clear hL
   obtain ⟨i, q, rfl, rfl, HI, hL⟩ := hrel
   have hqm : q ≤ m := by have h1 := HI.out; have h2 := HK.out; omega
   by_cases hlt : i < q
   ·have t0 : decide ((i : Int) < (q : Int)) = true := by simp; omega
    obtain ⟨k, hhm, hb1, hb2⟩ : ∃ k : Nat, ((i : Int) + (q : Int)) / 2 = (k : Int) ∧ i ≤ k ∧ k < q := ⟨(i + q) / 2, by omega, by omega, by omega⟩
    obtain ⟨u, hu, hub⟩ : ∃ u : Nat, (p : Int) - (k : Int) = (u : Int) ∧ u < b := ⟨p - k, by have h1 := HI.out; have h2 := HK.out; have h3 := HE0.out; omega, by have h1 := HI.out; have h2 := HK.out; have h3 := HE0.out; omega⟩
    have hkn : k < n := by have h2 := HN.out; omega
    have HKU : Hid (u = m + (mid - 1 - k) ∧ mid - 1 - k < B.length ∧ k < mid ∧ a ≤ k ∧ k - a < A.length) := kD (by have h1 := HI.out; have h2 := HK.out; have h3 := HN.out; have h4 := HE0.out; omega)
    obtain ⟨y, hy⟩ : ∃ y, B[mid - 1 - k]? = some y := ⟨_, List.getElem?_eq_getElem HKU.out.2.1⟩
    obtain ⟨z, hz⟩ : ∃ z, A[k - a]? = some z := ⟨_, List.getElem?_eq_getElem HKU.out.2.2.2.2⟩
    have HZ := kD (And.intro hy hz)
    have hy1 : (P ++ A ++ B ++ R)[u]? = some y := by
     have h3 := HN.out; have h4 := HKU.out
     rw [List.getElem?_append_left (by simp; omega), List.getElem?_append_right (by simp; omega), ← hy]
     congr 1; simp; omega
    have hy2 : (P ++ A ++ B ++ R)[k]? = some z := by
     have h3 := HN.out; have h4 := HKU.out
     rw [List.append_assoc, List.append_assoc, List.getElem?_append_right (by omega), List.getElem?_append_left (by omega), ← hz]
     congr 1; omega
    clear hy hz
    have hcq := fun w (hb : Below _ _ w) => unhide HC y z w (hL.mod.trans (Mod.of_below (M := NoM) hb) fun _ _ e => e.elim)
    generalize P ++ A ++ B ++ R = xs at *
    by_cases hc : cf y z < 0
    ·have t2 : decide (cf y z < 0) = true := by simpa using hc
     have HA : Hid (Stab.At (ltf cf) A B (k - a) (mid - 1 - k) true) := kD (fun x' y' hx hy => by
      have h1 := HZ.out
      rw [h1.2] at hx; rw [h1.1] at hy
      cases hx; cases hy; exact t2)
     go_wp2_with fail
     (try simp only [Act.put, zs, zt, zu])
     refine wp_region_ext (by kernel_rfl) (by kernel_rfl) ?_
     repeat (first
         | (go_big_quiet_want; (first | refine qK E rfl (by rfl) (by rfl) (by omega) ?_ | refine qJ (E := E) hL (.head _) rfl (by rfl) hy1 ?_ | refine qJ (E := E) hL (.head _) rfl (by rfl) hy2 ?_); go_big_quiet_on; simp only [Act.put, zs, zt, zu])
         | go_big_quiet_step (first | (go_at_fn f; exact calls_ext (hcq _ (Ext.ok _)))))
     refine wpQuiet_nil ?_
     rintro _ ⟨⟨wC, hbC⟩, rfl⟩
     have hL := hL.call hbC
     clear hbC hcq
     go_wp2
     first | go_roundw | (refine ⟨?_, ?measure⟩; iterate 18 (apply Exists.intro); refine ⟨?rel, rfl⟩) | (refine ⟨?_, ?measure⟩; iterate 19 (apply Exists.intro); refine ⟨?rel, rfl⟩) | (refine ⟨?_, ?measure⟩; iterate 20 (apply Exists.intro); refine ⟨?rel, rfl⟩) | (refine ⟨?_, ?measure⟩; iterate 21 (apply Exists.intro); refine ⟨?rel, rfl⟩) | (refine ⟨?_, ?measure⟩; iterate 22 (apply Exists.intro); refine ⟨?rel, rfl⟩) | (refine ⟨?_, ?measure⟩; iterate 23 (apply Exists.intro); refine ⟨?rel, rfl⟩) | (refine ⟨?_, ?measure⟩; iterate 24 (apply Exists.intro); refine ⟨?rel, rfl⟩) | (refine ⟨?_, ?measure⟩; iterate 25 (apply Exists.intro); refine ⟨?rel, rfl⟩) | (refine ⟨?_, ?measure⟩; iterate 26 (apply Exists.intro); refine ⟨?rel, rfl⟩) | (refine ⟨?_, ?measure⟩; iterate 27 (apply Exists.intro); refine ⟨?rel, rfl⟩) | (refine ⟨?_, ?measure⟩; iterate 28 (apply Exists.intro); refine ⟨?rel, rfl⟩) | (refine ⟨?_, ?measure⟩; iterate 29 (apply Exists.intro); refine ⟨?rel, rfl⟩) | (refine ⟨?_, ?measure⟩; iterate 30 (apply Exists.intro); refine ⟨?rel, rfl⟩) | (refine ⟨?_, ?measure⟩; iterate 31 (apply Exists.intro); refine ⟨?rel, rfl⟩) | (refine ⟨?_, ?measure⟩; iterate 32 (apply Exists.intro); refine ⟨?rel, rfl⟩) | (refine ⟨?_, ?measure⟩; iterate 33 (apply Exists.intro); refine ⟨?rel, rfl⟩) | (refine ⟨?_, ?measure⟩; iterate 34 (apply Exists.intro); refine ⟨?rel, rfl⟩) | (refine ⟨?_, ?measure⟩; iterate 35 (apply Exists.intro); refine ⟨?rel, rfl⟩) | (refine ⟨?_, ?measure⟩; iterate 36 (apply Exists.intro); refine ⟨?rel, rfl⟩) | (refine ⟨?_, ?measure⟩; iterate 37 (apply Exists.intro); refine ⟨?rel, rfl⟩) | (refine ⟨?_, ?measure⟩; iterate 38 (apply Exists.intro); refine ⟨?rel, rfl⟩) | (refine ⟨?_, ?measure⟩; iterate 39 (apply Exists.intro); refine ⟨?rel, rfl⟩)
     case rel => exact ⟨i, k, rfl, rfl, kD ⟨HI.out.1, by omega, by have := HI.out; omega, HI.out.2.2.2.1, fun _ => HA.out⟩, hL⟩
     case measure => simp [intOf]; omega
    ·have t2 : decide (cf y z < 0) = false := by simpa using hc
     have HA : Hid (Stab.At (ltf cf) A B (k + 1 - 1 - a) (mid - (k + 1)) false) := kD (fun x' y' hx hy => by
      have h1 := HZ.out
      rw [show k + 1 - 1 - a = k - a from by omega, h1.2] at hx; rw [show mid - (k + 1) = mid - 1 - k from by omega, h1.1] at hy
      cases hx; cases hy; exact t2)
     go_wp2_with fail
     (try simp only [Act.put, zs, zt, zu])
     refine wp_region_ext (by kernel_rfl) (by kernel_rfl) ?_
     repeat (first
         | (go_big_quiet_want; (first | refine qK E rfl (by rfl) (by rfl) (by omega) ?_ | refine qJ (E := E) hL (.head _) rfl (by rfl) hy1 ?_ | refine qJ (E := E) hL (.head _) rfl (by rfl) hy2 ?_); go_big_quiet_on; simp only [Act.put, zs, zt, zu])
         | go_big_quiet_step (first | (go_at_fn f; exact calls_ext (hcq _ (Ext.ok _)))))
     refine wpQuiet_nil ?_
     rintro _ ⟨⟨wC, hbC⟩, rfl⟩
     have hL := hL.call hbC
     clear hbC hcq
     go_wp2
     first | go_roundw | (refine ⟨?_, ?measure⟩; iterate 18 (apply Exists.intro); refine ⟨?rel, rfl⟩) | (refine ⟨?_, ?measure⟩; iterate 19 (apply Exists.intro); refine ⟨?rel, rfl⟩) | (refine ⟨?_, ?measure⟩; iterate 20 (apply Exists.intro); refine ⟨?rel, rfl⟩) | (refine ⟨?_, ?measure⟩; iterate 21 (apply Exists.intro); refine ⟨?rel, rfl⟩) | (refine ⟨?_, ?measure⟩; iterate 22 (apply Exists.intro); refine ⟨?rel, rfl⟩) | (refine ⟨?_, ?measure⟩; iterate 23 (apply Exists.intro); refine ⟨?rel, rfl⟩) | (refine ⟨?_, ?measure⟩; iterate 24 (apply Exists.intro); refine ⟨?rel, rfl⟩) | (refine ⟨?_, ?measure⟩; iterate 25 (apply Exists.intro); refine ⟨?rel, rfl⟩) | (refine ⟨?_, ?measure⟩; iterate 26 (apply Exists.intro); refine ⟨?rel, rfl⟩) | (refine ⟨?_, ?measure⟩; iterate 27 (apply Exists.intro); refine ⟨?rel, rfl⟩) | (refine ⟨?_, ?measure⟩; iterate 28 (apply Exists.intro); refine ⟨?rel, rfl⟩) | (refine ⟨?_, ?measure⟩; iterate 29 (apply Exists.intro); refine ⟨?rel, rfl⟩) | (refine ⟨?_, ?measure⟩; iterate 30 (apply Exists.intro); refine ⟨?rel, rfl⟩) | (refine ⟨?_, ?measure⟩; iterate 31 (apply Exists.intro); refine ⟨?rel, rfl⟩) | (refine ⟨?_, ?measure⟩; iterate 32 (apply Exists.intro); refine ⟨?rel, rfl⟩) | (refine ⟨?_, ?measure⟩; iterate 33 (apply Exists.intro); refine ⟨?rel, rfl⟩) | (refine ⟨?_, ?measure⟩; iterate 34 (apply Exists.intro); refine ⟨?rel, rfl⟩) | (refine ⟨?_, ?measure⟩; iterate 35 (apply Exists.intro); refine ⟨?rel, rfl⟩) | (refine ⟨?_, ?measure⟩; iterate 36 (apply Exists.intro); refine ⟨?rel, rfl⟩) | (refine ⟨?_, ?measure⟩; iterate 37 (apply Exists.intro); refine ⟨?rel, rfl⟩) | (refine ⟨?_, ?measure⟩; iterate 38 (apply Exists.intro); refine ⟨?rel, rfl⟩) | (refine ⟨?_, ?measure⟩; iterate 39 (apply Exists.intro); refine ⟨?rel, rfl⟩)
     case rel => exact ⟨k + 1, q, by go_num, rfl, kD ⟨by have := HI.out; omega, by omega, by have := HI.out; omega, fun _ => HA.out, HI.out.2.2.2.2⟩, hL⟩
     case measure => simp [intOf]; omega
   ·have hij : q = i := by have := HI.out; omega
    subst q
    have t0 : decide ((i : Int) < (i : Int)) = false := by simp
    obtain ⟨e, he, hem⟩ : ∃ e : Nat, (nn : Int) - (i : Int) = (e : Int) ∧ e ≤ n := ⟨nn - i, by have h1 := HI.out; have h2 := HK.out; omega, by have h1 := HI.out; have h2 := HK.out; have h3 := HN.out; omega⟩
    obtain ⟨A1, A2, B1, B2, HS4⟩ : ∃ A1 A2 B1 B2, Hid (Stab.SymCut (ltf cf) A B A1 A2 B1 B2 a m b mid e i) := by
     have h1 := HI.out; have h2 := HK.out; have h3 := HN.out; have h4 := HS.out; have h5 := HE0.out
     refine ⟨_, _, _, _, kD (Stab.symCut ho h4.1 h4.2.1 (by omega) (by omega) h3.2.2.1 h3.2.2.2 (by omega) (by omega) (by omega) (fun h => ?_) (fun h => ?_))⟩
     ·by_cases hl : lo < i
      ·exact h1.2.2.2.1 hl
      ·exact fun x y hx hy => absurd (List.getElem?_eq_some_iff.1 hy).1 (by omega)
     ·by_cases hl : i < mid
      ·exact h1.2.2.2.2 hl
      ·exact fun x y hx hy => absurd (List.getElem?_eq_some_iff.1 hx).1 (by omega)
    have hqR : i < m → i < mid → ∀ w, Own E w base g n c (P ++ A1 ++ A2 ++ B1 ++ (B2 ++ R)) → Hid (Calls Tryz.prog 212 #[.slice (some ⟨g, 0, none⟩) n c, .int .i64 i, .int .i64 m, .int .i64 e, .func (.func f) #[] cb] w fun e w' => e = .returned (.tuple #[]) ∧ Loc w (· = g) w' [it E base g n c (P ++ (A1 ++ B1) ++ (A2 ++ B2 ++ R))]) := fun x1 x2 w h => hide (by
     have h1 := HS4.out.num; have h3 := HN.out
     have hl := congrArg List.length HS4.out.eA; have hl2 := congrArg List.length HS4.out.eB
     simp only [List.length_append] at hl hl2
     have q := rotate E w base g n c i m e (.func (.func f) #[] cb) (P ++ A1) A2 B1 (B2 ++ R) h (by simp; omega) (by simp; omega) (by omega) (by omega) (by rintro rfl; simp at h1; omega) (by rintro rfl; simp at h1; omega) hmax
     rw [show P ++ A1 ++ B1 ++ A2 ++ (B2 ++ R) = P ++ (A1 ++ B1) ++ (A2 ++ B2 ++ R) from by simp] at q
     exact q)
    have hq1 : a < i → i < mid → ∀ w', Loc w (· = g) w' [it E base g n c (P ++ (A1 ++ B1) ++ (A2 ++ B2 ++ R))] → Hid (Calls Tryz.prog 200 #[.slice (some ⟨g, 0, none⟩) n c, .int .i64 a, .int .i64 i, .int .i64 mid, .func (.func f) #[] cb] w' (Merged E (ltf cf) w' base g n c P A1 B1 (A2 ++ B2 ++ R))) := fun x1 x2 w' h => hide (by
     have h1 := HS4.out.num; have h3 := HN.out; have h4 := HS4.out.s
     have hl := congrArg List.length HS4.out.eA; have hl2 := congrArg List.length HS4.out.eB
     simp only [List.length_append] at hl hl2
     refine unhide IH w' a i mid P A1 B1 (A2 ++ B2 ++ R) (by have := HE0.out; omega) (by rintro rfl; simp at h1; omega) (by rintro rfl; simp at h1; omega) ((unhide HC).next h.mod) ?_ (by simp; omega) h3.2.1 (by omega) (by omega) h4.1 h4.2.1
     have q := ofR E h
     rw [show P ++ (A1 ++ B1) ++ (A2 ++ B2 ++ R) = P ++ A1 ++ B1 ++ (A2 ++ B2 ++ R) from by simp] at q
     exact q)
    have hq2 : i < m → e < b → ∀ w' L, Hid (Stab.Of (ltf cf) (A1 ++ B1) L) → Loc w (· = g) w' [it E base g n c (P ++ L ++ (A2 ++ B2 ++ R))] → Hid (Calls Tryz.prog 200 #[.slice (some ⟨g, 0, none⟩) n c, .int .i64 mid, .int .i64 e, .int .i64 b, .func (.func f) #[] cb] w' (Merged E (ltf cf) w' base g n c (P ++ L) A2 B2 R)) := fun x1 x2 w' L HO h => hide (by
     have h1 := HS4.out.num; have h3 := HN.out; have h4 := HS4.out.s
     have hl := congrArg List.length HS4.out.eA; have hl2 := congrArg List.length HS4.out.eB
     have hl3 := HO.out.perm.length_eq
     simp only [List.length_append] at hl hl2 hl3
     refine unhide IH w' mid e b (P ++ L) A2 B2 R (by have := HE0.out; omega) (by rintro rfl; simp at h1; omega) (by rintro rfl; simp at h1; omega) ((unhide HC).next h.mod) ?_ (by simp; omega) (by simp; omega) (by omega) (by omega) h4.2.2.1 h4.2.2.2
     have q := ofR E h
     rw [show P ++ L ++ (A2 ++ B2 ++ R) = P ++ L ++ A2 ++ B2 ++ R from by simp] at q
     exact q)
    rw [show P ++ A ++ B ++ R = P ++ A1 ++ A2 ++ B1 ++ (B2 ++ R) from by rw [HS4.out.eA, HS4.out.eB]; simp] at hL
    have hib : i ≤ n ∧ e ≤ n ∧ mid ≤ n := by have h1 := HS4.out.num; have h3 := HN.out; omega
    clear HI hlt
    rcases Nat.lt_or_ge i m with x1 | x1 <;> rcases Nat.lt_or_ge i mid with x2 | x2 <;> rcases Nat.lt_or_ge a i with x3 | x3 <;> rcases Nat.lt_or_ge e b with x4 | x4
    ·have d1 : i < m := by have h1 := HS4.out.num; have h2 := HN.out; omega
     have d2 : m < e := by have h1 := HS4.out.num; have h2 := HN.out; omega
     have d3 : a < i := by have h1 := HS4.out.num; have h2 := HN.out; omega
     have d4 : i < mid := by have h1 := HS4.out.num; have h2 := HN.out; omega
     have d5 : mid < e := by have h1 := HS4.out.num; have h2 := HN.out; omega
     have d6 : e < b := by have h1 := HS4.out.num; have h2 := HN.out; omega
     have hqR := hqR x1 x2
     clear x1 x2 x3 x4
     go_wp2_with (go_at_call 212; (with_reducible refine (unhide (hqR _ (ofR E hL))).mono ?_); rintro _ w2 ⟨rfl, hL2⟩; have hL := hL.overRow hL2; clear hL2 hqR)
     go_wp2_with (go_at_call 200; (with_reducible refine (unhide (hq1 d3 d4 _ hL)).mono ?_); rintro _ w3 ⟨rfl, L, hO1, hL2⟩; have HO1 := kD hO1; have hL := hL.overRow hL2; clear hL2 hO1 hq1)
     go_wp2_with (go_at_call 200; (with_reducible refine (unhide (hq2 d1 d6 _ L HO1 hL)).mono ?_); rintro _ w4 ⟨rfl, L2, hO2, hL2⟩; have HO2 := kD hO2; have hL := hL.overRow hL2; clear hL2 hO2 hq2)
     go_end0
     refine ⟨rfl, L ++ L2, HS4.out.cross _ _ HO1.out HO2.out, ?_⟩
     have hz : P ++ L ++ L2 ++ R = P ++ (L ++ L2) ++ R := by simp
     rw [← hz]; exact hL
    ·have d1 : i < m := by have h1 := HS4.out.num; have h2 := HN.out; omega
     have d2 : m < e := by have h1 := HS4.out.num; have h2 := HN.out; omega
     have d3 : a < i := by have h1 := HS4.out.num; have h2 := HN.out; omega
     have d4 : i < mid := by have h1 := HS4.out.num; have h2 := HN.out; omega
     have d5 : mid < e := by have h1 := HS4.out.num; have h2 := HN.out; omega
     have d6 : ¬ e < b := by have h1 := HS4.out.num; have h2 := HN.out; omega
     have hqR := hqR x1 x2
     have HO2 := kD (HS4.out.o2 (Or.inr (List.eq_nil_of_length_eq_zero (by have h1 := HS4.out.num; have h2 := HN.out; omega))))
     clear x1 x2 x3 x4
     go_wp2_with (go_at_call 212; (with_reducible refine (unhide (hqR _ (ofR E hL))).mono ?_); rintro _ w2 ⟨rfl, hL2⟩; have hL := hL.overRow hL2; clear hL2 hqR)
     go_wp2_with (go_at_call 200; (with_reducible refine (unhide (hq1 d3 d4 _ hL)).mono ?_); rintro _ w3 ⟨rfl, L, hO1, hL2⟩; have HO1 := kD hO1; have hL := hL.overRow hL2; clear hL2 hO1 hq1)
     go_end0
     refine ⟨rfl, L ++ (A2 ++ B2), HS4.out.cross _ _ HO1.out HO2.out, ?_⟩
     have hz : P ++ L ++ (A2 ++ B2 ++ R) = P ++ (L ++ (A2 ++ B2)) ++ R := by simp
     rw [← hz]; exact hL
    ·have d1 : i < m := by have h1 := HS4.out.num; have h2 := HN.out; omega
     have d2 : m < e := by have h1 := HS4.out.num; have h2 := HN.out; omega
     have d3 : ¬ a < i := by have h1 := HS4.out.num; have h2 := HN.out; omega
     have d4 : i < mid := by have h1 := HS4.out.num; have h2 := HN.out; omega
     have d5 : mid < e := by have h1 := HS4.out.num; have h2 := HN.out; omega
     have d6 : e < b := by have h1 := HS4.out.num; have h2 := HN.out; omega
     have hqR := hqR x1 x2
     have HO1 := kD (HS4.out.o1 (Or.inl (List.eq_nil_of_length_eq_zero (by have h1 := HS4.out.num; have h2 := HN.out; omega))))
     clear x1 x2 x3 x4
     go_wp2_with (go_at_call 212; (with_reducible refine (unhide (hqR _ (ofR E hL))).mono ?_); rintro _ w2 ⟨rfl, hL2⟩; have hL := hL.overRow hL2; clear hL2 hqR)
     go_wp2_with (go_at_call 200; (with_reducible refine (unhide (hq2 d1 d6 _ (A1 ++ B1) HO1 hL)).mono ?_); rintro _ w4 ⟨rfl, L2, hO2, hL2⟩; have HO2 := kD hO2; have hL := hL.overRow hL2; clear hL2 hO2 hq2)
     go_end0
     refine ⟨rfl, (A1 ++ B1) ++ L2, HS4.out.cross _ _ HO1.out HO2.out, ?_⟩
     have hz : P ++ (A1 ++ B1) ++ L2 ++ R = P ++ ((A1 ++ B1) ++ L2) ++ R := by simp
     rw [← hz]; exact hL
    ·have d1 : i < m := by have h1 := HS4.out.num; have h2 := HN.out; omega
     have d2 : m < e := by have h1 := HS4.out.num; have h2 := HN.out; omega
     have d3 : ¬ a < i := by have h1 := HS4.out.num; have h2 := HN.out; omega
     have d4 : i < mid := by have h1 := HS4.out.num; have h2 := HN.out; omega
     have d5 : mid < e := by have h1 := HS4.out.num; have h2 := HN.out; omega
     have d6 : ¬ e < b := by have h1 := HS4.out.num; have h2 := HN.out; omega
     have hqR := hqR x1 x2
     have HO1 := kD (HS4.out.o1 (Or.inl (List.eq_nil_of_length_eq_zero (by have h1 := HS4.out.num; have h2 := HN.out; omega))))
     have HO2 := kD (HS4.out.o2 (Or.inr (List.eq_nil_of_length_eq_zero (by have h1 := HS4.out.num; have h2 := HN.out; omega))))
     clear x1 x2 x3 x4
     go_wp2_with (go_at_call 212; (with_reducible refine (unhide (hqR _ (ofR E hL))).mono ?_); rintro _ w2 ⟨rfl, hL2⟩; have hL := hL.overRow hL2; clear hL2 hqR)
     go_end0
     refine ⟨rfl, (A1 ++ B1) ++ (A2 ++ B2), HS4.out.cross _ _ HO1.out HO2.out, ?_⟩
     have hz : P ++ (A1 ++ B1) ++ (A2 ++ B2 ++ R) = P ++ ((A1 ++ B1) ++ (A2 ++ B2)) ++ R := by simp
     rw [← hz]; exact hL
    ·have d1 : i < m := by have h1 := HS4.out.num; have h2 := HN.out; omega
     have d2 : ¬ m < e := by have h1 := HS4.out.num; have h2 := HN.out; omega
     have d3 : a < i := by have h1 := HS4.out.num; have h2 := HN.out; omega
     have d4 : ¬ i < mid := by have h1 := HS4.out.num; have h2 := HN.out; omega
     have d5 : mid < e := by have h1 := HS4.out.num; have h2 := HN.out; omega
     have d6 : e < b := by have h1 := HS4.out.num; have h2 := HN.out; omega
     have hz : B1 = [] := List.eq_nil_of_length_eq_zero (by have h1 := HS4.out.num; have h2 := HN.out; omega)
     rw [show P ++ A1 ++ A2 ++ B1 ++ (B2 ++ R) = P ++ (A1 ++ B1) ++ (A2 ++ B2 ++ R) from by rw [hz]; simp] at hL
     clear hz
     have HO1 := kD (HS4.out.o1 (Or.inr (List.eq_nil_of_length_eq_zero (by have h1 := HS4.out.num; have h2 := HN.out; omega))))
     clear x1 x2 x3 x4
     go_wp2_with (go_at_call 200; (with_reducible refine (unhide (hq2 d1 d6 _ (A1 ++ B1) HO1 hL)).mono ?_); rintro _ w4 ⟨rfl, L2, hO2, hL2⟩; have HO2 := kD hO2; have hL := hL.overRow hL2; clear hL2 hO2 hq2)
     go_end0
     refine ⟨rfl, (A1 ++ B1) ++ L2, HS4.out.cross _ _ HO1.out HO2.out, ?_⟩
     have hz : P ++ (A1 ++ B1) ++ L2 ++ R = P ++ ((A1 ++ B1) ++ L2) ++ R := by simp
     rw [← hz]; exact hL
    ·exfalso; have h1 := HS4.out.num; have h2 := HN.out; have h3 := HE0.out; omega
    ·have d1 : i < m := by have h1 := HS4.out.num; have h2 := HN.out; omega
     have d2 : ¬ m < e := by have h1 := HS4.out.num; have h2 := HN.out; omega
     have d3 : ¬ a < i := by have h1 := HS4.out.num; have h2 := HN.out; omega
     have d4 : ¬ i < mid := by have h1 := HS4.out.num; have h2 := HN.out; omega
     have d5 : mid < e := by have h1 := HS4.out.num; have h2 := HN.out; omega
     have d6 : e < b := by have h1 := HS4.out.num; have h2 := HN.out; omega
     have hz : B1 = [] := List.eq_nil_of_length_eq_zero (by have h1 := HS4.out.num; have h2 := HN.out; omega)
     rw [show P ++ A1 ++ A2 ++ B1 ++ (B2 ++ R) = P ++ (A1 ++ B1) ++ (A2 ++ B2 ++ R) from by rw [hz]; simp] at hL
     clear hz
     have HO1 := kD (HS4.out.o1 (Or.inl (List.eq_nil_of_length_eq_zero (by have h1 := HS4.out.num; have h2 := HN.out; omega))))
     clear x1 x2 x3 x4
     go_wp2_with (go_at_call 200; (with_reducible refine (unhide (hq2 d1 d6 _ (A1 ++ B1) HO1 hL)).mono ?_); rintro _ w4 ⟨rfl, L2, hO2, hL2⟩; have HO2 := kD hO2; have hL := hL.overRow hL2; clear hL2 hO2 hq2)
     go_end0
     refine ⟨rfl, (A1 ++ B1) ++ L2, HS4.out.cross _ _ HO1.out HO2.out, ?_⟩
     have hz : P ++ (A1 ++ B1) ++ L2 ++ R = P ++ ((A1 ++ B1) ++ L2) ++ R := by simp
     rw [← hz]; exact hL
    ·exfalso; have h1 := HS4.out.num; have h2 := HN.out; have h3 := HE0.out; omega
    ·have d1 : ¬ i < m := by have h1 := HS4.out.num; have h2 := HN.out; omega
     have d2 : m < e := by have h1 := HS4.out.num; have h2 := HN.out; omega
     have d3 : a < i := by have h1 := HS4.out.num; have h2 := HN.out; omega
     have d4 : i < mid := by have h1 := HS4.out.num; have h2 := HN.out; omega
     have d5 : ¬ mid < e := by have h1 := HS4.out.num; have h2 := HN.out; omega
     have d6 : e < b := by have h1 := HS4.out.num; have h2 := HN.out; omega
     have hz : A2 = [] := List.eq_nil_of_length_eq_zero (by have h1 := HS4.out.num; have h2 := HN.out; omega)
     rw [show P ++ A1 ++ A2 ++ B1 ++ (B2 ++ R) = P ++ (A1 ++ B1) ++ (A2 ++ B2 ++ R) from by rw [hz]; simp] at hL
     clear hz
     have HO2 := kD (HS4.out.o2 (Or.inl (List.eq_nil_of_length_eq_zero (by have h1 := HS4.out.num; have h2 := HN.out; omega))))
     clear x1 x2 x3 x4
     go_wp2_with (go_at_call 200; (with_reducible refine (unhide (hq1 d3 d4 _ hL)).mono ?_); rintro _ w3 ⟨rfl, L, hO1, hL2⟩; have HO1 := kD hO1; have hL := hL.overRow hL2; clear hL2 hO1 hq1)
     go_end0
     refine ⟨rfl, L ++ (A2 ++ B2), HS4.out.cross _ _ HO1.out HO2.out, ?_⟩
     have hz : P ++ L ++ (A2 ++ B2 ++ R) = P ++ (L ++ (A2 ++ B2)) ++ R := by simp
     rw [← hz]; exact hL
    ·have d1 : ¬ i < m := by have h1 := HS4.out.num; have h2 := HN.out; omega
     have d2 : m < e := by have h1 := HS4.out.num; have h2 := HN.out; omega
     have d3 : a < i := by have h1 := HS4.out.num; have h2 := HN.out; omega
     have d4 : i < mid := by have h1 := HS4.out.num; have h2 := HN.out; omega
     have d5 : ¬ mid < e := by have h1 := HS4.out.num; have h2 := HN.out; omega
     have d6 : ¬ e < b := by have h1 := HS4.out.num; have h2 := HN.out; omega
     have hz : A2 = [] := List.eq_nil_of_length_eq_zero (by have h1 := HS4.out.num; have h2 := HN.out; omega)
     rw [show P ++ A1 ++ A2 ++ B1 ++ (B2 ++ R) = P ++ (A1 ++ B1) ++ (A2 ++ B2 ++ R) from by rw [hz]; simp] at hL
     clear hz
     have HO2 := kD (HS4.out.o2 (Or.inl (List.eq_nil_of_length_eq_zero (by have h1 := HS4.out.num; have h2 := HN.out; omega))))
     clear x1 x2 x3 x4
     go_wp2_with (go_at_call 200; (with_reducible refine (unhide (hq1 d3 d4 _ hL)).mono ?_); rintro _ w3 ⟨rfl, L, hO1, hL2⟩; have HO1 := kD hO1; have hL := hL.overRow hL2; clear hL2 hO1 hq1)
     go_end0
     refine ⟨rfl, L ++ (A2 ++ B2), HS4.out.cross _ _ HO1.out HO2.out, ?_⟩
     have hz : P ++ L ++ (A2 ++ B2 ++ R) = P ++ (L ++ (A2 ++ B2)) ++ R := by simp
     rw [← hz]; exact hL
    ·exfalso; have h1 := HS4.out.num; have h2 := HN.out; have h3 := HE0.out; omega
    ·exfalso; have h1 := HS4.out.num; have h2 := HN.out; have h3 := HE0.out; omega
    ·have d1 : ¬ i < m := by have h1 := HS4.out.num; have h2 := HN.out; omega
     have d2 : ¬ m < e := by have h1 := HS4.out.num; have h2 := HN.out; omega
     have d3 : a < i := by have h1 := HS4.out.num; have h2 := HN.out; omega
     have d4 : ¬ i < mid := by have h1 := HS4.out.num; have h2 := HN.out; omega
     have d5 : ¬ mid < e := by have h1 := HS4.out.num; have h2 := HN.out; omega
     have d6 : e < b := by have h1 := HS4.out.num; have h2 := HN.out; omega
     have hz : A2 = [] := List.eq_nil_of_length_eq_zero (by have h1 := HS4.out.num; have h2 := HN.out; omega)
     rw [show P ++ A1 ++ A2 ++ B1 ++ (B2 ++ R) = P ++ (A1 ++ B1) ++ (A2 ++ B2 ++ R) from by rw [hz]; simp] at hL
     clear hz
     have HO1 := kD (HS4.out.o1 (Or.inr (List.eq_nil_of_length_eq_zero (by have h1 := HS4.out.num; have h2 := HN.out; omega))))
     have HO2 := kD (HS4.out.o2 (Or.inl (List.eq_nil_of_length_eq_zero (by have h1 := HS4.out.num; have h2 := HN.out; omega))))
     clear x1 x2 x3 x4
     go_wp2
     go_end0
     refine ⟨rfl, (A1 ++ B1) ++ (A2 ++ B2), HS4.out.cross _ _ HO1.out HO2.out, ?_⟩
     have hz : P ++ (A1 ++ B1) ++ (A2 ++ B2 ++ R) = P ++ ((A1 ++ B1) ++ (A2 ++ B2)) ++ R := by simp
     rw [← hz]; exact hL
    ·exfalso; have h1 := HS4.out.num; have h2 := HN.out; have h3 := HE0.out; omega
    ·exfalso; have h1 := HS4.out.num; have h2 := HN.out; have h3 := HE0.out; omega
    ·exfalso; have h1 := HS4.out.num; have h2 := HN.out; have h3 := HE0.out; omega
 ·have tM : decide ((mid : Int) < (m : Int)) = false := by simp; omega
  have HK := kD (show a ≤ a ∧ a ≤ m ∧ m ≤ m ∧ m ≤ mid ∧ nn ≤ a + b ∧ (a = a ∨ nn = a + b) ∧ m ≤ mid from by have h1 := HN.out; have h2 := HE0.out; omega)
  go_wp2
  go_loopw [20, 21, 23] (fun sv rv cv wr => ∃ i q : Nat, sv = .int .i64 i ∧ rv = .int .i64 q ∧ Hid (a ≤ i ∧ i ≤ q ∧ q ≤ m ∧ (a < i → Stab.At (ltf cf) A B (i - 1 - a) (mid - i) false) ∧ (q < m → Stab.At (ltf cf) A B (q - a) (mid - 1 - q) true)) ∧ Loc w (· = g) wr [it E base g n c (P ++ A ++ B ++ R)]) (fun sv rv _ _ => (intOf rv).toNat - (intOf sv).toNat)
  case atStart => exact ⟨a, m, rfl, rfl, kD ⟨Nat.le_refl _, HK.out.2.1, Nat.le_refl _, fun h => absurd h (Nat.lt_irrefl _), fun h => absurd h (Nat.lt_irrefl _)⟩, hL⟩
  case round =>
   clear hL
   obtain ⟨i, q, rfl, rfl, HI, hL⟩ := hrel
   have hqm : q ≤ m := by have h1 := HI.out; have h2 := HK.out; omega
   by_cases hlt : i < q
   ·have t0 : decide ((i : Int) < (q : Int)) = true := by simp; omega
    obtain ⟨k, hhm, hb1, hb2⟩ : ∃ k : Nat, ((i : Int) + (q : Int)) / 2 = (k : Int) ∧ i ≤ k ∧ k < q := ⟨(i + q) / 2, by omega, by omega, by omega⟩
    obtain ⟨u, hu, hub⟩ : ∃ u : Nat, (p : Int) - (k : Int) = (u : Int) ∧ u < b := ⟨p - k, by have h1 := HI.out; have h2 := HK.out; have h3 := HE0.out; omega, by have h1 := HI.out; have h2 := HK.out; have h3 := HE0.out; omega⟩
    have hkn : k < n := by have h2 := HN.out; omega
    have HKU : Hid (u = m + (mid - 1 - k) ∧ mid - 1 - k < B.length ∧ k < mid ∧ a ≤ k ∧ k - a < A.length) := kD (by have h1 := HI.out; have h2 := HK.out; have h3 := HN.out; have h4 := HE0.out; omega)
    obtain ⟨y, hy⟩ : ∃ y, B[mid - 1 - k]? = some y := ⟨_, List.getElem?_eq_getElem HKU.out.2.1⟩
    obtain ⟨z, hz⟩ : ∃ z, A[k - a]? = some z := ⟨_, List.getElem?_eq_getElem HKU.out.2.2.2.2⟩
    have HZ := kD (And.intro hy hz)
    have hy1 : (P ++ A ++ B ++ R)[u]? = some y := by
     have h3 := HN.out; have h4 := HKU.out
     rw [List.getElem?_append_left (by simp; omega), List.getElem?_append_right (by simp; omega), ← hy]
     congr 1; simp; omega
    have hy2 : (P ++ A ++ B ++ R)[k]? = some z := by
     have h3 := HN.out; have h4 := HKU.out
     rw [List.append_assoc, List.append_assoc, List.getElem?_append_right (by omega), List.getElem?_append_left (by omega), ← hz]
     congr 1; omega
    clear hy hz
    have hcq := fun w (hb : Below _ _ w) => unhide HC y z w (hL.mod.trans (Mod.of_below (M := NoM) hb) fun _ _ e => e.elim)
    generalize P ++ A ++ B ++ R = xs at *
    by_cases hc : cf y z < 0
    ·have t2 : decide (cf y z < 0) = true := by simpa using hc
     have HA : Hid (Stab.At (ltf cf) A B (k - a) (mid - 1 - k) true) := kD (fun x' y' hx hy => by
      have h1 := HZ.out
      rw [h1.2] at hx; rw [h1.1] at hy
      cases hx; cases hy; exact t2)
     go_wp2_with fail
     (try simp only [Act.put, zs, zt, zu])
     refine wp_region_ext (by kernel_rfl) (by kernel_rfl) ?_
     repeat (first
         | (go_big_quiet_want; (first | refine qK E rfl (by rfl) (by rfl) (by omega) ?_ | refine qJ (E := E) hL (.head _) rfl (by rfl) hy1 ?_ | refine qJ (E := E) hL (.head _) rfl (by rfl) hy2 ?_); go_big_quiet_on; simp only [Act.put, zs, zt, zu])
         | go_big_quiet_step (first | (go_at_fn f; exact calls_ext (hcq _ (Ext.ok _)))))
     refine wpQuiet_nil ?_
     rintro _ ⟨⟨wC, hbC⟩, rfl⟩
     have hL := hL.call hbC
     clear hbC hcq
     go_wp2
     first | go_roundw | (refine ⟨?_, ?measure⟩; iterate 18 (apply Exists.intro); refine ⟨?rel, rfl⟩) | (refine ⟨?_, ?measure⟩; iterate 19 (apply Exists.intro); refine ⟨?rel, rfl⟩) | (refine ⟨?_, ?measure⟩; iterate 20 (apply Exists.intro); refine ⟨?rel, rfl⟩) | (refine ⟨?_, ?measure⟩; iterate 21 (apply Exists.intro); refine ⟨?rel, rfl⟩) | (refine ⟨?_, ?measure⟩; iterate 22 (apply Exists.intro); refine ⟨?rel, rfl⟩) | (refine ⟨?_, ?measure⟩; iterate 23 (apply Exists.intro); refine ⟨?rel, rfl⟩) | (refine ⟨?_, ?measure⟩; iterate 24 (apply Exists.intro); refine ⟨?rel, rfl⟩) | (refine ⟨?_, ?measure⟩; iterate 25 (apply Exists.intro); refine ⟨?rel, rfl⟩) | (refine ⟨?_, ?measure⟩; iterate 26 (apply Exists.intro); refine ⟨?rel, rfl⟩) | (refine ⟨?_, ?measure⟩; iterate 27 (apply Exists.intro); refine ⟨?rel, rfl⟩) | (refine ⟨?_, ?measure⟩; iterate 28 (apply Exists.intro); refine ⟨?rel, rfl⟩) | (refine ⟨?_, ?measure⟩; iterate 29 (apply Exists.intro); refine ⟨?rel, rfl⟩) | (refine ⟨?_, ?measure⟩; iterate 30 (apply Exists.intro); refine ⟨?rel, rfl⟩) | (refine ⟨?_, ?measure⟩; iterate 31 (apply Exists.intro); refine ⟨?rel, rfl⟩) | (refine ⟨?_, ?measure⟩; iterate 32 (apply Exists.intro); refine ⟨?rel, rfl⟩) | (refine ⟨?_, ?measure⟩; iterate 33 (apply Exists.intro); refine ⟨?rel, rfl⟩) | (refine ⟨?_, ?measure⟩; iterate 34 (apply Exists.intro); refine ⟨?rel, rfl⟩) | (refine ⟨?_, ?measure⟩; iterate 35 (apply Exists.intro); refine ⟨?rel, rfl⟩) | (refine ⟨?_, ?measure⟩; iterate 36 (apply Exists.intro); refine ⟨?rel, rfl⟩) | (refine ⟨?_, ?measure⟩; iterate 37 (apply Exists.intro); refine ⟨?rel, rfl⟩) | (refine ⟨?_, ?measure⟩; iterate 38 (apply Exists.intro); refine ⟨?rel, rfl⟩) | (refine ⟨?_, ?measure⟩; iterate 39 (apply Exists.intro); refine ⟨?rel, rfl⟩)
     case rel => exact ⟨i, k, rfl, rfl, kD ⟨HI.out.1, by omega, by have := HI.out; omega, HI.out.2.2.2.1, fun _ => HA.out⟩, hL⟩
     case measure => simp [intOf]; omega
    ·have t2 : decide (cf y z < 0) = false := by simpa using hc
     have HA : Hid (Stab.At (ltf cf) A B (k + 1 - 1 - a) (mid - (k + 1)) false) := kD (fun x' y' hx hy => by
      have h1 := HZ.out
      rw [show k + 1 - 1 - a = k - a from by omega, h1.2] at hx; rw [show mid - (k + 1) = mid - 1 - k from by omega, h1.1] at hy
      cases hx; cases hy; exact t2)
     go_wp2_with fail
     (try simp only [Act.put, zs, zt, zu])
     refine wp_region_ext (by kernel_rfl) (by kernel_rfl) ?_
     repeat (first
         | (go_big_quiet_want; (first | refine qK E rfl (by rfl) (by rfl) (by omega) ?_ | refine qJ (E := E) hL (.head _) rfl (by rfl) hy1 ?_ | refine qJ (E := E) hL (.head _) rfl (by rfl) hy2 ?_); go_big_quiet_on; simp only [Act.put, zs, zt, zu])
         | go_big_quiet_step (first | (go_at_fn f; exact calls_ext (hcq _ (Ext.ok _)))))
     refine wpQuiet_nil ?_
     rintro _ ⟨⟨wC, hbC⟩, rfl⟩
     have hL := hL.call hbC
     clear hbC hcq
     go_wp2
     first | go_roundw | (refine ⟨?_, ?measure⟩; iterate 18 (apply Exists.intro); refine ⟨?rel, rfl⟩) | (refine ⟨?_, ?measure⟩; iterate 19 (apply Exists.intro); refine ⟨?rel, rfl⟩) | (refine ⟨?_, ?measure⟩; iterate 20 (apply Exists.intro); refine ⟨?rel, rfl⟩) | (refine ⟨?_, ?measure⟩; iterate 21 (apply Exists.intro); refine ⟨?rel, rfl⟩) | (refine ⟨?_, ?measure⟩; iterate 22 (apply Exists.intro); refine ⟨?rel, rfl⟩) | (refine ⟨?_, ?measure⟩; iterate 23 (apply Exists.intro); refine ⟨?rel, rfl⟩) | (refine ⟨?_, ?measure⟩; iterate 24 (apply Exists.intro); refine ⟨?rel, rfl⟩) | (refine ⟨?_, ?measure⟩; iterate 25 (apply Exists.intro); refine ⟨?rel, rfl⟩) | (refine ⟨?_, ?measure⟩; iterate 26 (apply Exists.intro); refine ⟨?rel, rfl⟩) | (refine ⟨?_, ?measure⟩; iterate 27 (apply Exists.intro); refine ⟨?rel, rfl⟩) | (refine ⟨?_, ?measure⟩; iterate 28 (apply Exists.intro); refine ⟨?rel, rfl⟩) | (refine ⟨?_, ?measure⟩; iterate 29 (apply Exists.intro); refine ⟨?rel, rfl⟩) | (refine ⟨?_, ?measure⟩; iterate 30 (apply Exists.intro); refine ⟨?rel, rfl⟩) | (refine ⟨?_, ?measure⟩; iterate 31 (apply Exists.intro); refine ⟨?rel, rfl⟩) | (refine ⟨?_, ?measure⟩; iterate 32 (apply Exists.intro); refine ⟨?rel, rfl⟩) | (refine ⟨?_, ?measure⟩; iterate 33 (apply Exists.intro); refine ⟨?rel, rfl⟩) | (refine ⟨?_, ?measure⟩; iterate 34 (apply Exists.intro); refine ⟨?rel, rfl⟩) | (refine ⟨?_, ?measure⟩; iterate 35 (apply Exists.intro); refine ⟨?rel, rfl⟩) | (refine ⟨?_, ?measure⟩; iterate 36 (apply Exists.intro); refine ⟨?rel, rfl⟩) | (refine ⟨?_, ?measure⟩; iterate 37 (apply Exists.intro); refine ⟨?rel, rfl⟩) | (refine ⟨?_, ?measure⟩; iterate 38 (apply Exists.intro); refine ⟨?rel, rfl⟩) | (refine ⟨?_, ?measure⟩; iterate 39 (apply Exists.intro); refine ⟨?rel, rfl⟩)
     case rel => exact ⟨k + 1, q, by go_num, rfl, kD ⟨by have := HI.out; omega, by omega, by have := HI.out; omega, fun _ => HA.out, HI.out.2.2.2.2⟩, hL⟩
     case measure => simp [intOf]; omega
   ·have hij : q = i := by have := HI.out; omega
    subst q
    have t0 : decide ((i : Int) < (i : Int)) = false := by simp
    obtain ⟨e, he, hem⟩ : ∃ e : Nat, (nn : Int) - (i : Int) = (e : Int) ∧ e ≤ n := ⟨nn - i, by have h1 := HI.out; have h2 := HK.out; omega, by have h1 := HI.out; have h2 := HK.out; have h3 := HN.out; omega⟩
    obtain ⟨A1, A2, B1, B2, HS4⟩ : ∃ A1 A2 B1 B2, Hid (Stab.SymCut (ltf cf) A B A1 A2 B1 B2 a m b mid e i) := by
     have h1 := HI.out; have h2 := HK.out; have h3 := HN.out; have h4 := HS.out; have h5 := HE0.out
     refine ⟨_, _, _, _, kD (Stab.symCut ho h4.1 h4.2.1 (by omega) (by omega) h3.2.2.1 h3.2.2.2 (by omega) (by omega) (by omega) (fun h => ?_) (fun h => ?_))⟩
     ·by_cases hl : a < i
      ·exact h1.2.2.2.1 hl
      ·exact fun x y hx hy => absurd (List.getElem?_eq_some_iff.1 hy).1 (by omega)
     ·by_cases hl : i < m
      ·exact h1.2.2.2.2 hl
      ·exact fun x y hx hy => absurd (List.getElem?_eq_some_iff.1 hx).1 (by omega)
    have hqR : i < m → i < mid → ∀ w, Own E w base g n c (P ++ A1 ++ A2 ++ B1 ++ (B2 ++ R)) → Hid (Calls Tryz.prog 212 #[.slice (some ⟨g, 0, none⟩) n c, .int .i64 i, .int .i64 m, .int .i64 e, .func (.func f) #[] cb] w fun e w' => e = .returned (.tuple #[]) ∧ Loc w (· = g) w' [it E base g n c (P ++ (A1 ++ B1) ++ (A2 ++ B2 ++ R))]) := fun x1 x2 w h => hide (by
     have h1 := HS4.out.num; have h3 := HN.out
     have hl := congrArg List.length HS4.out.eA; have hl2 := congrArg List.length HS4.out.eB
     simp only [List.length_append] at hl hl2
     have q := rotate E w base g n c i m e (.func (.func f) #[] cb) (P ++ A1) A2 B1 (B2 ++ R) h (by simp; omega) (by simp; omega) (by omega) (by omega) (by rintro rfl; simp at h1; omega) (by rintro rfl; simp at h1; omega) hmax
     rw [show P ++ A1 ++ B1 ++ A2 ++ (B2 ++ R) = P ++ (A1 ++ B1) ++ (A2 ++ B2 ++ R) from by simp] at q
     exact q)
    have hq1 : a < i → i < mid → ∀ w', Loc w (· = g) w' [it E base g n c (P ++ (A1 ++ B1) ++ (A2 ++ B2 ++ R))] → Hid (Calls Tryz.prog 200 #[.slice (some ⟨g, 0, none⟩) n c, .int .i64 a, .int .i64 i, .int .i64 mid, .func (.func f) #[] cb] w' (Merged E (ltf cf) w' base g n c P A1 B1 (A2 ++ B2 ++ R))) := fun x1 x2 w' h => hide (by
     have h1 := HS4.out.num; have h3 := HN.out; have h4 := HS4.out.s
     have hl := congrArg List.length HS4.out.eA; have hl2 := congrArg List.length HS4.out.eB
     simp only [List.length_append] at hl hl2
     refine unhide IH w' a i mid P A1 B1 (A2 ++ B2 ++ R) (by have := HE0.out; omega) (by rintro rfl; simp at h1; omega) (by rintro rfl; simp at h1; omega) ((unhide HC).next h.mod) ?_ (by simp; omega) h3.2.1 (by omega) (by omega) h4.1 h4.2.1
     have q := ofR E h
     rw [show P ++ (A1 ++ B1) ++ (A2 ++ B2 ++ R) = P ++ A1 ++ B1 ++ (A2 ++ B2 ++ R) from by simp] at q
     exact q)
    have hq2 : i < m → e < b → ∀ w' L, Hid (Stab.Of (ltf cf) (A1 ++ B1) L) → Loc w (· = g) w' [it E base g n c (P ++ L ++ (A2 ++ B2 ++ R))] → Hid (Calls Tryz.prog 200 #[.slice (some ⟨g, 0, none⟩) n c, .int .i64 mid, .int .i64 e, .int .i64 b, .func (.func f) #[] cb] w' (Merged E (ltf cf) w' base g n c (P ++ L) A2 B2 R)) := fun x1 x2 w' L HO h => hide (by
     have h1 := HS4.out.num; have h3 := HN.out; have h4 := HS4.out.s
     have hl := congrArg List.length HS4.out.eA; have hl2 := congrArg List.length HS4.out.eB
     have hl3 := HO.out.perm.length_eq
     simp only [List.length_append] at hl hl2 hl3
     refine unhide IH w' mid e b (P ++ L) A2 B2 R (by have := HE0.out; omega) (by rintro rfl; simp at h1; omega) (by rintro rfl; simp at h1; omega) ((unhide HC).next h.mod) ?_ (by simp; omega) (by simp; omega) (by omega) (by omega) h4.2.2.1 h4.2.2.2
     have q := ofR E h
     rw [show P ++ L ++ (A2 ++ B2 ++ R) = P ++ L ++ A2 ++ B2 ++ R from by simp] at q
     exact q)
    rw [show P ++ A ++ B ++ R = P ++ A1 ++ A2 ++ B1 ++ (B2 ++ R) from by rw [HS4.out.eA, HS4.out.eB]; simp] at hL
    have hib : i ≤ n ∧ e ≤ n ∧ mid ≤ n := by have h1 := HS4.out.num; have h3 := HN.out; omega
    clear HI hlt
    rcases Nat.lt_or_ge i m with x1 | x1 <;> rcases Nat.lt_or_ge i mid with x2 | x2 <;> rcases Nat.lt_or_ge a i with x3 | x3 <;> rcases Nat.lt_or_ge e b with x4 | x4
    ·have d1 : i < m := by have h1 := HS4.out.num; have h2 := HN.out; omega
     have d2 : m < e := by have h1 := HS4.out.num; have h2 := HN.out; omega
     have d3 : a < i := by have h1 := HS4.out.num; have h2 := HN.out; omega
     have d4 : i < mid := by have h1 := HS4.out.num; have h2 := HN.out; omega
     have d5 : mid < e := by have h1 := HS4.out.num; have h2 := HN.out; omega
     have d6 : e < b := by have h1 := HS4.out.num; have h2 := HN.out; omega
     have hqR := hqR x1 x2
     clear x1 x2 x3 x4
     go_wp2_with (go_at_call 212; (with_reducible refine (unhide (hqR _ (ofR E hL))).mono ?_); rintro _ w2 ⟨rfl, hL2⟩; have hL := hL.overRow hL2; clear hL2 hqR)
     go_wp2_with (go_at_call 200; (with_reducible refine (unhide (hq1 d3 d4 _ hL)).mono ?_); rintro _ w3 ⟨rfl, L, hO1, hL2⟩; have HO1 := kD hO1; have hL := hL.overRow hL2; clear hL2 hO1 hq1)
     go_wp2_with (go_at_call 200; (with_reducible refine (unhide (hq2 d1 d6 _ L HO1 hL)).mono ?_); rintro _ w4 ⟨rfl, L2, hO2, hL2⟩; have HO2 := kD hO2; have hL := hL.overRow hL2; clear hL2 hO2 hq2)
     go_end0
     refine ⟨rfl, L ++ L2, HS4.out.cross _ _ HO1.out HO2.out, ?_⟩
     have hz : P ++ L ++ L2 ++ R = P ++ (L ++ L2) ++ R := by simp
     rw [← hz]; exact hL
    ·have d1 : i < m := by have h1 := HS4.out.num; have h2 := HN.out; omega
     have d2 : m < e := by have h1 := HS4.out.num; have h2 := HN.out; omega
     have d3 : a < i := by have h1 := HS4.out.num; have h2 := HN.out; omega
     have d4 : i < mid := by have h1 := HS4.out.num; have h2 := HN.out; omega
     have d5 : mid < e := by have h1 := HS4.out.num; have h2 := HN.out; omega
     have d6 : ¬ e < b := by have h1 := HS4.out.num; have h2 := HN.out; omega
     have hqR := hqR x1 x2
     have HO2 := kD (HS4.out.o2 (Or.inr (List.eq_nil_of_length_eq_zero (by have h1 := HS4.out.num; have h2 := HN.out; omega))))
     clear x1 x2 x3 x4
     go_wp2_with (go_at_call 212; (with_reducible refine (unhide (hqR _ (ofR E hL))).mono ?_); rintro _ w2 ⟨rfl, hL2⟩; have hL := hL.overRow hL2; clear hL2 hqR)
     go_wp2_with (go_at_call 200; (with_reducible refine (unhide (hq1 d3 d4 _ hL)).mono ?_); rintro _ w3 ⟨rfl, L, hO1, hL2⟩; have HO1 := kD hO1; have hL := hL.overRow hL2; clear hL2 hO1 hq1)
     go_end0
     refine ⟨rfl, L ++ (A2 ++ B2), HS4.out.cross _ _ HO1.out HO2.out, ?_⟩
     have hz : P ++ L ++ (A2 ++ B2 ++ R) = P ++ (L ++ (A2 ++ B2)) ++ R := by simp
     rw [← hz]; exact hL
    ·have d1 : i < m := by have h1 := HS4.out.num; have h2 := HN.out; omega
     have d2 : m < e := by have h1 := HS4.out.num; have h2 := HN.out; omega
     have d3 : ¬ a < i := by have h1 := HS4.out.num; have h2 := HN.out; omega
     have d4 : i < mid := by have h1 := HS4.out.num; have h2 := HN.out; omega
     have d5 : mid < e := by have h1 := HS4.out.num; have h2 := HN.out; omega
     have d6 : e < b := by have h1 := HS4.out.num; have h2 := HN.out; omega
     have hqR := hqR x1 x2
     have HO1 := kD (HS4.out.o1 (Or.inl (List.eq_nil_of_length_eq_zero (by have h1 := HS4.out.num; have h2 := HN.out; omega))))
     clear x1 x2 x3 x4
     go_wp2_with (go_at_call 212; (with_reducible refine (unhide (hqR _ (ofR E hL))).mono ?_); rintro _ w2 ⟨rfl, hL2⟩; have hL := hL.overRow hL2; clear hL2 hqR)
     go_wp2_with (go_at_call 200; (with_reducible refine (unhide (hq2 d1 d6 _ (A1 ++ B1) HO1 hL)).mono ?_); rintro _ w4 ⟨rfl, L2, hO2, hL2⟩; have HO2 := kD hO2; have hL := hL.overRow hL2; clear hL2 hO2 hq2)
     go_end0
     refine ⟨rfl, (A1 ++ B1) ++ L2, HS4.out.cross _ _ HO1.out HO2.out, ?_⟩
     have hz : P ++ (A1 ++ B1) ++ L2 ++ R = P ++ ((A1 ++ B1) ++ L2) ++ R := by simp
     rw [← hz]; exact hL
    ·have d1 : i < m := by have h1 := HS4.out.num; have h2 := HN.out; omega
     have d2 : m < e := by have h1 := HS4.out.num; have h2 := HN.out; omega
     have d3 : ¬ a < i := by have h1 := HS4.out.num; have h2 := HN.out; omega
     have d4 : i < mid := by have h1 := HS4.out.num; have h2 := HN.out; omega
     have d5 : mid < e := by have h1 := HS4.out.num; have h2 := HN.out; omega
     have d6 : ¬ e < b := by have h1 := HS4.out.num; have h2 := HN.out; omega
     have hqR := hqR x1 x2
     have HO1 := kD (HS4.out.o1 (Or.inl (List.eq_nil_of_length_eq_zero (by have h1 := HS4.out.num; have h2 := HN.out; omega))))
     have HO2 := kD (HS4.out.o2 (Or.inr (List.eq_nil_of_length_eq_zero (by have h1 := HS4.out.num; have h2 := HN.out; omega))))
     clear x1 x2 x3 x4
     go_wp2_with (go_at_call 212; (with_reducible refine (unhide (hqR _ (ofR E hL))).mono ?_); rintro _ w2 ⟨rfl, hL2⟩; have hL := hL.overRow hL2; clear hL2 hqR)
     go_end0
     refine ⟨rfl, (A1 ++ B1) ++ (A2 ++ B2), HS4.out.cross _ _ HO1.out HO2.out, ?_⟩
     have hz : P ++ (A1 ++ B1) ++ (A2 ++ B2 ++ R) = P ++ ((A1 ++ B1) ++ (A2 ++ B2)) ++ R := by simp
     rw [← hz]; exact hL
    ·have d1 : i < m := by have h1 := HS4.out.num; have h2 := HN.out; omega
     have d2 : ¬ m < e := by have h1 := HS4.out.num; have h2 := HN.out; omega
     have d3 : a < i := by have h1 := HS4.out.num; have h2 := HN.out; omega
     have d4 : ¬ i < mid := by have h1 := HS4.out.num; have h2 := HN.out; omega
     have d5 : mid < e := by have h1 := HS4.out.num; have h2 := HN.out; omega
     have d6 : e < b := by have h1 := HS4.out.num; have h2 := HN.out; omega
     have hz : B1 = [] := List.eq_nil_of_length_eq_zero (by have h1 := HS4.out.num; have h2 := HN.out; omega)
     rw [show P ++ A1 ++ A2 ++ B1 ++ (B2 ++ R) = P ++ (A1 ++ B1) ++ (A2 ++ B2 ++ R) from by rw [hz]; simp] at hL
     clear hz
     have HO1 := kD (HS4.out.o1 (Or.inr (List.eq_nil_of_length_eq_zero (by have h1 := HS4.out.num; have h2 := HN.out; omega))))
     clear x1 x2 x3 x4
     go_wp2_with (go_at_call 200; (with_reducible refine (unhide (hq2 d1 d6 _ (A1 ++ B1) HO1 hL)).mono ?_); rintro _ w4 ⟨rfl, L2, hO2, hL2⟩; have HO2 := kD hO2; have hL := hL.overRow hL2; clear hL2 hO2 hq2)
     go_end0
     refine ⟨rfl, (A1 ++ B1) ++ L2, HS4.out.cross _ _ HO1.out HO2.out, ?_⟩
     have hz : P ++ (A1 ++ B1) ++ L2 ++ R = P ++ ((A1 ++ B1) ++ L2) ++ R := by simp
     rw [← hz]; exact hL
    ·exfalso; have h1 := HS4.out.num; have h2 := HN.out; have h3 := HE0.out; omega
    ·have d1 : i < m := by have h1 := HS4.out.num; have h2 := HN.out; omega
     have d2 : ¬ m < e := by have h1 := HS4.out.num; have h2 := HN.out; omega
     have d3 : ¬ a < i := by have h1 := HS4.out.num; have h2 := HN.out; omega
     have d4 : ¬ i < mid := by have h1 := HS4.out.num; have h2 := HN.out; omega
     have d5 : mid < e := by have h1 := HS4.out.num; have h2 := HN.out; omega
     have d6 : e < b := by have h1 := HS4.out.num; have h2 := HN.out; omega
     have hz : B1 = [] := List.eq_nil_of_length_eq_zero (by have h1 := HS4.out.num; have h2 := HN.out; omega)
     rw [show P ++ A1 ++ A2 ++ B1 ++ (B2 ++ R) = P ++ (A1 ++ B1) ++ (A2 ++ B2 ++ R) from by rw [hz]; simp] at hL
     clear hz
     have HO1 := kD (HS4.out.o1 (Or.inl (List.eq_nil_of_length_eq_zero (by have h1 := HS4.out.num; have h2 := HN.out; omega))))
     clear x1 x2 x3 x4
     go_wp2_with (go_at_call 200; (with_reducible refine (unhide (hq2 d1 d6 _ (A1 ++ B1) HO1 hL)).mono ?_); rintro _ w4 ⟨rfl, L2, hO2, hL2⟩; have HO2 := kD hO2; have hL := hL.overRow hL2; clear hL2 hO2 hq2)
     go_end0
     refine ⟨rfl, (A1 ++ B1) ++ L2, HS4.out.cross _ _ HO1.out HO2.out, ?_⟩
     have hz : P ++ (A1 ++ B1) ++ L2 ++ R = P ++ ((A1 ++ B1) ++ L2) ++ R := by simp
     rw [← hz]; exact hL
    ·exfalso; have h1 := HS4.out.num; have h2 := HN.out; have h3 := HE0.out; omega
    ·have d1 : ¬ i < m := by have h1 := HS4.out.num; have h2 := HN.out; omega
     have d2 : m < e := by have h1 := HS4.out.num; have h2 := HN.out; omega
     have d3 : a < i := by have h1 := HS4.out.num; have h2 := HN.out; omega
     have d4 : i < mid := by have h1 := HS4.out.num; have h2 := HN.out; omega
     have d5 : ¬ mid < e := by have h1 := HS4.out.num; have h2 := HN.out; omega
     have d6 : e < b := by have h1 := HS4.out.num; have h2 := HN.out; omega
     have hz : A2 = [] := List.eq_nil_of_length_eq_zero (by have h1 := HS4.out.num; have h2 := HN.out; omega)
     rw [show P ++ A1 ++ A2 ++ B1 ++ (B2 ++ R) = P ++ (A1 ++ B1) ++ (A2 ++ B2 ++ R) from by rw [hz]; simp] at hL
     clear hz
     have HO2 := kD (HS4.out.o2 (Or.inl (List.eq_nil_of_length_eq_zero (by have h1 := HS4.out.num; have h2 := HN.out; omega))))
     clear x1 x2 x3 x4
     go_wp2_with (go_at_call 200; (with_reducible refine (unhide (hq1 d3 d4 _ hL)).mono ?_); rintro _ w3 ⟨rfl, L, hO1, hL2⟩; have HO1 := kD hO1; have hL := hL.overRow hL2; clear hL2 hO1 hq1)
     go_end0
     refine ⟨rfl, L ++ (A2 ++ B2), HS4.out.cross _ _ HO1.out HO2.out, ?_⟩
     have hz : P ++ L ++ (A2 ++ B2 ++ R) = P ++ (L ++ (A2 ++ B2)) ++ R := by simp
     rw [← hz]; exact hL
    ·have d1 : ¬ i < m := by have h1 := HS4.out.num; have h2 := HN.out; omega
     have d2 : m < e := by have h1 := HS4.out.num; have h2 := HN.out; omega
     have d3 : a < i := by have h1 := HS4.out.num; have h2 := HN.out; omega
     have d4 : i < mid := by have h1 := HS4.out.num; have h2 := HN.out; omega
     have d5 : ¬ mid < e := by have h1 := HS4.out.num; have h2 := HN.out; omega
     have d6 : ¬ e < b := by have h1 := HS4.out.num; have h2 := HN.out; omega
     have hz : A2 = [] := List.eq_nil_of_length_eq_zero (by have h1 := HS4.out.num; have h2 := HN.out; omega)
     rw [show P ++ A1 ++ A2 ++ B1 ++ (B2 ++ R) = P ++ (A1 ++ B1) ++ (A2 ++ B2 ++ R) from by rw [hz]; simp] at hL
     clear hz
     have HO2 := kD (HS4.out.o2 (Or.inl (List.eq_nil_of_length_eq_zero (by have h1 := HS4.out.num; have h2 := HN.out; omega))))
     clear x1 x2 x3 x4
     go_wp2_with (go_at_call 200; (with_reducible refine (unhide (hq1 d3 d4 _ hL)).mono ?_); rintro _ w3 ⟨rfl, L, hO1, hL2⟩; have HO1 := kD hO1; have hL := hL.overRow hL2; clear hL2 hO1 hq1)
     go_end0
     refine ⟨rfl, L ++ (A2 ++ B2), HS4.out.cross _ _ HO1.out HO2.out, ?_⟩
     have hz : P ++ L ++ (A2 ++ B2 ++ R) = P ++ (L ++ (A2 ++ B2)) ++ R := by simp
     rw [← hz]; exact hL
    ·exfalso; have h1 := HS4.out.num; have h2 := HN.out; have h3 := HE0.out; omega
    ·exfalso; have h1 := HS4.out.num; have h2 := HN.out; have h3 := HE0.out; omega
    ·have d1 : ¬ i < m := by have h1 := HS4.out.num; have h2 := HN.out; omega
     have d2 : ¬ m < e := by have h1 := HS4.out.num; have h2 := HN.out; omega
     have d3 : a < i := by have h1 := HS4.out.num; have h2 := HN.out; omega
     have d4 : ¬ i < mid := by have h1 := HS4.out.num; have h2 := HN.out; omega
     have d5 : ¬ mid < e := by have h1 := HS4.out.num; have h2 := HN.out; omega
     have d6 : e < b := by have h1 := HS4.out.num; have h2 := HN.out; omega
     have hz : A2 = [] := List.eq_nil_of_length_eq_zero (by have h1 := HS4.out.num; have h2 := HN.out; omega)
     rw [show P ++ A1 ++ A2 ++ B1 ++ (B2 ++ R) = P ++ (A1 ++ B1) ++ (A2 ++ B2 ++ R) from by rw [hz]; simp] at hL
     clear hz
     have HO1 := kD (HS4.out.o1 (Or.inr (List.eq_nil_of_length_eq_zero (by have h1 := HS4.out.num; have h2 := HN.out; omega))))
     have HO2 := kD (HS4.out.o2 (Or.inl (List.eq_nil_of_length_eq_zero (by have h1 := HS4.out.num; have h2 := HN.out; omega))))
     clear x1 x2 x3 x4
     go_wp2
     go_end0
     refine ⟨rfl, (A1 ++ B1) ++ (A2 ++ B2), HS4.out.cross _ _ HO1.out HO2.out, ?_⟩
     have hz : P ++ (A1 ++ B1) ++ (A2 ++ B2 ++ R) = P ++ ((A1 ++ B1) ++ (A2 ++ B2)) ++ R := by simp
     rw [← hz]; exact hL
    ·exfalso; have h1 := HS4.out.num; have h2 := HN.out; have h3 := HE0.out; omega
    ·exfalso; have h1 := HS4.out.num; have h2 := HN.out; have h3 := HE0.out; omega
    ·exfalso; have h1 := HS4.out.num; have h2 := HN.out; have h3 := HE0.out; omega
end Go.Proofs.YtebpacmhdkgfeaaGreat.SortK

namespace Go.Proofs.YtebpacmhdkgfeaaGreat.SortK
open Go.RowKit
variable {α : Type} (E : Enc α) [hsz : SizeT Tryz.prog 46 E.sz]
theorem sym (f : Nat) (cb : Array Value) (cf : α → α → Int) (eg : ∀ args w, (callFunc f args).run Tryz.prog w = .ok (.enter f args) w) (ho : Stab.Ord (ltf cf)) (base g n c : Nat) (hmax : n ≤ 1000000000) : ∀ N, SymAt E f cb cf base g n c N := by
 intro N
 induction N with
 | zero =>
  intro w a m b P A B R hN hA
  exact absurd (List.eq_nil_of_length_eq_zero (by omega)) hA
 | succ N ih =>
  intro w a m b P A B R hN hA hB hcmp h hn ha hm hb hsA hsB
  have hA0 := List.length_pos_iff.2 hA
  have hB0 := List.length_pos_iff.2 hB
  by_cases hA1 : A.length = 1
  ·obtain ⟨x, rfl⟩ := List.length_eq_one_iff.1 hA1
   obtain rfl : m = a + 1 := hm
   exact sym_left E f cb cf eg ho w base g n c a b x P B R hcmp h hn ha hb hsB hmax
  ·by_cases hB1 : B.length = 1
   ·obtain ⟨y, rfl⟩ := List.length_eq_one_iff.1 hB1
    obtain rfl : b = m + 1 := hb
    exact sym_right E f cb cf eg ho w base g n c a m y P A R hcmp h hn ha hm hA1 hsA hmax
   ·exact sym_step E f cb cf eg ho base g n c N hmax (hide ih) w a m b P A B R hN (by omega) (by omega) hcmp h hn ha hm hb hsA hsB
end Go.Proofs.YtebpacmhdkgfeaaGreat.SortK

namespace Go.Proofs.YtebpacmhdkgfeaaGreat.SortK
open Go.RowKit
variable {α : Type} (E : Enc α) [hsz : SizeT Tryz.prog 46 E.sz]
set_option maxRecDepth 100000 in
set_option maxHeartbeats 16000000 in
theorem stable (f : Nat) (cb : Array Value) (cf : α → α → Int) (eg : ∀ args w, (callFunc f args).run Tryz.prog w = .ok (.enter f args) w) (ho : Stab.Ord (ltf cf)) (w : World) (base g n c : Nat) (xs : List α) (hcmp : CmpOk E f cb cf w g) (h : Own E w base g n c xs) (hn : n = xs.length) (hmax : n ≤ 1000000000) :
  Calls Tryz.prog 165 #[.slice (some ⟨g, 0, none⟩) n c, .int .i64 n, .func (.func f) #[] cb] w fun e w' => e = .returned (.tuple #[]) ∧ ∃ L, Stab.Of (ltf cf) xs L ∧ Loc w (· = g) w' [it E base g n c L] := by
 have hL := openR E h
 have HN := kD hn
 have HC := hide hcmp
 have HQ := hide (sym E f cb cf eg ho base g n c hmax)
 clear h hn hcmp
 go_enter Tryz.func165, Tryz.ntmps165
 go_wp2
 go_loopw [7, 8] (fun av bv wr => ∃ (D D' T : List α) (a b : Nat), av = .int .i64 a ∧ bv = .int .i64 b ∧ Hid (xs = D ++ T ∧ Stab.Full (ltf cf) 20 D D' ∧ a = D'.length ∧ D'.length = D.length ∧ b = a + 20 ∧ a ≤ n) ∧ Loc w (· = g) wr [it E base g n c (D' ++ T)]) (fun av bv _ => n + 20 - (intOf bv).toNat)
 case atStart => exact ⟨[], [], xs, 0, 20, rfl, rfl, kD ⟨rfl, .nil, rfl, rfl, rfl, Nat.zero_le _⟩, hL⟩
 case round =>
  clear hL
  obtain ⟨D, D', T, a, b, rfl, rfl, HI, hL⟩ := hrel
  have hab : a ≤ n := HI.out.2.2.2.2.2
  have hb9 : b ≤ n + 20 := by have := HI.out; omega
  by_cases hle : b ≤ n
  ·have hT : 20 ≤ T.length := by have h1 := HI.out; have h2 := HN.out; have h3 := congrArg List.length h1.1; simp at h3; omega
   obtain ⟨L, T1, HT⟩ : ∃ L T1, Hid (T = L ++ T1 ∧ L.length = 20) := ⟨T.take 20, T.drop 20, kD ⟨(List.take_append_drop _ _).symm, by rw [List.length_take]; omega⟩⟩
   have hq : ∀ w', Loc w (· = g) w' [it E base g n c (D' ++ T)] → Hid (Calls Tryz.prog 199 #[.slice (some ⟨g, 0, none⟩) n c, .int .i64 a, .int .i64 b, .func (.func f) #[] cb] w' fun e w2 => e = .returned (.tuple #[]) ∧ Loc w' (· = g) w2 [it E base g n c (D' ++ Stab.isort (ltf cf) L ++ T1)]) := fun w' h => hide (by
    have h1 := HI.out; have h2 := HN.out; have h3 := congrArg List.length h1.1; have h4 := HT.out
    rw [h4.1] at h h3
    simp only [List.length_append] at h3
    have q := ofR E h
    rw [← List.append_assoc] at q
    exact insertion E f cb cf eg ho w' base g n c a b D' L T1 ((unhide HC).next h.mod) q (by simp; omega) h1.2.2.1 (by omega) hmax)
   clear hT
   go_wp2_with (go_at_call 199; (with_reducible refine (unhide (hq _ hL)).mono ?_); rintro _ w2 ⟨rfl, hL2⟩; have hL := hL.overRow hL2; clear hL2)
   go_roundw
   case rel =>
    refine ⟨D ++ L, D' ++ Stab.isort (ltf cf) L, T1, b, b + 20, rfl, by go_num, kD ?_, hL⟩
    have h1 := HI.out; have h4 := HT.out
    have h5 := (Stab.isort_of ho L).perm.length_eq
    refine ⟨by rw [h1.1, h4.1, List.append_assoc], h1.2.1.snoc h4.2 (Stab.isort_of ho L), by simp; omega, by simp; omega, rfl, hle⟩
   case measure => simp [intOf]; omega
  ·have hq : ∀ w', Loc w (· = g) w' [it E base g n c (D' ++ T)] → Hid (Calls Tryz.prog 199 #[.slice (some ⟨g, 0, none⟩) n c, .int .i64 a, .int .i64 n, .func (.func f) #[] cb] w' fun e w2 => e = .returned (.tuple #[]) ∧ Loc w' (· = g) w2 [it E base g n c (D' ++ Stab.isort (ltf cf) T ++ [])]) := fun w' h => hide (by
    have h1 := HI.out; have h2 := HN.out; have h3 := congrArg List.length h1.1
    simp only [List.length_append] at h3
    have q := ofR E h
    rw [← List.append_nil (D' ++ T)] at q
    exact insertion E f cb cf eg ho w' base g n c a n D' T [] ((unhide HC).next h.mod) q (by simp; omega) h1.2.2.1 (by omega) hmax)
   have HB : Hid (Stab.Ch (ltf cf) 20 xs (D' ++ Stab.isort (ltf cf) T ++ [])) := kD (by
    have h1 := HI.out; have h2 := HN.out; have h3 := congrArg List.length h1.1
    simp only [List.length_append] at h3
    rw [List.append_nil, h1.1]
    exact h1.2.1.finish (by omega) (Stab.isort_of ho T))
   generalize D' ++ Stab.isort (ltf cf) T ++ [] = ys0 at hq HB
   go_wp2_with (go_at_call 199; (with_reducible refine (unhide (hq _ hL)).mono ?_); rintro _ w2 ⟨rfl, hL2⟩; have hL := hL.overRow hL2; clear hL2)
   clear hq
   go_loopw [6, 7, 8, 9] (fun kv av bv mv wr => ∃ (k : Nat) (ys : List α), kv = .int .i64 k ∧ Hid (Stab.Ch (ltf cf) k xs ys ∧ 1 ≤ k) ∧ Loc w (· = g) wr [it E base g n c ys]) (fun kv _ _ _ _ => n - (intOf kv).toNat)
   case atStart => exact ⟨20, ys0, rfl, kD ⟨HB.out, by omega⟩, hL⟩
   case round =>
    clear hL HB HI
    obtain ⟨k, ys, rfl, HK, hL⟩ := hrel
    by_cases hkn : k < n
    ·obtain ⟨k2, hk2, hk3, hk9⟩ : ∃ k2 : Nat, 2 * (k : Int) = (k2 : Int) ∧ (k : Int) * 2 = (k2 : Int) ∧ k2 ≤ n + n := ⟨2 * k, by omega, by omega, by omega⟩
     have HK2 := kD (show k2 = k + k ∧ 1 ≤ k from ⟨by omega, HK.out.2⟩)
     go_wp2
     go_loopw [7, 8] (fun av bv wr => ∃ (D D' T T' : List α) (a b : Nat), av = .int .i64 a ∧ bv = .int .i64 b ∧ Hid (xs = D ++ T ∧ Stab.Full (ltf cf) k2 D D' ∧ Stab.Ch (ltf cf) k T T' ∧ a = D'.length ∧ b = a + k2 ∧ a ≤ n ∧ D'.length = D.length ∧ T'.length = T.length) ∧ Loc w (· = g) wr [it E base g n c (D' ++ T')]) (fun av bv _ => n + k2 - (intOf bv).toNat)
     case atStart => exact ⟨[], [], xs, ys, 0, k2, rfl, rfl, kD ⟨rfl, .nil, HK.out.1, rfl, by omega, Nat.zero_le _, rfl, HK.out.1.len⟩, hL⟩
     case round =>
      clear hL
      obtain ⟨D, D', T, T', a, b, rfl, rfl, HI, hL⟩ := hrel
      have hab : a ≤ n := HI.out.2.2.2.2.2.1
      have hb8 : b ≤ n + n + n := by have := HI.out; omega
      obtain ⟨m, hm, hm9⟩ : ∃ m : Nat, (a : Int) + (k : Int) = (m : Int) ∧ m ≤ n + n := ⟨a + k, by omega, by omega⟩
      have HM : Hid (m = a + k) := kD (by omega)
      by_cases hle2 : b ≤ n
      ·obtain ⟨A, B, r, A', B', r', HT⟩ : ∃ A B r A' B' r', Hid (T = A ++ B ++ r ∧ T' = A' ++ B' ++ r' ∧ A'.length = k ∧ B'.length = k ∧ A.length = k ∧ B.length = k ∧ Stab.Sorted (ltf cf) A' ∧ Stab.Sorted (ltf cf) B' ∧ (∀ L, Stab.Of (ltf cf) (A' ++ B') L → Stab.Of (ltf cf) (A ++ B) L) ∧ Stab.Ch (ltf cf) k r r') := by
        have h1 := HI.out; have h2 := HN.out; have h3 := congrArg List.length h1.1; have h4 := HK2.out
        simp only [List.length_append] at h3
        obtain ⟨A, B, r, A', B', r', h⟩ := h1.2.2.1.two (by omega)
        exact ⟨A, B, r, A', B', r', kD h⟩
       have hq : ∀ w', Loc w (· = g) w' [it E base g n c (D' ++ T')] → Hid (Calls Tryz.prog 200 #[.slice (some ⟨g, 0, none⟩) n c, .int .i64 a, .int .i64 m, .int .i64 b, .func (.func f) #[] cb] w' (Merged E (ltf cf) w' base g n c D' A' B' r')) := fun w' h => hide (by
        have h1 := HI.out; have h2 := HN.out; have h3 := congrArg List.length h1.1; have h4 := HT.out; have h5 := HM.out; have h6 := HK2.out
        have h7 := congrArg List.length h4.1; have h8 := congrArg List.length h4.2.1
        simp only [List.length_append] at h3 h7 h8
        refine unhide HQ (A'.length + B'.length) w' a m b D' A' B' r' (Nat.le_refl _) (by rintro rfl; simp at h4; omega) (by rintro rfl; simp at h4; omega) ((unhide HC).next h.mod) ?_ (by simp; omega) h1.2.2.2.1 (by omega) (by omega) h4.2.2.2.2.2.2.1 h4.2.2.2.2.2.2.2.1
        have q := ofR E h
        rw [h4.2.1, show D' ++ (A' ++ B' ++ r') = D' ++ A' ++ B' ++ r' from by simp] at q
        exact q)
       go_wp2_with (go_at_call 200; (with_reducible refine (unhide (hq _ hL)).mono ?_); rintro _ w3 ⟨rfl, L, hO, hL2⟩; have HO := kD hO; have hL := hL.overRow hL2; clear hL2 hO)
       go_roundw
       case rel =>
        refine ⟨D ++ (A ++ B), D' ++ L, r, r', b, b + k2, rfl, by go_num, kD ?_, hL⟩
        have h1 := HI.out; have h4 := HT.out; have h6 := HK2.out
        have h5 := HO.out.perm.length_eq
        simp only [List.length_append] at h5
        refine ⟨by rw [h1.1, h4.1]; simp, h1.2.1.snoc (by simp; omega) (h4.2.2.2.2.2.2.2.2.1 _ HO.out), h4.2.2.2.2.2.2.2.2.2, by simp; omega, rfl, hle2, by simp; omega, h4.2.2.2.2.2.2.2.2.2.len⟩
       case measure => have := HK2.out; simp [intOf]; omega
      ·by_cases hmn : m < n
       ·obtain ⟨A, B, A', B', HT⟩ : ∃ A B A' B', Hid (T = A ++ B ∧ T' = A' ++ B' ∧ A'.length = k ∧ A.length = k ∧ B'.length = B.length ∧ Stab.Sorted (ltf cf) A' ∧ Stab.Sorted (ltf cf) B' ∧ (∀ L, Stab.Of (ltf cf) (A' ++ B') L → Stab.Of (ltf cf) (A ++ B) L)) := by
         have h1 := HI.out; have h2 := HN.out; have h3 := congrArg List.length h1.1; have h4 := HK2.out; have h5 := HM.out
         simp only [List.length_append] at h3
         obtain ⟨A, B, A', B', h⟩ := h1.2.2.1.rest (by omega) (by omega)
         exact ⟨A, B, A', B', kD h⟩
        have hq : ∀ w', Loc w (· = g) w' [it E base g n c (D' ++ T')] → Hid (Calls Tryz.prog 200 #[.slice (some ⟨g, 0, none⟩) n c, .int .i64 a, .int .i64 m, .int .i64 n, .func (.func f) #[] cb] w' (Merged E (ltf cf) w' base g n c D' A' B' [])) := fun w' h => hide (by
         have h1 := HI.out; have h2 := HN.out; have h3 := congrArg List.length h1.1; have h4 := HT.out; have h5 := HM.out; have h6 := HK2.out
         have h7 := congrArg List.length h4.1; have h8 := congrArg List.length h4.2.1
         simp only [List.length_append] at h3 h7 h8
         refine unhide HQ (A'.length + B'.length) w' a m n D' A' B' [] (Nat.le_refl _) (by rintro rfl; simp at h4; omega) (by rintro rfl; simp at h4 h8; omega) ((unhide HC).next h.mod) ?_ (by simp; omega) h1.2.2.2.1 (by omega) (by omega) h4.2.2.2.2.2.1 h4.2.2.2.2.2.2.1
         have q := ofR E h
         rw [h4.2.1, show D' ++ (A' ++ B') = D' ++ A' ++ B' ++ [] from by simp] at q
         exact q)
        go_wp2_with (go_at_call 200; (with_reducible refine (unhide (hq _ hL)).mono ?_); rintro _ w3 ⟨rfl, L, hO, hL2⟩; have HO := kD hO; have hL := hL.overRow hL2; clear hL2 hO)
        go_roundw
        case rel =>
         refine ⟨k2, D' ++ L ++ [], rfl, kD ⟨?_, by have := HK2.out; omega⟩, hL⟩
         have h1 := HI.out; have h4 := HT.out; have h6 := HK2.out; have h2 := HN.out; have h3 := congrArg List.length h1.1
         have h7 := congrArg List.length h4.1
         simp only [List.length_append] at h3 h7
         rw [List.append_nil, h1.1, h4.1]
         exact h1.2.1.finish (by simp; omega) (h4.2.2.2.2.2.2.2 _ HO.out)
        case measure => have := HK2.out; simp [intOf]; omega
       ·have HB : Hid (Stab.Ch (ltf cf) k2 xs (D' ++ T')) := kD (by
         have h1 := HI.out; have h6 := HK2.out; have h2 := HN.out; have h3 := congrArg List.length h1.1; have h5 := HM.out
         simp only [List.length_append] at h3
         rw [h1.1]
         exact h1.2.1.finish (by omega) (h1.2.2.1.one (by omega)))
        go_wp2
        go_roundw
        case rel => exact ⟨k2, D' ++ T', rfl, kD ⟨HB.out, by have := HK2.out; omega⟩, hL⟩
        case measure => have := HK2.out; simp [intOf]; omega
    ·have HB : Hid (Stab.Of (ltf cf) xs ys) := kD (HK.out.1.one (by have := HN.out; omega))
     go_wp2
     go_end0
     exact ⟨rfl, ys, HB.out, hL⟩
end Go.Proofs.YtebpacmhdkgfeaaGreat.SortK

namespace Go.Proofs.YtebpacmhdkgfeaaGreat.SortK
open Go.RowKit
variable {α : Type} (E : Enc α) [hsz : SizeT Tryz.prog 46 E.sz]
theorem sortStable (f : Nat) (cb : Array Value) (cf : α → α → Int) (eg : ∀ args w, (callFunc f args).run Tryz.prog w = .ok (.enter f args) w) (ho : Stab.Ord (ltf cf)) (w : World) (base g n c : Nat) (xs : List α) (hcmp : CmpOk E f cb cf w g) (h : Own E w base g n c xs) (hn : n = xs.length) (hmax : n ≤ 1000000000) :
  Calls Tryz.prog 87 #[.slice (some ⟨g, 0, none⟩) n c, .func (.func f) #[] cb] w fun e w' => e = .returned (.tuple #[]) ∧ ∃ L, Stab.Of (ltf cf) xs L ∧ Loc w (· = g) w' [it E base g n c L] := by
 have hq := hide (stable E f cb cf eg ho w base g n c xs hcmp h hn hmax)
 clear h hn hcmp
 go_enter Tryz.func87, Tryz.ntmps87
 go_wp2_with (go_at_call 165; (with_reducible refine (unhide hq).mono ?_); rintro _ w2 ⟨rfl, L, hO, hL⟩)
 go_end0
 exact ⟨rfl, L, hO, hL⟩
theorem insertionNil (w : World) (fv : Value) : Calls Tryz.prog 199 #[.slice none 0 0, .int .i64 0, .int .i64 0, fv] w fun e w' => e = .returned (.tuple #[]) ∧ w' = w := by
 go_enter Tryz.func199, Tryz.ntmps199
 go_wp2
 go_loopw [8] (fun iv wr => iv = .int .i64 1 ∧ wr = w) (fun _ _ => 0)
 case atStart => exact ⟨rfl, rfl⟩
 case round =>
  obtain ⟨rfl, rfl⟩ := hrel
  have t0 : decide ((1 : Int) < 0) = false := by decide
  go_wp2
  go_end0
  exact ⟨rfl, rfl⟩
end Go.Proofs.YtebpacmhdkgfeaaGreat.SortK
