/- Texts laid together: SortEv5, SortEv6, SortEv7, SortEv8, SortEv9, QTail, Two, Stab5, Stab6, Sto5. -/
import Derived.Test.YtebpacmhdkgfeaaDoorLi4
import Derived.StillTail
import Derived.Deep.Quiet
/- slices.SortStableFunc at []crannog/api.Event: printed by gen_sort.py. -/
namespace Go.Proofs.YtebpacmhdkgfeaaDoor.SortEv
open Go.RowKit

variable {α : Type} (E : Enc α) [hsz : SizeT Tryd.prog 31 E.sz]

set_option maxRecDepth 100000 in
set_option maxHeartbeats 8000000 in
theorem sym_right (f : Nat) (cb : Array Value) (cf : α → α → Int) (eg : ∀ args w, (callFunc f args).run Tryd.prog w = .ok (.enter f args) w) (ho : Stab.Ord (ltf cf)) (w : World) (base g n c a m : Nat) (y : α) (P A R : List α) (hcmp : CmpOk E f cb cf w g) (h : Own E w base g n c (P ++ A ++ [y] ++ R)) (hn : n = (P ++ A ++ [y] ++ R).length) (ha : a = P.length) (hm : m = a + A.length) (hA1 : A.length ≠ 1) (hsA : Stab.Sorted (ltf cf) A) (hmax : n ≤ 1000000000) :
    Calls Tryd.prog 63 #[.slice (some ⟨g, 0, none⟩) n c, .int .i64 a, .int .i64 m, .int .i64 ((m + 1 : Nat) : Int), .func (.func f) #[] cb] w (Merged E (ltf cf) w base g n c P A [y] R) := by
  have hL := openR E h
  have HN := Lib.hid (show n = P.length + A.length + 1 + R.length ∧ a = P.length ∧ m = a + A.length from ⟨by rw [hn]; simp; omega, ha, hm⟩)
  have HS := Lib.hid hsA
  have ha9 : a ≤ m := by have := HN.out; omega
  have hm9 : m + 1 ≤ n := by have := HN.out; omega
  have HC := hide hcmp
  have tA : ((m : Int) - (a : Int) == 1) = false := by rw [beq_eq_false_iff_ne]; omega
  have tB : ((m : Int) + 1 - (m : Int) == 1) = true := by simp; omega
  clear h hn ha hm hcmp hsA hA1
  go_enter Tryd.func63, Tryd.ntmps63
  go_wp2
  go_loopw [14, 15, 16] (fun iv jv hv wr => ∃ (A1 A2 A3 : List α) (i j : Nat), iv = .int .i64 i ∧ jv = .int .i64 j ∧ Hid (A = A1 ++ A2 ++ A3 ∧ i = a + A1.length ∧ j = i + A2.length ∧ (∀ z ∈ A1, ltf cf y z = false) ∧ ∀ z ∈ A3, ltf cf y z = true) ∧ Loc w (· = g) wr [it E base g n c (P ++ A ++ [y] ++ R)]) (fun iv jv _ _ => (intOf jv).toNat - (intOf iv).toNat)
  case atStart => exact ⟨[], A, [], a, m, rfl, rfl, Lib.hid ⟨by simp, by simp, by have := HN.out; omega, by simp, by simp⟩, hL⟩
  case round =>
    clear hL
    obtain ⟨A1, A2, A3, i, j, rfl, rfl, HI, hL⟩ := hrel
    have hjm : j ≤ m := by have h1 := HI.out; have h2 := HN.out; have h3 := congrArg List.length h1.1; simp at h3; omega
    by_cases hlt : i < j
    · have t0 : decide ((i : Int) < (j : Int)) = true := by simp; omega
      obtain ⟨hm, hhm, hb1, hb2⟩ : ∃ hm : Nat, ((i : Int) + (j : Int)) / 2 = (hm : Int) ∧ i ≤ hm ∧ hm < j := ⟨(i + j) / 2, by omega, by omega, by omega⟩
      obtain ⟨A2a, z, A2b, H2⟩ : ∃ A2a z A2b, Hid (A2 = A2a ++ z :: A2b ∧ A2a.length = hm - i) := by
        obtain ⟨z, hz⟩ : ∃ z, A2[hm - i]? = some z := ⟨_, List.getElem?_eq_getElem (by have := HI.out; omega)⟩
        exact ⟨A2.take (hm - i), z, A2.drop (hm - i + 1), Lib.hid ⟨by rw [← Stab.drop_cons' hz, List.take_append_drop], by rw [List.length_take]; have := HI.out; omega⟩⟩
      have HX : Hid (A = A1 ++ A2a ++ z :: (A2b ++ A3)) := Lib.hid (by rw [HI.out.1, H2.out.1]; simp)
      have hy1 : (P ++ A ++ [y] ++ R)[m]? = some y := by
        have h1 := HN.out
        have hl : m = (P ++ A).length := by simp; omega
        rw [List.append_assoc, hl, List.getElem?_append_right (Nat.le_refl _), Nat.sub_self]; rfl
      have hy2 : (P ++ A ++ [y] ++ R)[hm]? = some z := by
        have h1 := HN.out; have h2 := HI.out; have h3 := H2.out
        rw [HX.out, show P ++ (A1 ++ A2a ++ z :: (A2b ++ A3)) ++ [y] ++ R = (P ++ A1 ++ A2a) ++ z :: (A2b ++ A3 ++ [y] ++ R) from by simp]
        have hl : hm = (P ++ A1 ++ A2a).length := by simp; omega
        rw [hl]; simp
      have hsrt : (∀ u ∈ A1 ++ A2a, ltf cf z u = false) ∧ (∀ u ∈ A2b ++ A3, ltf cf u z = false) := by
        have h1 := HS.out
        rw [HX.out] at h1
        have h2 := List.pairwise_append.1 h1
        exact ⟨fun u hu => h2.2.2 u hu z (.head _), fun u hu => (List.pairwise_cons.1 h2.2.1).1 u hu⟩
      have hmn : hm < n := by omega
      have hcq := fun w (hb : Below _ _ w) => unhide HC y z w (hL.mod.trans (Mod.of_below (M := NoM) hb) fun _ _ e => e.elim)
      generalize P ++ A ++ [y] ++ R = xs at *
      by_cases hc : cf y z < 0
      · have t2 : decide (cf y z < 0) = true := by simpa using hc
        go_wp2_with fail
        (try simp only [Act.put, List.setIfInBounds_toArray, List.set_cons_succ, List.set_cons_zero])
        refine wp_region_ext (by kernel_rfl) (by kernel_rfl) ?_
        repeat (first
                | (go_big_quiet_want; (first | refine quiet_indexRow E rfl (by rfl) (by rfl) (by omega) ?_ | refine quiet_loadRow (E := E) hL (.head _) rfl (by rfl) hy1 ?_ | refine quiet_loadRow (E := E) hL (.head _) rfl (by rfl) hy2 ?_); go_big_quiet_on; simp only [Act.put, List.setIfInBounds_toArray, List.set_cons_succ, List.set_cons_zero])
                | go_big_quiet_step (first | (go_at_fn f; exact calls_ext (hcq _ (Ext.ok _)))))
        refine wpQuiet_nil ?_
        rintro _ ⟨⟨wC, hbC⟩, rfl⟩
        have hL := hL.call hbC
        clear hbC hcq
        go_wp2
        go_roundw
        case rel =>
          refine ⟨A1, A2a, z :: (A2b ++ A3), i, hm, rfl, rfl, Lib.hid ⟨by first | (rw [HX.out]; done) | (rw [HX.out]; simp), HI.out.2.1, ?_, HI.out.2.2.2.1, fun u hu => ?_⟩, hL⟩
          · have h3 := H2.out; omega
          · rcases List.mem_cons.1 hu with rfl | hu
            · exact t2
            · exact ho.lt_le t2 (hsrt.2 u hu)
        case measure => simp [intOf]; omega
      · have t2 : decide (cf y z < 0) = false := by simpa using hc
        go_wp2_with fail
        (try simp only [Act.put, List.setIfInBounds_toArray, List.set_cons_succ, List.set_cons_zero])
        refine wp_region_ext (by kernel_rfl) (by kernel_rfl) ?_
        repeat (first
                | (go_big_quiet_want; (first | refine quiet_indexRow E rfl (by rfl) (by rfl) (by omega) ?_ | refine quiet_loadRow (E := E) hL (.head _) rfl (by rfl) hy1 ?_ | refine quiet_loadRow (E := E) hL (.head _) rfl (by rfl) hy2 ?_); go_big_quiet_on; simp only [Act.put, List.setIfInBounds_toArray, List.set_cons_succ, List.set_cons_zero])
                | go_big_quiet_step (first | (go_at_fn f; exact calls_ext (hcq _ (Ext.ok _)))))
        refine wpQuiet_nil ?_
        rintro _ ⟨⟨wC, hbC⟩, rfl⟩
        have hL := hL.call hbC
        clear hbC hcq
        go_wp2
        refine ⟨?_, ?measure⟩
        iterate 27 (apply Exists.intro)
        refine ⟨?rel, rfl⟩
        case rel =>
          refine ⟨A1 ++ A2a ++ [z], A2b, A3, hm + 1, j, by go_num, rfl, Lib.hid ⟨by rw [HX.out]; simp, ?_, ?_, fun u hu => ?_, HI.out.2.2.2.2⟩, hL⟩
          · have h2 := HI.out; have h3 := H2.out; simp; omega
          · have h2 := HI.out; have h3 := H2.out; have h4 := congrArg List.length h3.1; simp at h4; omega
          · rcases List.mem_append.1 hu with hu | hu
            · exact ho.le_trans (hsrt.1 u hu) t2
            · rw [List.mem_singleton.1 hu]; exact t2
        case measure => simp [intOf]; omega
    · have hij : j = i := by have := HI.out; omega
      subst hij
      have t0 : decide ((j : Int) < (j : Int)) = false := by simp
      have HB : Hid (A = A1 ++ A3 ∧ j = a + A1.length ∧ Stab.Of (ltf cf) (A ++ [y]) (A1 ++ y :: A3)) := Lib.hid (by
        have h1 := HI.out
        have h2 : A2 = [] := List.eq_nil_of_length_eq_zero (by omega)
        have h3 : A = A1 ++ A3 := by rw [h1.1, h2]; simp
        refine ⟨h3, h1.2.1, ?_⟩
        have h4 := HS.out
        rw [h3] at h4 ⊢
        exact Stab.one_right ho h4 h1.2.2.2.1 h1.2.2.2.2)
      rw [show P ++ A ++ [y] ++ R = P ++ (A1 ++ A3 ++ y :: []) ++ R from by rw [HB.out.1]; simp] at hL
      have HM0 : Hid (m = j + A3.length) := Lib.hid (by have h1 := HB.out; have h2 := HN.out; have h3 := congrArg List.length h1.1; simp at h3; omega)
      clear HI
      go_wp2
      go_loopw [17] (fun kv wr => ∃ (C1 C2 : List α) (k : Nat), kv = .int .i64 k ∧ Hid (A3 = C1 ++ C2 ∧ k = j + C1.length) ∧ Loc w (· = g) wr [it E base g n c (P ++ (A1 ++ C1 ++ y :: C2) ++ R)]) (fun kv _ => (intOf kv).toNat)
      case atStart => exact ⟨A3, [], m, rfl, Lib.hid ⟨by simp, HM0.out⟩, hL⟩
      case round =>
        clear hL
        obtain ⟨C1, C2, k, rfl, HI, hL⟩ := hrel
        rcases Stab.nil_or_snoc C1 with rfl | ⟨C1', z, rfl⟩
        · have hkj : k = j := by have := HI.out; simp at this; omega
          subst hkj
          have t1 : decide ((k : Int) < (k : Int)) = false := by simp
          have HF : Hid (C2 = A3) := Lib.hid (by have := HI.out; simpa using this.1.symm)
          rw [HF.out] at hL
          go_wp2
          go_end0
          refine ⟨rfl, _, HB.out.2.2, ?_⟩
          have e : P ++ (A1 ++ [] ++ y :: A3) ++ R = P ++ (A1 ++ y :: A3) ++ R := by simp
          rw [← e]
          exact hL
        · obtain ⟨jp, rfl⟩ : ∃ jp, k = jp + 1 := ⟨k - 1, by have := HI.out; simp at this; omega⟩
          have hjp : j ≤ jp ∧ jp + 1 < n := by
            have h1 := HI.out; have h5 := HM0.out; have h3 := congrArg List.length h1.1
            simp at h1 h3; omega
          obtain ⟨hj1, hj2⟩ := hjp
          have t1 : decide ((j : Int) < (jp : Int) + 1) = true := by simp; omega
          obtain ⟨q1, q2, -⟩ := Stab.exch_at (P ++ A1 ++ C1') [] (C2 ++ R) z y
          have q3 := Stab.exch_at' (P ++ A1 ++ C1') [] (C2 ++ R) z y
          have hpl : (P ++ A1 ++ C1').length = jp := by have h1 := HI.out; have h2 := HN.out; have h3 := HB.out; simp at h1 ⊢; omega
          simp only [List.nil_append, List.length_nil, Nat.add_zero, hpl] at q1 q2 q3
          have e0 : P ++ (A1 ++ (C1' ++ [z]) ++ y :: C2) ++ R = P ++ A1 ++ C1' ++ z :: y :: (C2 ++ R) := by simp
          rw [e0] at hL
          have HE9 := Lib.hid (show P ++ A1 ++ C1' ++ y :: z :: (C2 ++ R) = P ++ (A1 ++ C1' ++ y :: (z :: C2)) ++ R from by simp)
          clear hpl e0
          generalize P ++ A1 ++ C1' ++ z :: y :: (C2 ++ R) = xs at *
          go_wp2_with fail
          refine region_any (by kernel_rfl) hL ?_
          clear hL
          intro wR hL _ _
          refine wpAny_takeN (i := 0) (by repeat (first | exact .zero _ _ | with_reducible apply Nth.succ)) (by kernel_rfl) (by kernel_rfl) (by kernel_rfl) (by exact fun _ _ _ h => h) (y_move (.slice (some ⟨g, 0, none⟩) n c) rfl rfl (by rfl)) ?_
          refine wpAny_takeN (i := 1) (by repeat (first | exact .zero _ _ | with_reducible apply Nth.succ)) (by kernel_rfl) (by kernel_rfl) (by kernel_rfl) (by exact fun _ _ _ h => h) (y_move (.int .i64 ((jp + 1 : Nat) : Int)) rfl rfl (by rfl)) ?_
          refine wpAny_takeN (i := 2) (by repeat (first | exact .zero _ _ | with_reducible apply Nth.succ)) (by kernel_rfl) (by kernel_rfl) (by kernel_rfl) (by exact fun _ _ _ h => h) (y_move (.slice (some ⟨g, 0, none⟩) n c) rfl rfl (by rfl)) ?_
          refine wpAny_takeN (i := 3) (by repeat (first | exact .zero _ _ | with_reducible apply Nth.succ)) (by kernel_rfl) (by kernel_rfl) (by kernel_rfl) (by exact fun _ _ _ h => h) (y_move (.int .i64 ((jp + 1 : Nat) : Int)) rfl rfl (by rfl)) ?_
          refine wpAny_takeN (i := 4) (by repeat (first | exact .zero _ _ | with_reducible apply Nth.succ)) (by kernel_rfl) (by kernel_rfl) (by kernel_rfl) (by exact fun _ _ _ h => h) (y_sub (jp + 1) (1) rfl rfl (by rfl) (by rfl) (by omega) (by omega)) ?_
          refine wpAny_takeN (i := 5) (by repeat (first | exact .zero _ _ | with_reducible apply Nth.succ)) (by kernel_rfl) (by kernel_rfl) (by kernel_rfl) (by exact fun _ _ _ h => h) (y_move (.slice (some ⟨g, 0, none⟩) n c) rfl rfl (by rfl)) ?_
          (try simp only [Act.put, List.setIfInBounds_toArray, List.set_cons_succ, List.set_cons_zero])
          refine wpAny_takeN (i := 6) (by repeat (first | exact .zero _ _ | with_reducible apply Nth.succ)) (by kernel_rfl) (by kernel_rfl) (by kernel_rfl) (by exact fun _ _ _ h => h) (y_move (.int .i64 ((jp + 1 : Nat) : Int)) rfl rfl (by rfl)) ?_
          refine wpAny_takeN (i := 7) (by repeat (first | exact .zero _ _ | with_reducible apply Nth.succ)) (by kernel_rfl) (by kernel_rfl) (by kernel_rfl) (by exact fun _ _ _ h => h) (y_sub (jp + 1) (1) rfl rfl (by rfl) (by rfl) (by omega) (by omega)) ?_
          refine wpAny_takeN (i := 8) (by repeat (first | exact .zero _ _ | with_reducible apply Nth.succ)) (by kernel_rfl) (by kernel_rfl) (by kernel_rfl) (by exact fun _ _ _ h => h) (y_index E (jp) rfl rfl (by rfl) (by rfl) (by omega)) ?_
          refine wpAny_takeN (i := 10) (by repeat (first | exact .zero _ _ | with_reducible apply Nth.succ)) (by kernel_rfl) (by kernel_rfl) (by kernel_rfl) (by exact fun _ _ _ h => h) (y_move (.slice (some ⟨g, 0, none⟩) n c) rfl rfl (by rfl)) ?_
          refine wpAny_takeN (i := 11) (by repeat (first | exact .zero _ _ | with_reducible apply Nth.succ)) (by kernel_rfl) (by kernel_rfl) (by kernel_rfl) (by exact fun _ _ _ h => h) (y_move (.int .i64 ((jp + 1 : Nat) : Int)) rfl rfl (by rfl)) ?_
          refine wpAny_takeN (i := 12) (by repeat (first | exact .zero _ _ | with_reducible apply Nth.succ)) (by kernel_rfl) (by kernel_rfl) (by kernel_rfl) (by exact fun _ _ _ h => h) (y_index E (jp + 1) rfl rfl (by rfl) (by rfl) (by omega)) ?_
          (try simp only [Act.put, List.setIfInBounds_toArray, List.set_cons_succ, List.set_cons_zero])
          (try simp only [Act.put, List.setIfInBounds_toArray, List.set_cons_succ, List.set_cons_zero])
          refine wpAny_loads (E := E) (ix := jp + 1) (jx := jp) (i := 9) (j := 13) (by repeat (first | exact .zero _ _ | with_reducible apply Nth.succ)) (by repeat (first | exact .zero _ _ | with_reducible apply Nth.succ)) rfl rfl (by kernel_rfl) (by kernel_rfl) (by kernel_rfl) (by decide) rfl rfl rfl rfl (by decide) hL (.head _) (by rfl) (by rfl) q1 q2 ?_
          (try simp only [Act.put, List.setIfInBounds_toArray, List.set_cons_succ, List.set_cons_zero])
          refine wpAny_drop 14 (by rfl) (by kernel_rfl) ?_
          simp only [List.drop_succ_cons, List.drop_zero]
          (try simp only [Act.put, List.setIfInBounds_toArray, List.set_cons_succ, List.set_cons_zero])
          refine event rfl (run_indexRow (E := E) (i := jp + 1) rfl (by rfl) (by rfl) (by omega) _) ?_
          (try simp only [Act.put, List.setIfInBounds_toArray, List.set_cons_succ, List.set_cons_zero])
          refine ev_setRow (E := E) (jp + 1) z rfl hL rfl (by rfl) rfl (by rfl) ⟨rfl, E.one _⟩ (List.getElem?_eq_some_iff.1 q2).1 (.here _) ?_
          clear hL
          intro wS hL
          (try simp only [Act.put, List.setIfInBounds_toArray, List.set_cons_succ, List.set_cons_zero])
          refine event rfl (run_indexRow (E := E) (i := jp) rfl (by rfl) (by rfl) (by omega) _) ?_
          (try simp only [Act.put, List.setIfInBounds_toArray, List.set_cons_succ, List.set_cons_zero])
          refine ev_setRow (E := E) (jp) y rfl hL rfl (by rfl) rfl (by rfl) ⟨rfl, E.one _⟩ (by rw [List.length_set]; exact (List.getElem?_eq_some_iff.1 q1).1) (.here _) ?_
          clear hL
          intro wS hL
          (try simp only [Act.put, List.setIfInBounds_toArray, List.set_cons_succ, List.set_cons_zero])
          rw [q3, HE9.out] at hL
          go_wp2
          go_roundw
          case rel => exact ⟨C1', z :: C2, jp, rfl, Lib.hid ⟨by rw [HI.out.1]; simp, by have := HI.out; simp at this; omega⟩, hL⟩
          case measure => simp [intOf]
end Go.Proofs.YtebpacmhdkgfeaaDoor.SortEv

/- slices.SortStableFunc at []crannog/api.Event: printed by gen_sort.py. -/
namespace Go.Proofs.YtebpacmhdkgfeaaDoor.SortEv
open Go.RowKit

variable {α : Type} (E : Enc α) [hsz : SizeT Tryd.prog 31 E.sz]

/-- What is asked of a merge of at most N elements. -/
def SymAt (f : Nat) (cb : Array Value) (cf : α → α → Int) (base g n c N : Nat) : Prop := ∀ (w : World) (a m b : Nat) (P A B R : List α), A.length + B.length ≤ N → A ≠ [] → B ≠ [] → CmpOk E f cb cf w g → Own E w base g n c (P ++ A ++ B ++ R) → n = (P ++ A ++ B ++ R).length → a = P.length → m = a + A.length → b = m + B.length → Stab.Sorted (ltf cf) A → Stab.Sorted (ltf cf) B →
    Calls Tryd.prog 63 #[.slice (some ⟨g, 0, none⟩) n c, .int .i64 a, .int .i64 m, .int .i64 b, .func (.func f) #[] cb] w (Merged E (ltf cf) w base g n c P A B R)
set_option maxRecDepth 100000 in
set_option maxHeartbeats 16000000 in
theorem sym_step (f : Nat) (cb : Array Value) (cf : α → α → Int) (eg : ∀ args w, (callFunc f args).run Tryd.prog w = .ok (.enter f args) w) (ho : Stab.Ord (ltf cf)) (base g n c N : Nat) (hmax : n ≤ 1000000000) (IH : Hid (SymAt E f cb cf base g n c N)) (w : World) (a m b : Nat) (P A B R : List α) (hN : A.length + B.length ≤ N + 1) (hA : 1 < A.length) (hB : 1 < B.length) (hcmp : CmpOk E f cb cf w g) (h : Own E w base g n c (P ++ A ++ B ++ R)) (hn : n = (P ++ A ++ B ++ R).length) (ha : a = P.length) (hm : m = a + A.length) (hb : b = m + B.length) (hsA : Stab.Sorted (ltf cf) A) (hsB : Stab.Sorted (ltf cf) B) :
    Calls Tryd.prog 63 #[.slice (some ⟨g, 0, none⟩) n c, .int .i64 a, .int .i64 m, .int .i64 b, .func (.func f) #[] cb] w (Merged E (ltf cf) w base g n c P A B R) := by
  have hL := openR E h
  have HN := Lib.hid (show n = P.length + A.length + B.length + R.length ∧ a = P.length ∧ m = a + A.length ∧ b = m + B.length from ⟨by rw [hn]; simp; omega, ha, hm, hb⟩)
  have HS := Lib.hid (And.intro hsA (And.intro hsB (And.intro hA (And.intro hB hN))))
  have HC := hide hcmp
  obtain ⟨mid, hmid, hmb⟩ : ∃ mid : Nat, ((a : Int) + (b : Int)) / 2 = (mid : Int) ∧ mid < b := ⟨(a + b) / 2, by omega, by omega⟩
  obtain ⟨nn, hnn⟩ : ∃ nn : Nat, (mid : Int) + (m : Int) = (nn : Int) := ⟨mid + m, by omega⟩
  obtain ⟨p, hp⟩ : ∃ p : Nat, (nn : Int) - 1 = (p : Int) := ⟨nn - 1, by omega⟩
  have HE0 := Lib.hid (show a + 1 ≤ mid ∧ mid + 1 ≤ b ∧ nn = mid + m ∧ nn = p + 1 ∧ 2 * mid ≤ a + b ∧ a + b ≤ 2 * mid + 1 ∧ A.length + B.length ≤ N + 1 ∧ 1 < A.length ∧ 1 < B.length from by omega)
  have hb9 : b ≤ n := by have := HN.out; omega
  have hm9 : m ≤ n := by have := HN.out; omega
  have ha9 : a ≤ n := by have := HN.out; omega
  have hp9 : nn ≤ n + n := by have := HE0.out; omega
  have hp8 : p ≤ nn := by have := HE0.out; omega
  have tA : ((m : Int) - (a : Int) == 1) = false := by rw [beq_eq_false_iff_ne]; omega
  have tB : ((b : Int) - (m : Int) == 1) = false := by rw [beq_eq_false_iff_ne]; omega
  clear h hn ha hm hb hcmp hsA hsB hA hB hN
  go_enter Tryd.func63, Tryd.ntmps63
  by_cases hmm : mid < m
  · have tM : decide ((mid : Int) < (m : Int)) = true := by simp; omega
    obtain ⟨lo, hlo⟩ : ∃ lo : Nat, (nn : Int) - (b : Int) = (lo : Int) := ⟨nn - b, by have h1 := HN.out; have h2 := HE0.out; omega⟩
    have HK := Lib.hid (show a ≤ lo ∧ lo ≤ mid ∧ mid ≤ m ∧ mid ≤ mid ∧ nn ≤ lo + b ∧ (lo = a ∨ nn = lo + b) ∧ mid < m from by have h1 := HN.out; have h2 := HE0.out; omega)
    go_wp2
    go_loopw [20, 21, 23] (fun sv rv cv wr => ∃ i q : Nat, sv = .int .i64 i ∧ rv = .int .i64 q ∧ Hid (lo ≤ i ∧ i ≤ q ∧ q ≤ mid ∧ (lo < i → Stab.At (ltf cf) A B (i - 1 - a) (mid - i) false) ∧ (q < mid → Stab.At (ltf cf) A B (q - a) (mid - 1 - q) true)) ∧ Loc w (· = g) wr [it E base g n c (P ++ A ++ B ++ R)]) (fun sv rv _ _ => (intOf rv).toNat - (intOf sv).toNat)
    case atStart => exact ⟨lo, mid, rfl, rfl, Lib.hid ⟨Nat.le_refl _, HK.out.2.1, Nat.le_refl _, fun h => absurd h (Nat.lt_irrefl _), fun h => absurd h (Nat.lt_irrefl _)⟩, hL⟩
    case round =>
      clear hL
      obtain ⟨i, q, rfl, rfl, HI, hL⟩ := hrel
      have hqm : q ≤ m := by have h1 := HI.out; have h2 := HK.out; omega
      by_cases hlt : i < q
      · have t0 : decide ((i : Int) < (q : Int)) = true := by simp; omega
        obtain ⟨k, hhm, hb1, hb2⟩ : ∃ k : Nat, ((i : Int) + (q : Int)) / 2 = (k : Int) ∧ i ≤ k ∧ k < q := ⟨(i + q) / 2, by omega, by omega, by omega⟩
        obtain ⟨u, hu, hub⟩ : ∃ u : Nat, (p : Int) - (k : Int) = (u : Int) ∧ u < b := ⟨p - k, by have h1 := HI.out; have h2 := HK.out; have h3 := HE0.out; omega, by have h1 := HI.out; have h2 := HK.out; have h3 := HE0.out; omega⟩
        have hkn : k < n := by have h2 := HN.out; omega
        have HKU : Hid (u = m + (mid - 1 - k) ∧ mid - 1 - k < B.length ∧ k < mid ∧ a ≤ k ∧ k - a < A.length) := Lib.hid (by have h1 := HI.out; have h2 := HK.out; have h3 := HN.out; have h4 := HE0.out; omega)
        obtain ⟨y, hy⟩ : ∃ y, B[mid - 1 - k]? = some y := ⟨_, List.getElem?_eq_getElem HKU.out.2.1⟩
        obtain ⟨z, hz⟩ : ∃ z, A[k - a]? = some z := ⟨_, List.getElem?_eq_getElem HKU.out.2.2.2.2⟩
        have HZ := Lib.hid (And.intro hy hz)
        have hy1 : (P ++ A ++ B ++ R)[u]? = some y := by
          have h3 := HN.out; have h4 := HKU.out
          rw [List.getElem?_append_left (by simp; omega), List.getElem?_append_right (by simp; omega), ← hy]
          congr 1; simp; omega
        have hy2 : (P ++ A ++ B ++ R)[k]? = some z := by
          have h3 := HN.out; have h4 := HKU.out
          rw [List.append_assoc, List.append_assoc, List.getElem?_append_right (by omega), List.getElem?_append_left (by omega), ← hz]
          congr 1; omega
        clear hy hz
        have hcq := fun w (hb : Below _ _ w) => unhide HC y z w (hL.mod.trans (Mod.of_below (M := NoM) hb) fun _ _ e => e.elim)
        generalize P ++ A ++ B ++ R = xs at *
        by_cases hc : cf y z < 0
        · have t2 : decide (cf y z < 0) = true := by simpa using hc
          have HA : Hid (Stab.At (ltf cf) A B (k - a) (mid - 1 - k) true) := Lib.hid (fun x' y' hx hy => by
            have h1 := HZ.out
            rw [h1.2] at hx; rw [h1.1] at hy
            cases hx; cases hy; exact t2)
          go_wp2_with fail
          (try simp only [Act.put, List.setIfInBounds_toArray, List.set_cons_succ, List.set_cons_zero])
          refine wp_region_ext (by kernel_rfl) (by kernel_rfl) ?_
          repeat (first
                  | (go_big_quiet_want; (first | refine quiet_indexRow E rfl (by rfl) (by rfl) (by omega) ?_ | refine quiet_loadRow (E := E) hL (.head _) rfl (by rfl) hy1 ?_ | refine quiet_loadRow (E := E) hL (.head _) rfl (by rfl) hy2 ?_); go_big_quiet_on; simp only [Act.put, List.setIfInBounds_toArray, List.set_cons_succ, List.set_cons_zero])
                  | go_big_quiet_step (first | (go_at_fn f; exact calls_ext (hcq _ (Ext.ok _)))))
          refine wpQuiet_nil ?_
          rintro _ ⟨⟨wC, hbC⟩, rfl⟩
          have hL := hL.call hbC
          clear hbC hcq
          go_wp2
          first | go_roundw | (refine ⟨?_, ?measure⟩; iterate 18 (apply Exists.intro); refine ⟨?rel, rfl⟩) | (refine ⟨?_, ?measure⟩; iterate 19 (apply Exists.intro); refine ⟨?rel, rfl⟩) | (refine ⟨?_, ?measure⟩; iterate 20 (apply Exists.intro); refine ⟨?rel, rfl⟩) | (refine ⟨?_, ?measure⟩; iterate 21 (apply Exists.intro); refine ⟨?rel, rfl⟩) | (refine ⟨?_, ?measure⟩; iterate 22 (apply Exists.intro); refine ⟨?rel, rfl⟩) | (refine ⟨?_, ?measure⟩; iterate 23 (apply Exists.intro); refine ⟨?rel, rfl⟩) | (refine ⟨?_, ?measure⟩; iterate 24 (apply Exists.intro); refine ⟨?rel, rfl⟩) | (refine ⟨?_, ?measure⟩; iterate 25 (apply Exists.intro); refine ⟨?rel, rfl⟩) | (refine ⟨?_, ?measure⟩; iterate 26 (apply Exists.intro); refine ⟨?rel, rfl⟩) | (refine ⟨?_, ?measure⟩; iterate 27 (apply Exists.intro); refine ⟨?rel, rfl⟩) | (refine ⟨?_, ?measure⟩; iterate 28 (apply Exists.intro); refine ⟨?rel, rfl⟩) | (refine ⟨?_, ?measure⟩; iterate 29 (apply Exists.intro); refine ⟨?rel, rfl⟩) | (refine ⟨?_, ?measure⟩; iterate 30 (apply Exists.intro); refine ⟨?rel, rfl⟩) | (refine ⟨?_, ?measure⟩; iterate 31 (apply Exists.intro); refine ⟨?rel, rfl⟩) | (refine ⟨?_, ?measure⟩; iterate 32 (apply Exists.intro); refine ⟨?rel, rfl⟩) | (refine ⟨?_, ?measure⟩; iterate 33 (apply Exists.intro); refine ⟨?rel, rfl⟩) | (refine ⟨?_, ?measure⟩; iterate 34 (apply Exists.intro); refine ⟨?rel, rfl⟩) | (refine ⟨?_, ?measure⟩; iterate 35 (apply Exists.intro); refine ⟨?rel, rfl⟩) | (refine ⟨?_, ?measure⟩; iterate 36 (apply Exists.intro); refine ⟨?rel, rfl⟩) | (refine ⟨?_, ?measure⟩; iterate 37 (apply Exists.intro); refine ⟨?rel, rfl⟩) | (refine ⟨?_, ?measure⟩; iterate 38 (apply Exists.intro); refine ⟨?rel, rfl⟩) | (refine ⟨?_, ?measure⟩; iterate 39 (apply Exists.intro); refine ⟨?rel, rfl⟩)
          case rel => exact ⟨i, k, rfl, rfl, Lib.hid ⟨HI.out.1, by omega, by have := HI.out; omega, HI.out.2.2.2.1, fun _ => HA.out⟩, hL⟩
          case measure => simp [intOf]; omega
        · have t2 : decide (cf y z < 0) = false := by simpa using hc
          have HA : Hid (Stab.At (ltf cf) A B (k + 1 - 1 - a) (mid - (k + 1)) false) := Lib.hid (fun x' y' hx hy => by
            have h1 := HZ.out
            rw [show k + 1 - 1 - a = k - a from by omega, h1.2] at hx; rw [show mid - (k + 1) = mid - 1 - k from by omega, h1.1] at hy
            cases hx; cases hy; exact t2)
          go_wp2_with fail
          (try simp only [Act.put, List.setIfInBounds_toArray, List.set_cons_succ, List.set_cons_zero])
          refine wp_region_ext (by kernel_rfl) (by kernel_rfl) ?_
          repeat (first
                  | (go_big_quiet_want; (first | refine quiet_indexRow E rfl (by rfl) (by rfl) (by omega) ?_ | refine quiet_loadRow (E := E) hL (.head _) rfl (by rfl) hy1 ?_ | refine quiet_loadRow (E := E) hL (.head _) rfl (by rfl) hy2 ?_); go_big_quiet_on; simp only [Act.put, List.setIfInBounds_toArray, List.set_cons_succ, List.set_cons_zero])
                  | go_big_quiet_step (first | (go_at_fn f; exact calls_ext (hcq _ (Ext.ok _)))))
          refine wpQuiet_nil ?_
          rintro _ ⟨⟨wC, hbC⟩, rfl⟩
          have hL := hL.call hbC
          clear hbC hcq
          go_wp2
          first | go_roundw | (refine ⟨?_, ?measure⟩; iterate 18 (apply Exists.intro); refine ⟨?rel, rfl⟩) | (refine ⟨?_, ?measure⟩; iterate 19 (apply Exists.intro); refine ⟨?rel, rfl⟩) | (refine ⟨?_, ?measure⟩; iterate 20 (apply Exists.intro); refine ⟨?rel, rfl⟩) | (refine ⟨?_, ?measure⟩; iterate 21 (apply Exists.intro); refine ⟨?rel, rfl⟩) | (refine ⟨?_, ?measure⟩; iterate 22 (apply Exists.intro); refine ⟨?rel, rfl⟩) | (refine ⟨?_, ?measure⟩; iterate 23 (apply Exists.intro); refine ⟨?rel, rfl⟩) | (refine ⟨?_, ?measure⟩; iterate 24 (apply Exists.intro); refine ⟨?rel, rfl⟩) | (refine ⟨?_, ?measure⟩; iterate 25 (apply Exists.intro); refine ⟨?rel, rfl⟩) | (refine ⟨?_, ?measure⟩; iterate 26 (apply Exists.intro); refine ⟨?rel, rfl⟩) | (refine ⟨?_, ?measure⟩; iterate 27 (apply Exists.intro); refine ⟨?rel, rfl⟩) | (refine ⟨?_, ?measure⟩; iterate 28 (apply Exists.intro); refine ⟨?rel, rfl⟩) | (refine ⟨?_, ?measure⟩; iterate 29 (apply Exists.intro); refine ⟨?rel, rfl⟩) | (refine ⟨?_, ?measure⟩; iterate 30 (apply Exists.intro); refine ⟨?rel, rfl⟩) | (refine ⟨?_, ?measure⟩; iterate 31 (apply Exists.intro); refine ⟨?rel, rfl⟩) | (refine ⟨?_, ?measure⟩; iterate 32 (apply Exists.intro); refine ⟨?rel, rfl⟩) | (refine ⟨?_, ?measure⟩; iterate 33 (apply Exists.intro); refine ⟨?rel, rfl⟩) | (refine ⟨?_, ?measure⟩; iterate 34 (apply Exists.intro); refine ⟨?rel, rfl⟩) | (refine ⟨?_, ?measure⟩; iterate 35 (apply Exists.intro); refine ⟨?rel, rfl⟩) | (refine ⟨?_, ?measure⟩; iterate 36 (apply Exists.intro); refine ⟨?rel, rfl⟩) | (refine ⟨?_, ?measure⟩; iterate 37 (apply Exists.intro); refine ⟨?rel, rfl⟩) | (refine ⟨?_, ?measure⟩; iterate 38 (apply Exists.intro); refine ⟨?rel, rfl⟩) | (refine ⟨?_, ?measure⟩; iterate 39 (apply Exists.intro); refine ⟨?rel, rfl⟩)
          case rel => exact ⟨k + 1, q, by go_num, rfl, Lib.hid ⟨by have := HI.out; omega, by omega, by have := HI.out; omega, fun _ => HA.out, HI.out.2.2.2.2⟩, hL⟩
          case measure => simp [intOf]; omega
      · have hij : q = i := by have := HI.out; omega
        subst q
        have t0 : decide ((i : Int) < (i : Int)) = false := by simp
        obtain ⟨e, he, hem⟩ : ∃ e : Nat, (nn : Int) - (i : Int) = (e : Int) ∧ e ≤ n := ⟨nn - i, by have h1 := HI.out; have h2 := HK.out; omega, by have h1 := HI.out; have h2 := HK.out; have h3 := HN.out; omega⟩
        obtain ⟨A1, A2, B1, B2, HS4⟩ : ∃ A1 A2 B1 B2, Hid (Stab.SymCut (ltf cf) A B A1 A2 B1 B2 a m b mid e i) := by
          have h1 := HI.out; have h2 := HK.out; have h3 := HN.out; have h4 := HS.out; have h5 := HE0.out
          refine ⟨_, _, _, _, Lib.hid (Stab.symCut ho h4.1 h4.2.1 (by omega) (by omega) h3.2.2.1 h3.2.2.2 (by omega) (by omega) (by omega) (fun h => ?_) (fun h => ?_))⟩
          · by_cases hl : lo < i
            · exact h1.2.2.2.1 hl
            · exact fun x y hx hy => absurd (List.getElem?_eq_some_iff.1 hy).1 (by omega)
          · by_cases hl : i < mid
            · exact h1.2.2.2.2 hl
            · exact fun x y hx hy => absurd (List.getElem?_eq_some_iff.1 hx).1 (by omega)
        have hqR : i < m → i < mid → ∀ w, Own E w base g n c (P ++ A1 ++ A2 ++ B1 ++ (B2 ++ R)) → Hid (Calls Tryd.prog 71 #[.slice (some ⟨g, 0, none⟩) n c, .int .i64 i, .int .i64 m, .int .i64 e, .func (.func f) #[] cb] w fun e w' => e = .returned (.tuple #[]) ∧ Loc w (· = g) w' [it E base g n c (P ++ (A1 ++ B1) ++ (A2 ++ B2 ++ R))]) := fun x1 x2 w h => hide (by
          have h1 := HS4.out.num; have h3 := HN.out
          have hl := congrArg List.length HS4.out.eA; have hl2 := congrArg List.length HS4.out.eB
          simp only [List.length_append] at hl hl2
          have q := rotate E w base g n c i m e (.func (.func f) #[] cb) (P ++ A1) A2 B1 (B2 ++ R) h (by simp; omega) (by simp; omega) (by omega) (by omega) (by rintro rfl; simp at h1; omega) (by rintro rfl; simp at h1; omega) hmax
          rw [show P ++ A1 ++ B1 ++ A2 ++ (B2 ++ R) = P ++ (A1 ++ B1) ++ (A2 ++ B2 ++ R) from by simp] at q
          exact q)
        have hq1 : a < i → i < mid → ∀ w', Loc w (· = g) w' [it E base g n c (P ++ (A1 ++ B1) ++ (A2 ++ B2 ++ R))] → Hid (Calls Tryd.prog 63 #[.slice (some ⟨g, 0, none⟩) n c, .int .i64 a, .int .i64 i, .int .i64 mid, .func (.func f) #[] cb] w' (Merged E (ltf cf) w' base g n c P A1 B1 (A2 ++ B2 ++ R))) := fun x1 x2 w' h => hide (by
          have h1 := HS4.out.num; have h3 := HN.out; have h4 := HS4.out.s
          have hl := congrArg List.length HS4.out.eA; have hl2 := congrArg List.length HS4.out.eB
          simp only [List.length_append] at hl hl2
          refine unhide IH w' a i mid P A1 B1 (A2 ++ B2 ++ R) (by have := HE0.out; omega) (by rintro rfl; simp at h1; omega) (by rintro rfl; simp at h1; omega) ((unhide HC).next h.mod) ?_ (by simp; omega) h3.2.1 (by omega) (by omega) h4.1 h4.2.1
          have q := ofR E h
          rw [show P ++ (A1 ++ B1) ++ (A2 ++ B2 ++ R) = P ++ A1 ++ B1 ++ (A2 ++ B2 ++ R) from by simp] at q
          exact q)
        have hq2 : i < m → e < b → ∀ w' L, Hid (Stab.Of (ltf cf) (A1 ++ B1) L) → Loc w (· = g) w' [it E base g n c (P ++ L ++ (A2 ++ B2 ++ R))] → Hid (Calls Tryd.prog 63 #[.slice (some ⟨g, 0, none⟩) n c, .int .i64 mid, .int .i64 e, .int .i64 b, .func (.func f) #[] cb] w' (Merged E (ltf cf) w' base g n c (P ++ L) A2 B2 R)) := fun x1 x2 w' L HO h => hide (by
          have h1 := HS4.out.num; have h3 := HN.out; have h4 := HS4.out.s
          have hl := congrArg List.length HS4.out.eA; have hl2 := congrArg List.length HS4.out.eB
          have hl3 := HO.out.perm.length_eq
          simp only [List.length_append] at hl hl2 hl3
          refine unhide IH w' mid e b (P ++ L) A2 B2 R (by have := HE0.out; omega) (by rintro rfl; simp at h1; omega) (by rintro rfl; simp at h1; omega) ((unhide HC).next h.mod) ?_ (by simp; omega) (by simp; omega) (by omega) (by omega) h4.2.2.1 h4.2.2.2
          have q := ofR E h
          rw [show P ++ L ++ (A2 ++ B2 ++ R) = P ++ L ++ A2 ++ B2 ++ R from by simp] at q
          exact q)
        rw [show P ++ A ++ B ++ R = P ++ A1 ++ A2 ++ B1 ++ (B2 ++ R) from by rw [HS4.out.eA, HS4.out.eB]; simp] at hL
        have hib : i ≤ n ∧ e ≤ n ∧ mid ≤ n := by have h1 := HS4.out.num; have h3 := HN.out; omega
        clear HI hlt
        rcases Nat.lt_or_ge i m with x1 | x1 <;> rcases Nat.lt_or_ge i mid with x2 | x2 <;> rcases Nat.lt_or_ge a i with x3 | x3 <;> rcases Nat.lt_or_ge e b with x4 | x4
        · have d1 : i < m := by have h1 := HS4.out.num; have h2 := HN.out; omega
          have d2 : m < e := by have h1 := HS4.out.num; have h2 := HN.out; omega
          have d3 : a < i := by have h1 := HS4.out.num; have h2 := HN.out; omega
          have d4 : i < mid := by have h1 := HS4.out.num; have h2 := HN.out; omega
          have d5 : mid < e := by have h1 := HS4.out.num; have h2 := HN.out; omega
          have d6 : e < b := by have h1 := HS4.out.num; have h2 := HN.out; omega
          have hqR := hqR x1 x2
          clear x1 x2 x3 x4
          go_wp2_with (go_at_call 71; (with_reducible refine (unhide (hqR _ (ofR E hL))).mono ?_); rintro _ w2 ⟨rfl, hL2⟩; have hL := hL.overRow hL2; clear hL2 hqR)
          go_wp2_with (go_at_call 63; (with_reducible refine (unhide (hq1 d3 d4 _ hL)).mono ?_); rintro _ w3 ⟨rfl, L, hO1, hL2⟩; have HO1 := Lib.hid hO1; have hL := hL.overRow hL2; clear hL2 hO1 hq1)
          go_wp2_with (go_at_call 63; (with_reducible refine (unhide (hq2 d1 d6 _ L HO1 hL)).mono ?_); rintro _ w4 ⟨rfl, L2, hO2, hL2⟩; have HO2 := Lib.hid hO2; have hL := hL.overRow hL2; clear hL2 hO2 hq2)
          go_end0
          refine ⟨rfl, L ++ L2, HS4.out.cross _ _ HO1.out HO2.out, ?_⟩
          have hz : P ++ L ++ L2 ++ R = P ++ (L ++ L2) ++ R := by simp
          rw [← hz]; exact hL
        · have d1 : i < m := by have h1 := HS4.out.num; have h2 := HN.out; omega
          have d2 : m < e := by have h1 := HS4.out.num; have h2 := HN.out; omega
          have d3 : a < i := by have h1 := HS4.out.num; have h2 := HN.out; omega
          have d4 : i < mid := by have h1 := HS4.out.num; have h2 := HN.out; omega
          have d5 : mid < e := by have h1 := HS4.out.num; have h2 := HN.out; omega
          have d6 : ¬ e < b := by have h1 := HS4.out.num; have h2 := HN.out; omega
          have hqR := hqR x1 x2
          have HO2 := Lib.hid (HS4.out.o2 (Or.inr (List.eq_nil_of_length_eq_zero (by have h1 := HS4.out.num; have h2 := HN.out; omega))))
          clear x1 x2 x3 x4
          go_wp2_with (go_at_call 71; (with_reducible refine (unhide (hqR _ (ofR E hL))).mono ?_); rintro _ w2 ⟨rfl, hL2⟩; have hL := hL.overRow hL2; clear hL2 hqR)
          go_wp2_with (go_at_call 63; (with_reducible refine (unhide (hq1 d3 d4 _ hL)).mono ?_); rintro _ w3 ⟨rfl, L, hO1, hL2⟩; have HO1 := Lib.hid hO1; have hL := hL.overRow hL2; clear hL2 hO1 hq1)
          go_end0
          refine ⟨rfl, L ++ (A2 ++ B2), HS4.out.cross _ _ HO1.out HO2.out, ?_⟩
          have hz : P ++ L ++ (A2 ++ B2 ++ R) = P ++ (L ++ (A2 ++ B2)) ++ R := by simp
          rw [← hz]; exact hL
        · have d1 : i < m := by have h1 := HS4.out.num; have h2 := HN.out; omega
          have d2 : m < e := by have h1 := HS4.out.num; have h2 := HN.out; omega
          have d3 : ¬ a < i := by have h1 := HS4.out.num; have h2 := HN.out; omega
          have d4 : i < mid := by have h1 := HS4.out.num; have h2 := HN.out; omega
          have d5 : mid < e := by have h1 := HS4.out.num; have h2 := HN.out; omega
          have d6 : e < b := by have h1 := HS4.out.num; have h2 := HN.out; omega
          have hqR := hqR x1 x2
          have HO1 := Lib.hid (HS4.out.o1 (Or.inl (List.eq_nil_of_length_eq_zero (by have h1 := HS4.out.num; have h2 := HN.out; omega))))
          clear x1 x2 x3 x4
          go_wp2_with (go_at_call 71; (with_reducible refine (unhide (hqR _ (ofR E hL))).mono ?_); rintro _ w2 ⟨rfl, hL2⟩; have hL := hL.overRow hL2; clear hL2 hqR)
          go_wp2_with (go_at_call 63; (with_reducible refine (unhide (hq2 d1 d6 _ (A1 ++ B1) HO1 hL)).mono ?_); rintro _ w4 ⟨rfl, L2, hO2, hL2⟩; have HO2 := Lib.hid hO2; have hL := hL.overRow hL2; clear hL2 hO2 hq2)
          go_end0
          refine ⟨rfl, (A1 ++ B1) ++ L2, HS4.out.cross _ _ HO1.out HO2.out, ?_⟩
          have hz : P ++ (A1 ++ B1) ++ L2 ++ R = P ++ ((A1 ++ B1) ++ L2) ++ R := by simp
          rw [← hz]; exact hL
        · have d1 : i < m := by have h1 := HS4.out.num; have h2 := HN.out; omega
          have d2 : m < e := by have h1 := HS4.out.num; have h2 := HN.out; omega
          have d3 : ¬ a < i := by have h1 := HS4.out.num; have h2 := HN.out; omega
          have d4 : i < mid := by have h1 := HS4.out.num; have h2 := HN.out; omega
          have d5 : mid < e := by have h1 := HS4.out.num; have h2 := HN.out; omega
          have d6 : ¬ e < b := by have h1 := HS4.out.num; have h2 := HN.out; omega
          have hqR := hqR x1 x2
          have HO1 := Lib.hid (HS4.out.o1 (Or.inl (List.eq_nil_of_length_eq_zero (by have h1 := HS4.out.num; have h2 := HN.out; omega))))
          have HO2 := Lib.hid (HS4.out.o2 (Or.inr (List.eq_nil_of_length_eq_zero (by have h1 := HS4.out.num; have h2 := HN.out; omega))))
          clear x1 x2 x3 x4
          go_wp2_with (go_at_call 71; (with_reducible refine (unhide (hqR _ (ofR E hL))).mono ?_); rintro _ w2 ⟨rfl, hL2⟩; have hL := hL.overRow hL2; clear hL2 hqR)
          go_end0
          refine ⟨rfl, (A1 ++ B1) ++ (A2 ++ B2), HS4.out.cross _ _ HO1.out HO2.out, ?_⟩
          have hz : P ++ (A1 ++ B1) ++ (A2 ++ B2 ++ R) = P ++ ((A1 ++ B1) ++ (A2 ++ B2)) ++ R := by simp
          rw [← hz]; exact hL
        · have d1 : i < m := by have h1 := HS4.out.num; have h2 := HN.out; omega
          have d2 : ¬ m < e := by have h1 := HS4.out.num; have h2 := HN.out; omega
          have d3 : a < i := by have h1 := HS4.out.num; have h2 := HN.out; omega
          have d4 : ¬ i < mid := by have h1 := HS4.out.num; have h2 := HN.out; omega
          have d5 : mid < e := by have h1 := HS4.out.num; have h2 := HN.out; omega
          have d6 : e < b := by have h1 := HS4.out.num; have h2 := HN.out; omega
          have hz : B1 = [] := List.eq_nil_of_length_eq_zero (by have h1 := HS4.out.num; have h2 := HN.out; omega)
          rw [show P ++ A1 ++ A2 ++ B1 ++ (B2 ++ R) = P ++ (A1 ++ B1) ++ (A2 ++ B2 ++ R) from by rw [hz]; simp] at hL
          clear hz
          have HO1 := Lib.hid (HS4.out.o1 (Or.inr (List.eq_nil_of_length_eq_zero (by have h1 := HS4.out.num; have h2 := HN.out; omega))))
          clear x1 x2 x3 x4
          go_wp2_with (go_at_call 63; (with_reducible refine (unhide (hq2 d1 d6 _ (A1 ++ B1) HO1 hL)).mono ?_); rintro _ w4 ⟨rfl, L2, hO2, hL2⟩; have HO2 := Lib.hid hO2; have hL := hL.overRow hL2; clear hL2 hO2 hq2)
          go_end0
          refine ⟨rfl, (A1 ++ B1) ++ L2, HS4.out.cross _ _ HO1.out HO2.out, ?_⟩
          have hz : P ++ (A1 ++ B1) ++ L2 ++ R = P ++ ((A1 ++ B1) ++ L2) ++ R := by simp
          rw [← hz]; exact hL
        · exfalso; have h1 := HS4.out.num; have h2 := HN.out; have h3 := HE0.out; omega
        · have d1 : i < m := by have h1 := HS4.out.num; have h2 := HN.out; omega
          have d2 : ¬ m < e := by have h1 := HS4.out.num; have h2 := HN.out; omega
          have d3 : ¬ a < i := by have h1 := HS4.out.num; have h2 := HN.out; omega
          have d4 : ¬ i < mid := by have h1 := HS4.out.num; have h2 := HN.out; omega
          have d5 : mid < e := by have h1 := HS4.out.num; have h2 := HN.out; omega
          have d6 : e < b := by have h1 := HS4.out.num; have h2 := HN.out; omega
          have hz : B1 = [] := List.eq_nil_of_length_eq_zero (by have h1 := HS4.out.num; have h2 := HN.out; omega)
          rw [show P ++ A1 ++ A2 ++ B1 ++ (B2 ++ R) = P ++ (A1 ++ B1) ++ (A2 ++ B2 ++ R) from by rw [hz]; simp] at hL
          clear hz
          have HO1 := Lib.hid (HS4.out.o1 (Or.inl (List.eq_nil_of_length_eq_zero (by have h1 := HS4.out.num; have h2 := HN.out; omega))))
          clear x1 x2 x3 x4
          go_wp2_with (go_at_call 63; (with_reducible refine (unhide (hq2 d1 d6 _ (A1 ++ B1) HO1 hL)).mono ?_); rintro _ w4 ⟨rfl, L2, hO2, hL2⟩; have HO2 := Lib.hid hO2; have hL := hL.overRow hL2; clear hL2 hO2 hq2)
          go_end0
          refine ⟨rfl, (A1 ++ B1) ++ L2, HS4.out.cross _ _ HO1.out HO2.out, ?_⟩
          have hz : P ++ (A1 ++ B1) ++ L2 ++ R = P ++ ((A1 ++ B1) ++ L2) ++ R := by simp
          rw [← hz]; exact hL
        · exfalso; have h1 := HS4.out.num; have h2 := HN.out; have h3 := HE0.out; omega
        · have d1 : ¬ i < m := by have h1 := HS4.out.num; have h2 := HN.out; omega
          have d2 : m < e := by have h1 := HS4.out.num; have h2 := HN.out; omega
          have d3 : a < i := by have h1 := HS4.out.num; have h2 := HN.out; omega
          have d4 : i < mid := by have h1 := HS4.out.num; have h2 := HN.out; omega
          have d5 : ¬ mid < e := by have h1 := HS4.out.num; have h2 := HN.out; omega
          have d6 : e < b := by have h1 := HS4.out.num; have h2 := HN.out; omega
          have hz : A2 = [] := List.eq_nil_of_length_eq_zero (by have h1 := HS4.out.num; have h2 := HN.out; omega)
          rw [show P ++ A1 ++ A2 ++ B1 ++ (B2 ++ R) = P ++ (A1 ++ B1) ++ (A2 ++ B2 ++ R) from by rw [hz]; simp] at hL
          clear hz
          have HO2 := Lib.hid (HS4.out.o2 (Or.inl (List.eq_nil_of_length_eq_zero (by have h1 := HS4.out.num; have h2 := HN.out; omega))))
          clear x1 x2 x3 x4
          go_wp2_with (go_at_call 63; (with_reducible refine (unhide (hq1 d3 d4 _ hL)).mono ?_); rintro _ w3 ⟨rfl, L, hO1, hL2⟩; have HO1 := Lib.hid hO1; have hL := hL.overRow hL2; clear hL2 hO1 hq1)
          go_end0
          refine ⟨rfl, L ++ (A2 ++ B2), HS4.out.cross _ _ HO1.out HO2.out, ?_⟩
          have hz : P ++ L ++ (A2 ++ B2 ++ R) = P ++ (L ++ (A2 ++ B2)) ++ R := by simp
          rw [← hz]; exact hL
        · have d1 : ¬ i < m := by have h1 := HS4.out.num; have h2 := HN.out; omega
          have d2 : m < e := by have h1 := HS4.out.num; have h2 := HN.out; omega
          have d3 : a < i := by have h1 := HS4.out.num; have h2 := HN.out; omega
          have d4 : i < mid := by have h1 := HS4.out.num; have h2 := HN.out; omega
          have d5 : ¬ mid < e := by have h1 := HS4.out.num; have h2 := HN.out; omega
          have d6 : ¬ e < b := by have h1 := HS4.out.num; have h2 := HN.out; omega
          have hz : A2 = [] := List.eq_nil_of_length_eq_zero (by have h1 := HS4.out.num; have h2 := HN.out; omega)
          rw [show P ++ A1 ++ A2 ++ B1 ++ (B2 ++ R) = P ++ (A1 ++ B1) ++ (A2 ++ B2 ++ R) from by rw [hz]; simp] at hL
          clear hz
          have HO2 := Lib.hid (HS4.out.o2 (Or.inl (List.eq_nil_of_length_eq_zero (by have h1 := HS4.out.num; have h2 := HN.out; omega))))
          clear x1 x2 x3 x4
          go_wp2_with (go_at_call 63; (with_reducible refine (unhide (hq1 d3 d4 _ hL)).mono ?_); rintro _ w3 ⟨rfl, L, hO1, hL2⟩; have HO1 := Lib.hid hO1; have hL := hL.overRow hL2; clear hL2 hO1 hq1)
          go_end0
          refine ⟨rfl, L ++ (A2 ++ B2), HS4.out.cross _ _ HO1.out HO2.out, ?_⟩
          have hz : P ++ L ++ (A2 ++ B2 ++ R) = P ++ (L ++ (A2 ++ B2)) ++ R := by simp
          rw [← hz]; exact hL
        · exfalso; have h1 := HS4.out.num; have h2 := HN.out; have h3 := HE0.out; omega
        · exfalso; have h1 := HS4.out.num; have h2 := HN.out; have h3 := HE0.out; omega
        · have d1 : ¬ i < m := by have h1 := HS4.out.num; have h2 := HN.out; omega
          have d2 : ¬ m < e := by have h1 := HS4.out.num; have h2 := HN.out; omega
          have d3 : a < i := by have h1 := HS4.out.num; have h2 := HN.out; omega
          have d4 : ¬ i < mid := by have h1 := HS4.out.num; have h2 := HN.out; omega
          have d5 : ¬ mid < e := by have h1 := HS4.out.num; have h2 := HN.out; omega
          have d6 : e < b := by have h1 := HS4.out.num; have h2 := HN.out; omega
          have hz : A2 = [] := List.eq_nil_of_length_eq_zero (by have h1 := HS4.out.num; have h2 := HN.out; omega)
          rw [show P ++ A1 ++ A2 ++ B1 ++ (B2 ++ R) = P ++ (A1 ++ B1) ++ (A2 ++ B2 ++ R) from by rw [hz]; simp] at hL
          clear hz
          have HO1 := Lib.hid (HS4.out.o1 (Or.inr (List.eq_nil_of_length_eq_zero (by have h1 := HS4.out.num; have h2 := HN.out; omega))))
          have HO2 := Lib.hid (HS4.out.o2 (Or.inl (List.eq_nil_of_length_eq_zero (by have h1 := HS4.out.num; have h2 := HN.out; omega))))
          clear x1 x2 x3 x4
          go_wp2
          go_end0
          refine ⟨rfl, (A1 ++ B1) ++ (A2 ++ B2), HS4.out.cross _ _ HO1.out HO2.out, ?_⟩
          have hz : P ++ (A1 ++ B1) ++ (A2 ++ B2 ++ R) = P ++ ((A1 ++ B1) ++ (A2 ++ B2)) ++ R := by simp
          rw [← hz]; exact hL
        · exfalso; have h1 := HS4.out.num; have h2 := HN.out; have h3 := HE0.out; omega
        · exfalso; have h1 := HS4.out.num; have h2 := HN.out; have h3 := HE0.out; omega
        · exfalso; have h1 := HS4.out.num; have h2 := HN.out; have h3 := HE0.out; omega
  · have tM : decide ((mid : Int) < (m : Int)) = false := by simp; omega
    have HK := Lib.hid (show a ≤ a ∧ a ≤ m ∧ m ≤ m ∧ m ≤ mid ∧ nn ≤ a + b ∧ (a = a ∨ nn = a + b) ∧ m ≤ mid from by have h1 := HN.out; have h2 := HE0.out; omega)
    go_wp2
    go_loopw [20, 21, 23] (fun sv rv cv wr => ∃ i q : Nat, sv = .int .i64 i ∧ rv = .int .i64 q ∧ Hid (a ≤ i ∧ i ≤ q ∧ q ≤ m ∧ (a < i → Stab.At (ltf cf) A B (i - 1 - a) (mid - i) false) ∧ (q < m → Stab.At (ltf cf) A B (q - a) (mid - 1 - q) true)) ∧ Loc w (· = g) wr [it E base g n c (P ++ A ++ B ++ R)]) (fun sv rv _ _ => (intOf rv).toNat - (intOf sv).toNat)
    case atStart => exact ⟨a, m, rfl, rfl, Lib.hid ⟨Nat.le_refl _, HK.out.2.1, Nat.le_refl _, fun h => absurd h (Nat.lt_irrefl _), fun h => absurd h (Nat.lt_irrefl _)⟩, hL⟩
    case round =>
      clear hL
      obtain ⟨i, q, rfl, rfl, HI, hL⟩ := hrel
      have hqm : q ≤ m := by have h1 := HI.out; have h2 := HK.out; omega
      by_cases hlt : i < q
      · have t0 : decide ((i : Int) < (q : Int)) = true := by simp; omega
        obtain ⟨k, hhm, hb1, hb2⟩ : ∃ k : Nat, ((i : Int) + (q : Int)) / 2 = (k : Int) ∧ i ≤ k ∧ k < q := ⟨(i + q) / 2, by omega, by omega, by omega⟩
        obtain ⟨u, hu, hub⟩ : ∃ u : Nat, (p : Int) - (k : Int) = (u : Int) ∧ u < b := ⟨p - k, by have h1 := HI.out; have h2 := HK.out; have h3 := HE0.out; omega, by have h1 := HI.out; have h2 := HK.out; have h3 := HE0.out; omega⟩
        have hkn : k < n := by have h2 := HN.out; omega
        have HKU : Hid (u = m + (mid - 1 - k) ∧ mid - 1 - k < B.length ∧ k < mid ∧ a ≤ k ∧ k - a < A.length) := Lib.hid (by have h1 := HI.out; have h2 := HK.out; have h3 := HN.out; have h4 := HE0.out; omega)
        obtain ⟨y, hy⟩ : ∃ y, B[mid - 1 - k]? = some y := ⟨_, List.getElem?_eq_getElem HKU.out.2.1⟩
        obtain ⟨z, hz⟩ : ∃ z, A[k - a]? = some z := ⟨_, List.getElem?_eq_getElem HKU.out.2.2.2.2⟩
        have HZ := Lib.hid (And.intro hy hz)
        have hy1 : (P ++ A ++ B ++ R)[u]? = some y := by
          have h3 := HN.out; have h4 := HKU.out
          rw [List.getElem?_append_left (by simp; omega), List.getElem?_append_right (by simp; omega), ← hy]
          congr 1; simp; omega
        have hy2 : (P ++ A ++ B ++ R)[k]? = some z := by
          have h3 := HN.out; have h4 := HKU.out
          rw [List.append_assoc, List.append_assoc, List.getElem?_append_right (by omega), List.getElem?_append_left (by omega), ← hz]
          congr 1; omega
        clear hy hz
        have hcq := fun w (hb : Below _ _ w) => unhide HC y z w (hL.mod.trans (Mod.of_below (M := NoM) hb) fun _ _ e => e.elim)
        generalize P ++ A ++ B ++ R = xs at *
        by_cases hc : cf y z < 0
        · have t2 : decide (cf y z < 0) = true := by simpa using hc
          have HA : Hid (Stab.At (ltf cf) A B (k - a) (mid - 1 - k) true) := Lib.hid (fun x' y' hx hy => by
            have h1 := HZ.out
            rw [h1.2] at hx; rw [h1.1] at hy
            cases hx; cases hy; exact t2)
          go_wp2_with fail
          (try simp only [Act.put, List.setIfInBounds_toArray, List.set_cons_succ, List.set_cons_zero])
          refine wp_region_ext (by kernel_rfl) (by kernel_rfl) ?_
          repeat (first
                  | (go_big_quiet_want; (first | refine quiet_indexRow E rfl (by rfl) (by rfl) (by omega) ?_ | refine quiet_loadRow (E := E) hL (.head _) rfl (by rfl) hy1 ?_ | refine quiet_loadRow (E := E) hL (.head _) rfl (by rfl) hy2 ?_); go_big_quiet_on; simp only [Act.put, List.setIfInBounds_toArray, List.set_cons_succ, List.set_cons_zero])
                  | go_big_quiet_step (first | (go_at_fn f; exact calls_ext (hcq _ (Ext.ok _)))))
          refine wpQuiet_nil ?_
          rintro _ ⟨⟨wC, hbC⟩, rfl⟩
          have hL := hL.call hbC
          clear hbC hcq
          go_wp2
          first | go_roundw | (refine ⟨?_, ?measure⟩; iterate 18 (apply Exists.intro); refine ⟨?rel, rfl⟩) | (refine ⟨?_, ?measure⟩; iterate 19 (apply Exists.intro); refine ⟨?rel, rfl⟩) | (refine ⟨?_, ?measure⟩; iterate 20 (apply Exists.intro); refine ⟨?rel, rfl⟩) | (refine ⟨?_, ?measure⟩; iterate 21 (apply Exists.intro); refine ⟨?rel, rfl⟩) | (refine ⟨?_, ?measure⟩; iterate 22 (apply Exists.intro); refine ⟨?rel, rfl⟩) | (refine ⟨?_, ?measure⟩; iterate 23 (apply Exists.intro); refine ⟨?rel, rfl⟩) | (refine ⟨?_, ?measure⟩; iterate 24 (apply Exists.intro); refine ⟨?rel, rfl⟩) | (refine ⟨?_, ?measure⟩; iterate 25 (apply Exists.intro); refine ⟨?rel, rfl⟩) | (refine ⟨?_, ?measure⟩; iterate 26 (apply Exists.intro); refine ⟨?rel, rfl⟩) | (refine ⟨?_, ?measure⟩; iterate 27 (apply Exists.intro); refine ⟨?rel, rfl⟩) | (refine ⟨?_, ?measure⟩; iterate 28 (apply Exists.intro); refine ⟨?rel, rfl⟩) | (refine ⟨?_, ?measure⟩; iterate 29 (apply Exists.intro); refine ⟨?rel, rfl⟩) | (refine ⟨?_, ?measure⟩; iterate 30 (apply Exists.intro); refine ⟨?rel, rfl⟩) | (refine ⟨?_, ?measure⟩; iterate 31 (apply Exists.intro); refine ⟨?rel, rfl⟩) | (refine ⟨?_, ?measure⟩; iterate 32 (apply Exists.intro); refine ⟨?rel, rfl⟩) | (refine ⟨?_, ?measure⟩; iterate 33 (apply Exists.intro); refine ⟨?rel, rfl⟩) | (refine ⟨?_, ?measure⟩; iterate 34 (apply Exists.intro); refine ⟨?rel, rfl⟩) | (refine ⟨?_, ?measure⟩; iterate 35 (apply Exists.intro); refine ⟨?rel, rfl⟩) | (refine ⟨?_, ?measure⟩; iterate 36 (apply Exists.intro); refine ⟨?rel, rfl⟩) | (refine ⟨?_, ?measure⟩; iterate 37 (apply Exists.intro); refine ⟨?rel, rfl⟩) | (refine ⟨?_, ?measure⟩; iterate 38 (apply Exists.intro); refine ⟨?rel, rfl⟩) | (refine ⟨?_, ?measure⟩; iterate 39 (apply Exists.intro); refine ⟨?rel, rfl⟩)
          case rel => exact ⟨i, k, rfl, rfl, Lib.hid ⟨HI.out.1, by omega, by have := HI.out; omega, HI.out.2.2.2.1, fun _ => HA.out⟩, hL⟩
          case measure => simp [intOf]; omega
        · have t2 : decide (cf y z < 0) = false := by simpa using hc
          have HA : Hid (Stab.At (ltf cf) A B (k + 1 - 1 - a) (mid - (k + 1)) false) := Lib.hid (fun x' y' hx hy => by
            have h1 := HZ.out
            rw [show k + 1 - 1 - a = k - a from by omega, h1.2] at hx; rw [show mid - (k + 1) = mid - 1 - k from by omega, h1.1] at hy
            cases hx; cases hy; exact t2)
          go_wp2_with fail
          (try simp only [Act.put, List.setIfInBounds_toArray, List.set_cons_succ, List.set_cons_zero])
          refine wp_region_ext (by kernel_rfl) (by kernel_rfl) ?_
          repeat (first
                  | (go_big_quiet_want; (first | refine quiet_indexRow E rfl (by rfl) (by rfl) (by omega) ?_ | refine quiet_loadRow (E := E) hL (.head _) rfl (by rfl) hy1 ?_ | refine quiet_loadRow (E := E) hL (.head _) rfl (by rfl) hy2 ?_); go_big_quiet_on; simp only [Act.put, List.setIfInBounds_toArray, List.set_cons_succ, List.set_cons_zero])
                  | go_big_quiet_step (first | (go_at_fn f; exact calls_ext (hcq _ (Ext.ok _)))))
          refine wpQuiet_nil ?_
          rintro _ ⟨⟨wC, hbC⟩, rfl⟩
          have hL := hL.call hbC
          clear hbC hcq
          go_wp2
          first | go_roundw | (refine ⟨?_, ?measure⟩; iterate 18 (apply Exists.intro); refine ⟨?rel, rfl⟩) | (refine ⟨?_, ?measure⟩; iterate 19 (apply Exists.intro); refine ⟨?rel, rfl⟩) | (refine ⟨?_, ?measure⟩; iterate 20 (apply Exists.intro); refine ⟨?rel, rfl⟩) | (refine ⟨?_, ?measure⟩; iterate 21 (apply Exists.intro); refine ⟨?rel, rfl⟩) | (refine ⟨?_, ?measure⟩; iterate 22 (apply Exists.intro); refine ⟨?rel, rfl⟩) | (refine ⟨?_, ?measure⟩; iterate 23 (apply Exists.intro); refine ⟨?rel, rfl⟩) | (refine ⟨?_, ?measure⟩; iterate 24 (apply Exists.intro); refine ⟨?rel, rfl⟩) | (refine ⟨?_, ?measure⟩; iterate 25 (apply Exists.intro); refine ⟨?rel, rfl⟩) | (refine ⟨?_, ?measure⟩; iterate 26 (apply Exists.intro); refine ⟨?rel, rfl⟩) | (refine ⟨?_, ?measure⟩; iterate 27 (apply Exists.intro); refine ⟨?rel, rfl⟩) | (refine ⟨?_, ?measure⟩; iterate 28 (apply Exists.intro); refine ⟨?rel, rfl⟩) | (refine ⟨?_, ?measure⟩; iterate 29 (apply Exists.intro); refine ⟨?rel, rfl⟩) | (refine ⟨?_, ?measure⟩; iterate 30 (apply Exists.intro); refine ⟨?rel, rfl⟩) | (refine ⟨?_, ?measure⟩; iterate 31 (apply Exists.intro); refine ⟨?rel, rfl⟩) | (refine ⟨?_, ?measure⟩; iterate 32 (apply Exists.intro); refine ⟨?rel, rfl⟩) | (refine ⟨?_, ?measure⟩; iterate 33 (apply Exists.intro); refine ⟨?rel, rfl⟩) | (refine ⟨?_, ?measure⟩; iterate 34 (apply Exists.intro); refine ⟨?rel, rfl⟩) | (refine ⟨?_, ?measure⟩; iterate 35 (apply Exists.intro); refine ⟨?rel, rfl⟩) | (refine ⟨?_, ?measure⟩; iterate 36 (apply Exists.intro); refine ⟨?rel, rfl⟩) | (refine ⟨?_, ?measure⟩; iterate 37 (apply Exists.intro); refine ⟨?rel, rfl⟩) | (refine ⟨?_, ?measure⟩; iterate 38 (apply Exists.intro); refine ⟨?rel, rfl⟩) | (refine ⟨?_, ?measure⟩; iterate 39 (apply Exists.intro); refine ⟨?rel, rfl⟩)
          case rel => exact ⟨k + 1, q, by go_num, rfl, Lib.hid ⟨by have := HI.out; omega, by omega, by have := HI.out; omega, fun _ => HA.out, HI.out.2.2.2.2⟩, hL⟩
          case measure => simp [intOf]; omega
      · have hij : q = i := by have := HI.out; omega
        subst q
        have t0 : decide ((i : Int) < (i : Int)) = false := by simp
        obtain ⟨e, he, hem⟩ : ∃ e : Nat, (nn : Int) - (i : Int) = (e : Int) ∧ e ≤ n := ⟨nn - i, by have h1 := HI.out; have h2 := HK.out; omega, by have h1 := HI.out; have h2 := HK.out; have h3 := HN.out; omega⟩
        obtain ⟨A1, A2, B1, B2, HS4⟩ : ∃ A1 A2 B1 B2, Hid (Stab.SymCut (ltf cf) A B A1 A2 B1 B2 a m b mid e i) := by
          have h1 := HI.out; have h2 := HK.out; have h3 := HN.out; have h4 := HS.out; have h5 := HE0.out
          refine ⟨_, _, _, _, Lib.hid (Stab.symCut ho h4.1 h4.2.1 (by omega) (by omega) h3.2.2.1 h3.2.2.2 (by omega) (by omega) (by omega) (fun h => ?_) (fun h => ?_))⟩
          · by_cases hl : a < i
            · exact h1.2.2.2.1 hl
            · exact fun x y hx hy => absurd (List.getElem?_eq_some_iff.1 hy).1 (by omega)
          · by_cases hl : i < m
            · exact h1.2.2.2.2 hl
            · exact fun x y hx hy => absurd (List.getElem?_eq_some_iff.1 hx).1 (by omega)
        have hqR : i < m → i < mid → ∀ w, Own E w base g n c (P ++ A1 ++ A2 ++ B1 ++ (B2 ++ R)) → Hid (Calls Tryd.prog 71 #[.slice (some ⟨g, 0, none⟩) n c, .int .i64 i, .int .i64 m, .int .i64 e, .func (.func f) #[] cb] w fun e w' => e = .returned (.tuple #[]) ∧ Loc w (· = g) w' [it E base g n c (P ++ (A1 ++ B1) ++ (A2 ++ B2 ++ R))]) := fun x1 x2 w h => hide (by
          have h1 := HS4.out.num; have h3 := HN.out
          have hl := congrArg List.length HS4.out.eA; have hl2 := congrArg List.length HS4.out.eB
          simp only [List.length_append] at hl hl2
          have q := rotate E w base g n c i m e (.func (.func f) #[] cb) (P ++ A1) A2 B1 (B2 ++ R) h (by simp; omega) (by simp; omega) (by omega) (by omega) (by rintro rfl; simp at h1; omega) (by rintro rfl; simp at h1; omega) hmax
          rw [show P ++ A1 ++ B1 ++ A2 ++ (B2 ++ R) = P ++ (A1 ++ B1) ++ (A2 ++ B2 ++ R) from by simp] at q
          exact q)
        have hq1 : a < i → i < mid → ∀ w', Loc w (· = g) w' [it E base g n c (P ++ (A1 ++ B1) ++ (A2 ++ B2 ++ R))] → Hid (Calls Tryd.prog 63 #[.slice (some ⟨g, 0, none⟩) n c, .int .i64 a, .int .i64 i, .int .i64 mid, .func (.func f) #[] cb] w' (Merged E (ltf cf) w' base g n c P A1 B1 (A2 ++ B2 ++ R))) := fun x1 x2 w' h => hide (by
          have h1 := HS4.out.num; have h3 := HN.out; have h4 := HS4.out.s
          have hl := congrArg List.length HS4.out.eA; have hl2 := congrArg List.length HS4.out.eB
          simp only [List.length_append] at hl hl2
          refine unhide IH w' a i mid P A1 B1 (A2 ++ B2 ++ R) (by have := HE0.out; omega) (by rintro rfl; simp at h1; omega) (by rintro rfl; simp at h1; omega) ((unhide HC).next h.mod) ?_ (by simp; omega) h3.2.1 (by omega) (by omega) h4.1 h4.2.1
          have q := ofR E h
          rw [show P ++ (A1 ++ B1) ++ (A2 ++ B2 ++ R) = P ++ A1 ++ B1 ++ (A2 ++ B2 ++ R) from by simp] at q
          exact q)
        have hq2 : i < m → e < b → ∀ w' L, Hid (Stab.Of (ltf cf) (A1 ++ B1) L) → Loc w (· = g) w' [it E base g n c (P ++ L ++ (A2 ++ B2 ++ R))] → Hid (Calls Tryd.prog 63 #[.slice (some ⟨g, 0, none⟩) n c, .int .i64 mid, .int .i64 e, .int .i64 b, .func (.func f) #[] cb] w' (Merged E (ltf cf) w' base g n c (P ++ L) A2 B2 R)) := fun x1 x2 w' L HO h => hide (by
          have h1 := HS4.out.num; have h3 := HN.out; have h4 := HS4.out.s
          have hl := congrArg List.length HS4.out.eA; have hl2 := congrArg List.length HS4.out.eB
          have hl3 := HO.out.perm.length_eq
          simp only [List.length_append] at hl hl2 hl3
          refine unhide IH w' mid e b (P ++ L) A2 B2 R (by have := HE0.out; omega) (by rintro rfl; simp at h1; omega) (by rintro rfl; simp at h1; omega) ((unhide HC).next h.mod) ?_ (by simp; omega) (by simp; omega) (by omega) (by omega) h4.2.2.1 h4.2.2.2
          have q := ofR E h
          rw [show P ++ L ++ (A2 ++ B2 ++ R) = P ++ L ++ A2 ++ B2 ++ R from by simp] at q
          exact q)
        rw [show P ++ A ++ B ++ R = P ++ A1 ++ A2 ++ B1 ++ (B2 ++ R) from by rw [HS4.out.eA, HS4.out.eB]; simp] at hL
        have hib : i ≤ n ∧ e ≤ n ∧ mid ≤ n := by have h1 := HS4.out.num; have h3 := HN.out; omega
        clear HI hlt
        rcases Nat.lt_or_ge i m with x1 | x1 <;> rcases Nat.lt_or_ge i mid with x2 | x2 <;> rcases Nat.lt_or_ge a i with x3 | x3 <;> rcases Nat.lt_or_ge e b with x4 | x4
        · have d1 : i < m := by have h1 := HS4.out.num; have h2 := HN.out; omega
          have d2 : m < e := by have h1 := HS4.out.num; have h2 := HN.out; omega
          have d3 : a < i := by have h1 := HS4.out.num; have h2 := HN.out; omega
          have d4 : i < mid := by have h1 := HS4.out.num; have h2 := HN.out; omega
          have d5 : mid < e := by have h1 := HS4.out.num; have h2 := HN.out; omega
          have d6 : e < b := by have h1 := HS4.out.num; have h2 := HN.out; omega
          have hqR := hqR x1 x2
          clear x1 x2 x3 x4
          go_wp2_with (go_at_call 71; (with_reducible refine (unhide (hqR _ (ofR E hL))).mono ?_); rintro _ w2 ⟨rfl, hL2⟩; have hL := hL.overRow hL2; clear hL2 hqR)
          go_wp2_with (go_at_call 63; (with_reducible refine (unhide (hq1 d3 d4 _ hL)).mono ?_); rintro _ w3 ⟨rfl, L, hO1, hL2⟩; have HO1 := Lib.hid hO1; have hL := hL.overRow hL2; clear hL2 hO1 hq1)
          go_wp2_with (go_at_call 63; (with_reducible refine (unhide (hq2 d1 d6 _ L HO1 hL)).mono ?_); rintro _ w4 ⟨rfl, L2, hO2, hL2⟩; have HO2 := Lib.hid hO2; have hL := hL.overRow hL2; clear hL2 hO2 hq2)
          go_end0
          refine ⟨rfl, L ++ L2, HS4.out.cross _ _ HO1.out HO2.out, ?_⟩
          have hz : P ++ L ++ L2 ++ R = P ++ (L ++ L2) ++ R := by simp
          rw [← hz]; exact hL
        · have d1 : i < m := by have h1 := HS4.out.num; have h2 := HN.out; omega
          have d2 : m < e := by have h1 := HS4.out.num; have h2 := HN.out; omega
          have d3 : a < i := by have h1 := HS4.out.num; have h2 := HN.out; omega
          have d4 : i < mid := by have h1 := HS4.out.num; have h2 := HN.out; omega
          have d5 : mid < e := by have h1 := HS4.out.num; have h2 := HN.out; omega
          have d6 : ¬ e < b := by have h1 := HS4.out.num; have h2 := HN.out; omega
          have hqR := hqR x1 x2
          have HO2 := Lib.hid (HS4.out.o2 (Or.inr (List.eq_nil_of_length_eq_zero (by have h1 := HS4.out.num; have h2 := HN.out; omega))))
          clear x1 x2 x3 x4
          go_wp2_with (go_at_call 71; (with_reducible refine (unhide (hqR _ (ofR E hL))).mono ?_); rintro _ w2 ⟨rfl, hL2⟩; have hL := hL.overRow hL2; clear hL2 hqR)
          go_wp2_with (go_at_call 63; (with_reducible refine (unhide (hq1 d3 d4 _ hL)).mono ?_); rintro _ w3 ⟨rfl, L, hO1, hL2⟩; have HO1 := Lib.hid hO1; have hL := hL.overRow hL2; clear hL2 hO1 hq1)
          go_end0
          refine ⟨rfl, L ++ (A2 ++ B2), HS4.out.cross _ _ HO1.out HO2.out, ?_⟩
          have hz : P ++ L ++ (A2 ++ B2 ++ R) = P ++ (L ++ (A2 ++ B2)) ++ R := by simp
          rw [← hz]; exact hL
        · have d1 : i < m := by have h1 := HS4.out.num; have h2 := HN.out; omega
          have d2 : m < e := by have h1 := HS4.out.num; have h2 := HN.out; omega
          have d3 : ¬ a < i := by have h1 := HS4.out.num; have h2 := HN.out; omega
          have d4 : i < mid := by have h1 := HS4.out.num; have h2 := HN.out; omega
          have d5 : mid < e := by have h1 := HS4.out.num; have h2 := HN.out; omega
          have d6 : e < b := by have h1 := HS4.out.num; have h2 := HN.out; omega
          have hqR := hqR x1 x2
          have HO1 := Lib.hid (HS4.out.o1 (Or.inl (List.eq_nil_of_length_eq_zero (by have h1 := HS4.out.num; have h2 := HN.out; omega))))
          clear x1 x2 x3 x4
          go_wp2_with (go_at_call 71; (with_reducible refine (unhide (hqR _ (ofR E hL))).mono ?_); rintro _ w2 ⟨rfl, hL2⟩; have hL := hL.overRow hL2; clear hL2 hqR)
          go_wp2_with (go_at_call 63; (with_reducible refine (unhide (hq2 d1 d6 _ (A1 ++ B1) HO1 hL)).mono ?_); rintro _ w4 ⟨rfl, L2, hO2, hL2⟩; have HO2 := Lib.hid hO2; have hL := hL.overRow hL2; clear hL2 hO2 hq2)
          go_end0
          refine ⟨rfl, (A1 ++ B1) ++ L2, HS4.out.cross _ _ HO1.out HO2.out, ?_⟩
          have hz : P ++ (A1 ++ B1) ++ L2 ++ R = P ++ ((A1 ++ B1) ++ L2) ++ R := by simp
          rw [← hz]; exact hL
        · have d1 : i < m := by have h1 := HS4.out.num; have h2 := HN.out; omega
          have d2 : m < e := by have h1 := HS4.out.num; have h2 := HN.out; omega
          have d3 : ¬ a < i := by have h1 := HS4.out.num; have h2 := HN.out; omega
          have d4 : i < mid := by have h1 := HS4.out.num; have h2 := HN.out; omega
          have d5 : mid < e := by have h1 := HS4.out.num; have h2 := HN.out; omega
          have d6 : ¬ e < b := by have h1 := HS4.out.num; have h2 := HN.out; omega
          have hqR := hqR x1 x2
          have HO1 := Lib.hid (HS4.out.o1 (Or.inl (List.eq_nil_of_length_eq_zero (by have h1 := HS4.out.num; have h2 := HN.out; omega))))
          have HO2 := Lib.hid (HS4.out.o2 (Or.inr (List.eq_nil_of_length_eq_zero (by have h1 := HS4.out.num; have h2 := HN.out; omega))))
          clear x1 x2 x3 x4
          go_wp2_with (go_at_call 71; (with_reducible refine (unhide (hqR _ (ofR E hL))).mono ?_); rintro _ w2 ⟨rfl, hL2⟩; have hL := hL.overRow hL2; clear hL2 hqR)
          go_end0
          refine ⟨rfl, (A1 ++ B1) ++ (A2 ++ B2), HS4.out.cross _ _ HO1.out HO2.out, ?_⟩
          have hz : P ++ (A1 ++ B1) ++ (A2 ++ B2 ++ R) = P ++ ((A1 ++ B1) ++ (A2 ++ B2)) ++ R := by simp
          rw [← hz]; exact hL
        · have d1 : i < m := by have h1 := HS4.out.num; have h2 := HN.out; omega
          have d2 : ¬ m < e := by have h1 := HS4.out.num; have h2 := HN.out; omega
          have d3 : a < i := by have h1 := HS4.out.num; have h2 := HN.out; omega
          have d4 : ¬ i < mid := by have h1 := HS4.out.num; have h2 := HN.out; omega
          have d5 : mid < e := by have h1 := HS4.out.num; have h2 := HN.out; omega
          have d6 : e < b := by have h1 := HS4.out.num; have h2 := HN.out; omega
          have hz : B1 = [] := List.eq_nil_of_length_eq_zero (by have h1 := HS4.out.num; have h2 := HN.out; omega)
          rw [show P ++ A1 ++ A2 ++ B1 ++ (B2 ++ R) = P ++ (A1 ++ B1) ++ (A2 ++ B2 ++ R) from by rw [hz]; simp] at hL
          clear hz
          have HO1 := Lib.hid (HS4.out.o1 (Or.inr (List.eq_nil_of_length_eq_zero (by have h1 := HS4.out.num; have h2 := HN.out; omega))))
          clear x1 x2 x3 x4
          go_wp2_with (go_at_call 63; (with_reducible refine (unhide (hq2 d1 d6 _ (A1 ++ B1) HO1 hL)).mono ?_); rintro _ w4 ⟨rfl, L2, hO2, hL2⟩; have HO2 := Lib.hid hO2; have hL := hL.overRow hL2; clear hL2 hO2 hq2)
          go_end0
          refine ⟨rfl, (A1 ++ B1) ++ L2, HS4.out.cross _ _ HO1.out HO2.out, ?_⟩
          have hz : P ++ (A1 ++ B1) ++ L2 ++ R = P ++ ((A1 ++ B1) ++ L2) ++ R := by simp
          rw [← hz]; exact hL
        · exfalso; have h1 := HS4.out.num; have h2 := HN.out; have h3 := HE0.out; omega
        · have d1 : i < m := by have h1 := HS4.out.num; have h2 := HN.out; omega
          have d2 : ¬ m < e := by have h1 := HS4.out.num; have h2 := HN.out; omega
          have d3 : ¬ a < i := by have h1 := HS4.out.num; have h2 := HN.out; omega
          have d4 : ¬ i < mid := by have h1 := HS4.out.num; have h2 := HN.out; omega
          have d5 : mid < e := by have h1 := HS4.out.num; have h2 := HN.out; omega
          have d6 : e < b := by have h1 := HS4.out.num; have h2 := HN.out; omega
          have hz : B1 = [] := List.eq_nil_of_length_eq_zero (by have h1 := HS4.out.num; have h2 := HN.out; omega)
          rw [show P ++ A1 ++ A2 ++ B1 ++ (B2 ++ R) = P ++ (A1 ++ B1) ++ (A2 ++ B2 ++ R) from by rw [hz]; simp] at hL
          clear hz
          have HO1 := Lib.hid (HS4.out.o1 (Or.inl (List.eq_nil_of_length_eq_zero (by have h1 := HS4.out.num; have h2 := HN.out; omega))))
          clear x1 x2 x3 x4
          go_wp2_with (go_at_call 63; (with_reducible refine (unhide (hq2 d1 d6 _ (A1 ++ B1) HO1 hL)).mono ?_); rintro _ w4 ⟨rfl, L2, hO2, hL2⟩; have HO2 := Lib.hid hO2; have hL := hL.overRow hL2; clear hL2 hO2 hq2)
          go_end0
          refine ⟨rfl, (A1 ++ B1) ++ L2, HS4.out.cross _ _ HO1.out HO2.out, ?_⟩
          have hz : P ++ (A1 ++ B1) ++ L2 ++ R = P ++ ((A1 ++ B1) ++ L2) ++ R := by simp
          rw [← hz]; exact hL
        · exfalso; have h1 := HS4.out.num; have h2 := HN.out; have h3 := HE0.out; omega
        · have d1 : ¬ i < m := by have h1 := HS4.out.num; have h2 := HN.out; omega
          have d2 : m < e := by have h1 := HS4.out.num; have h2 := HN.out; omega
          have d3 : a < i := by have h1 := HS4.out.num; have h2 := HN.out; omega
          have d4 : i < mid := by have h1 := HS4.out.num; have h2 := HN.out; omega
          have d5 : ¬ mid < e := by have h1 := HS4.out.num; have h2 := HN.out; omega
          have d6 : e < b := by have h1 := HS4.out.num; have h2 := HN.out; omega
          have hz : A2 = [] := List.eq_nil_of_length_eq_zero (by have h1 := HS4.out.num; have h2 := HN.out; omega)
          rw [show P ++ A1 ++ A2 ++ B1 ++ (B2 ++ R) = P ++ (A1 ++ B1) ++ (A2 ++ B2 ++ R) from by rw [hz]; simp] at hL
          clear hz
          have HO2 := Lib.hid (HS4.out.o2 (Or.inl (List.eq_nil_of_length_eq_zero (by have h1 := HS4.out.num; have h2 := HN.out; omega))))
          clear x1 x2 x3 x4
          go_wp2_with (go_at_call 63; (with_reducible refine (unhide (hq1 d3 d4 _ hL)).mono ?_); rintro _ w3 ⟨rfl, L, hO1, hL2⟩; have HO1 := Lib.hid hO1; have hL := hL.overRow hL2; clear hL2 hO1 hq1)
          go_end0
          refine ⟨rfl, L ++ (A2 ++ B2), HS4.out.cross _ _ HO1.out HO2.out, ?_⟩
          have hz : P ++ L ++ (A2 ++ B2 ++ R) = P ++ (L ++ (A2 ++ B2)) ++ R := by simp
          rw [← hz]; exact hL
        · have d1 : ¬ i < m := by have h1 := HS4.out.num; have h2 := HN.out; omega
          have d2 : m < e := by have h1 := HS4.out.num; have h2 := HN.out; omega
          have d3 : a < i := by have h1 := HS4.out.num; have h2 := HN.out; omega
          have d4 : i < mid := by have h1 := HS4.out.num; have h2 := HN.out; omega
          have d5 : ¬ mid < e := by have h1 := HS4.out.num; have h2 := HN.out; omega
          have d6 : ¬ e < b := by have h1 := HS4.out.num; have h2 := HN.out; omega
          have hz : A2 = [] := List.eq_nil_of_length_eq_zero (by have h1 := HS4.out.num; have h2 := HN.out; omega)
          rw [show P ++ A1 ++ A2 ++ B1 ++ (B2 ++ R) = P ++ (A1 ++ B1) ++ (A2 ++ B2 ++ R) from by rw [hz]; simp] at hL
          clear hz
          have HO2 := Lib.hid (HS4.out.o2 (Or.inl (List.eq_nil_of_length_eq_zero (by have h1 := HS4.out.num; have h2 := HN.out; omega))))
          clear x1 x2 x3 x4
          go_wp2_with (go_at_call 63; (with_reducible refine (unhide (hq1 d3 d4 _ hL)).mono ?_); rintro _ w3 ⟨rfl, L, hO1, hL2⟩; have HO1 := Lib.hid hO1; have hL := hL.overRow hL2; clear hL2 hO1 hq1)
          go_end0
          refine ⟨rfl, L ++ (A2 ++ B2), HS4.out.cross _ _ HO1.out HO2.out, ?_⟩
          have hz : P ++ L ++ (A2 ++ B2 ++ R) = P ++ (L ++ (A2 ++ B2)) ++ R := by simp
          rw [← hz]; exact hL
        · exfalso; have h1 := HS4.out.num; have h2 := HN.out; have h3 := HE0.out; omega
        · exfalso; have h1 := HS4.out.num; have h2 := HN.out; have h3 := HE0.out; omega
        · have d1 : ¬ i < m := by have h1 := HS4.out.num; have h2 := HN.out; omega
          have d2 : ¬ m < e := by have h1 := HS4.out.num; have h2 := HN.out; omega
          have d3 : a < i := by have h1 := HS4.out.num; have h2 := HN.out; omega
          have d4 : ¬ i < mid := by have h1 := HS4.out.num; have h2 := HN.out; omega
          have d5 : ¬ mid < e := by have h1 := HS4.out.num; have h2 := HN.out; omega
          have d6 : e < b := by have h1 := HS4.out.num; have h2 := HN.out; omega
          have hz : A2 = [] := List.eq_nil_of_length_eq_zero (by have h1 := HS4.out.num; have h2 := HN.out; omega)
          rw [show P ++ A1 ++ A2 ++ B1 ++ (B2 ++ R) = P ++ (A1 ++ B1) ++ (A2 ++ B2 ++ R) from by rw [hz]; simp] at hL
          clear hz
          have HO1 := Lib.hid (HS4.out.o1 (Or.inr (List.eq_nil_of_length_eq_zero (by have h1 := HS4.out.num; have h2 := HN.out; omega))))
          have HO2 := Lib.hid (HS4.out.o2 (Or.inl (List.eq_nil_of_length_eq_zero (by have h1 := HS4.out.num; have h2 := HN.out; omega))))
          clear x1 x2 x3 x4
          go_wp2
          go_end0
          refine ⟨rfl, (A1 ++ B1) ++ (A2 ++ B2), HS4.out.cross _ _ HO1.out HO2.out, ?_⟩
          have hz : P ++ (A1 ++ B1) ++ (A2 ++ B2 ++ R) = P ++ ((A1 ++ B1) ++ (A2 ++ B2)) ++ R := by simp
          rw [← hz]; exact hL
        · exfalso; have h1 := HS4.out.num; have h2 := HN.out; have h3 := HE0.out; omega
        · exfalso; have h1 := HS4.out.num; have h2 := HN.out; have h3 := HE0.out; omega
        · exfalso; have h1 := HS4.out.num; have h2 := HN.out; have h3 := HE0.out; omega
end Go.Proofs.YtebpacmhdkgfeaaDoor.SortEv

/- slices.SortStableFunc at []crannog/api.Event: printed by gen_sort.py. -/
namespace Go.Proofs.YtebpacmhdkgfeaaDoor.SortEv
open Go.RowKit

variable {α : Type} (E : Enc α) [hsz : SizeT Tryd.prog 31 E.sz]

theorem sym (f : Nat) (cb : Array Value) (cf : α → α → Int) (eg : ∀ args w, (callFunc f args).run Tryd.prog w = .ok (.enter f args) w) (ho : Stab.Ord (ltf cf)) (base g n c : Nat) (hmax : n ≤ 1000000000) : ∀ N, SymAt E f cb cf base g n c N := by
  intro N
  induction N with
  | zero =>
    intro w a m b P A B R hN hA
    exact absurd (List.eq_nil_of_length_eq_zero (by omega)) hA
  | succ N ih =>
    intro w a m b P A B R hN hA hB hcmp h hn ha hm hb hsA hsB
    have hA0 := List.length_pos_iff.2 hA
    have hB0 := List.length_pos_iff.2 hB
    by_cases hA1 : A.length = 1
    · obtain ⟨x, rfl⟩ := List.length_eq_one_iff.1 hA1
      obtain rfl : m = a + 1 := hm
      exact sym_left E f cb cf eg ho w base g n c a b x P B R hcmp h hn ha hb hsB hmax
    · by_cases hB1 : B.length = 1
      · obtain ⟨y, rfl⟩ := List.length_eq_one_iff.1 hB1
        obtain rfl : b = m + 1 := hb
        exact sym_right E f cb cf eg ho w base g n c a m y P A R hcmp h hn ha hm hA1 hsA hmax
      · exact sym_step E f cb cf eg ho base g n c N hmax (hide ih) w a m b P A B R hN (by omega) (by omega) hcmp h hn ha hm hb hsA hsB
end Go.Proofs.YtebpacmhdkgfeaaDoor.SortEv

/- slices.SortStableFunc at []crannog/api.Event: printed by gen_sort.py. -/
namespace Go.Proofs.YtebpacmhdkgfeaaDoor.SortEv
open Go.RowKit

variable {α : Type} (E : Enc α) [hsz : SizeT Tryd.prog 31 E.sz]

set_option maxRecDepth 100000 in
set_option maxHeartbeats 16000000 in
theorem stable (f : Nat) (cb : Array Value) (cf : α → α → Int) (eg : ∀ args w, (callFunc f args).run Tryd.prog w = .ok (.enter f args) w) (ho : Stab.Ord (ltf cf)) (w : World) (base g n c : Nat) (xs : List α) (hcmp : CmpOk E f cb cf w g) (h : Own E w base g n c xs) (hn : n = xs.length) (hmax : n ≤ 1000000000) :
    Calls Tryd.prog 50 #[.slice (some ⟨g, 0, none⟩) n c, .int .i64 n, .func (.func f) #[] cb] w fun e w' => e = .returned (.tuple #[]) ∧ ∃ L, Stab.Of (ltf cf) xs L ∧ Loc w (· = g) w' [it E base g n c L] := by
  have hL := openR E h
  have HN := Lib.hid hn
  have HC := hide hcmp
  have HQ := hide (sym E f cb cf eg ho base g n c hmax)
  clear h hn hcmp
  go_enter Tryd.func50, Tryd.ntmps50
  go_wp2
  go_loopw [7, 8] (fun av bv wr => ∃ (D D' T : List α) (a b : Nat), av = .int .i64 a ∧ bv = .int .i64 b ∧ Hid (xs = D ++ T ∧ Stab.Full (ltf cf) 20 D D' ∧ a = D'.length ∧ D'.length = D.length ∧ b = a + 20 ∧ a ≤ n) ∧ Loc w (· = g) wr [it E base g n c (D' ++ T)]) (fun av bv _ => n + 20 - (intOf bv).toNat)
  case atStart => exact ⟨[], [], xs, 0, 20, rfl, rfl, Lib.hid ⟨rfl, .nil, rfl, rfl, rfl, Nat.zero_le _⟩, hL⟩
  case round =>
    clear hL
    obtain ⟨D, D', T, a, b, rfl, rfl, HI, hL⟩ := hrel
    have hab : a ≤ n := HI.out.2.2.2.2.2
    have hb9 : b ≤ n + 20 := by have := HI.out; omega
    by_cases hle : b ≤ n
    · have hT : 20 ≤ T.length := by have h1 := HI.out; have h2 := HN.out; have h3 := congrArg List.length h1.1; simp at h3; omega
      obtain ⟨L, T1, HT⟩ : ∃ L T1, Hid (T = L ++ T1 ∧ L.length = 20) := ⟨T.take 20, T.drop 20, Lib.hid ⟨(List.take_append_drop _ _).symm, by rw [List.length_take]; omega⟩⟩
      have hq : ∀ w', Loc w (· = g) w' [it E base g n c (D' ++ T)] → Hid (Calls Tryd.prog 62 #[.slice (some ⟨g, 0, none⟩) n c, .int .i64 a, .int .i64 b, .func (.func f) #[] cb] w' fun e w2 => e = .returned (.tuple #[]) ∧ Loc w' (· = g) w2 [it E base g n c (D' ++ Stab.isort (ltf cf) L ++ T1)]) := fun w' h => hide (by
        have h1 := HI.out; have h2 := HN.out; have h3 := congrArg List.length h1.1; have h4 := HT.out
        rw [h4.1] at h h3
        simp only [List.length_append] at h3
        have q := ofR E h
        rw [← List.append_assoc] at q
        exact insertion E f cb cf eg ho w' base g n c a b D' L T1 ((unhide HC).next h.mod) q (by simp; omega) h1.2.2.1 (by omega) hmax)
      clear hT
      go_wp2_with (go_at_call 62; (with_reducible refine (unhide (hq _ hL)).mono ?_); rintro _ w2 ⟨rfl, hL2⟩; have hL := hL.overRow hL2; clear hL2)
      go_roundw
      case rel =>
        refine ⟨D ++ L, D' ++ Stab.isort (ltf cf) L, T1, b, b + 20, rfl, by go_num, Lib.hid ?_, hL⟩
        have h1 := HI.out; have h4 := HT.out
        have h5 := (Stab.isort_of ho L).perm.length_eq
        refine ⟨by rw [h1.1, h4.1, List.append_assoc], h1.2.1.snoc h4.2 (Stab.isort_of ho L), by simp; omega, by simp; omega, rfl, hle⟩
      case measure => simp [intOf]; omega
    · have hq : ∀ w', Loc w (· = g) w' [it E base g n c (D' ++ T)] → Hid (Calls Tryd.prog 62 #[.slice (some ⟨g, 0, none⟩) n c, .int .i64 a, .int .i64 n, .func (.func f) #[] cb] w' fun e w2 => e = .returned (.tuple #[]) ∧ Loc w' (· = g) w2 [it E base g n c (D' ++ Stab.isort (ltf cf) T ++ [])]) := fun w' h => hide (by
        have h1 := HI.out; have h2 := HN.out; have h3 := congrArg List.length h1.1
        simp only [List.length_append] at h3
        have q := ofR E h
        rw [← List.append_nil (D' ++ T)] at q
        exact insertion E f cb cf eg ho w' base g n c a n D' T [] ((unhide HC).next h.mod) q (by simp; omega) h1.2.2.1 (by omega) hmax)
      have HB : Hid (Stab.Ch (ltf cf) 20 xs (D' ++ Stab.isort (ltf cf) T ++ [])) := Lib.hid (by
        have h1 := HI.out; have h2 := HN.out; have h3 := congrArg List.length h1.1
        simp only [List.length_append] at h3
        rw [List.append_nil, h1.1]
        exact h1.2.1.finish (by omega) (Stab.isort_of ho T))
      generalize D' ++ Stab.isort (ltf cf) T ++ [] = ys0 at hq HB
      go_wp2_with (go_at_call 62; (with_reducible refine (unhide (hq _ hL)).mono ?_); rintro _ w2 ⟨rfl, hL2⟩; have hL := hL.overRow hL2; clear hL2)
      clear hq
      go_loopw [6, 7, 8, 9] (fun kv av bv mv wr => ∃ (k : Nat) (ys : List α), kv = .int .i64 k ∧ Hid (Stab.Ch (ltf cf) k xs ys ∧ 1 ≤ k) ∧ Loc w (· = g) wr [it E base g n c ys]) (fun kv _ _ _ _ => n - (intOf kv).toNat)
      case atStart => exact ⟨20, ys0, rfl, Lib.hid ⟨HB.out, by omega⟩, hL⟩
      case round =>
        clear hL HB HI
        obtain ⟨k, ys, rfl, HK, hL⟩ := hrel
        by_cases hkn : k < n
        · obtain ⟨k2, hk2, hk3, hk9⟩ : ∃ k2 : Nat, 2 * (k : Int) = (k2 : Int) ∧ (k : Int) * 2 = (k2 : Int) ∧ k2 ≤ n + n := ⟨2 * k, by omega, by omega, by omega⟩
          have HK2 := Lib.hid (show k2 = k + k ∧ 1 ≤ k from ⟨by omega, HK.out.2⟩)
          go_wp2
          go_loopw [7, 8] (fun av bv wr => ∃ (D D' T T' : List α) (a b : Nat), av = .int .i64 a ∧ bv = .int .i64 b ∧ Hid (xs = D ++ T ∧ Stab.Full (ltf cf) k2 D D' ∧ Stab.Ch (ltf cf) k T T' ∧ a = D'.length ∧ b = a + k2 ∧ a ≤ n ∧ D'.length = D.length ∧ T'.length = T.length) ∧ Loc w (· = g) wr [it E base g n c (D' ++ T')]) (fun av bv _ => n + k2 - (intOf bv).toNat)
          case atStart => exact ⟨[], [], xs, ys, 0, k2, rfl, rfl, Lib.hid ⟨rfl, .nil, HK.out.1, rfl, by omega, Nat.zero_le _, rfl, HK.out.1.len⟩, hL⟩
          case round =>
            clear hL
            obtain ⟨D, D', T, T', a, b, rfl, rfl, HI, hL⟩ := hrel
            have hab : a ≤ n := HI.out.2.2.2.2.2.1
            have hb8 : b ≤ n + n + n := by have := HI.out; omega
            obtain ⟨m, hm, hm9⟩ : ∃ m : Nat, (a : Int) + (k : Int) = (m : Int) ∧ m ≤ n + n := ⟨a + k, by omega, by omega⟩
            have HM : Hid (m = a + k) := Lib.hid (by omega)
            by_cases hle2 : b ≤ n
            · obtain ⟨A, B, r, A', B', r', HT⟩ : ∃ A B r A' B' r', Hid (T = A ++ B ++ r ∧ T' = A' ++ B' ++ r' ∧ A'.length = k ∧ B'.length = k ∧ A.length = k ∧ B.length = k ∧ Stab.Sorted (ltf cf) A' ∧ Stab.Sorted (ltf cf) B' ∧ (∀ L, Stab.Of (ltf cf) (A' ++ B') L → Stab.Of (ltf cf) (A ++ B) L) ∧ Stab.Ch (ltf cf) k r r') := by
                have h1 := HI.out; have h2 := HN.out; have h3 := congrArg List.length h1.1; have h4 := HK2.out
                simp only [List.length_append] at h3
                obtain ⟨A, B, r, A', B', r', h⟩ := h1.2.2.1.two (by omega)
                exact ⟨A, B, r, A', B', r', Lib.hid h⟩
              have hq : ∀ w', Loc w (· = g) w' [it E base g n c (D' ++ T')] → Hid (Calls Tryd.prog 63 #[.slice (some ⟨g, 0, none⟩) n c, .int .i64 a, .int .i64 m, .int .i64 b, .func (.func f) #[] cb] w' (Merged E (ltf cf) w' base g n c D' A' B' r')) := fun w' h => hide (by
                have h1 := HI.out; have h2 := HN.out; have h3 := congrArg List.length h1.1; have h4 := HT.out; have h5 := HM.out; have h6 := HK2.out
                have h7 := congrArg List.length h4.1; have h8 := congrArg List.length h4.2.1
                simp only [List.length_append] at h3 h7 h8
                refine unhide HQ (A'.length + B'.length) w' a m b D' A' B' r' (Nat.le_refl _) (by rintro rfl; simp at h4; omega) (by rintro rfl; simp at h4; omega) ((unhide HC).next h.mod) ?_ (by simp; omega) h1.2.2.2.1 (by omega) (by omega) h4.2.2.2.2.2.2.1 h4.2.2.2.2.2.2.2.1
                have q := ofR E h
                rw [h4.2.1, show D' ++ (A' ++ B' ++ r') = D' ++ A' ++ B' ++ r' from by simp] at q
                exact q)
              go_wp2_with (go_at_call 63; (with_reducible refine (unhide (hq _ hL)).mono ?_); rintro _ w3 ⟨rfl, L, hO, hL2⟩; have HO := Lib.hid hO; have hL := hL.overRow hL2; clear hL2 hO)
              go_roundw
              case rel =>
                refine ⟨D ++ (A ++ B), D' ++ L, r, r', b, b + k2, rfl, by go_num, Lib.hid ?_, hL⟩
                have h1 := HI.out; have h4 := HT.out; have h6 := HK2.out
                have h5 := HO.out.perm.length_eq
                simp only [List.length_append] at h5
                refine ⟨by rw [h1.1, h4.1]; simp, h1.2.1.snoc (by simp; omega) (h4.2.2.2.2.2.2.2.2.1 _ HO.out), h4.2.2.2.2.2.2.2.2.2, by simp; omega, rfl, hle2, by simp; omega, h4.2.2.2.2.2.2.2.2.2.len⟩
              case measure => have := HK2.out; simp [intOf]; omega
            · by_cases hmn : m < n
              · obtain ⟨A, B, A', B', HT⟩ : ∃ A B A' B', Hid (T = A ++ B ∧ T' = A' ++ B' ∧ A'.length = k ∧ A.length = k ∧ B'.length = B.length ∧ Stab.Sorted (ltf cf) A' ∧ Stab.Sorted (ltf cf) B' ∧ (∀ L, Stab.Of (ltf cf) (A' ++ B') L → Stab.Of (ltf cf) (A ++ B) L)) := by
                  have h1 := HI.out; have h2 := HN.out; have h3 := congrArg List.length h1.1; have h4 := HK2.out; have h5 := HM.out
                  simp only [List.length_append] at h3
                  obtain ⟨A, B, A', B', h⟩ := h1.2.2.1.rest (by omega) (by omega)
                  exact ⟨A, B, A', B', Lib.hid h⟩
                have hq : ∀ w', Loc w (· = g) w' [it E base g n c (D' ++ T')] → Hid (Calls Tryd.prog 63 #[.slice (some ⟨g, 0, none⟩) n c, .int .i64 a, .int .i64 m, .int .i64 n, .func (.func f) #[] cb] w' (Merged E (ltf cf) w' base g n c D' A' B' [])) := fun w' h => hide (by
                  have h1 := HI.out; have h2 := HN.out; have h3 := congrArg List.length h1.1; have h4 := HT.out; have h5 := HM.out; have h6 := HK2.out
                  have h7 := congrArg List.length h4.1; have h8 := congrArg List.length h4.2.1
                  simp only [List.length_append] at h3 h7 h8
                  refine unhide HQ (A'.length + B'.length) w' a m n D' A' B' [] (Nat.le_refl _) (by rintro rfl; simp at h4; omega) (by rintro rfl; simp at h4 h8; omega) ((unhide HC).next h.mod) ?_ (by simp; omega) h1.2.2.2.1 (by omega) (by omega) h4.2.2.2.2.2.1 h4.2.2.2.2.2.2.1
                  have q := ofR E h
                  rw [h4.2.1, show D' ++ (A' ++ B') = D' ++ A' ++ B' ++ [] from by simp] at q
                  exact q)
                go_wp2_with (go_at_call 63; (with_reducible refine (unhide (hq _ hL)).mono ?_); rintro _ w3 ⟨rfl, L, hO, hL2⟩; have HO := Lib.hid hO; have hL := hL.overRow hL2; clear hL2 hO)
                go_roundw
                case rel =>
                  refine ⟨k2, D' ++ L ++ [], rfl, Lib.hid ⟨?_, by have := HK2.out; omega⟩, hL⟩
                  have h1 := HI.out; have h4 := HT.out; have h6 := HK2.out; have h2 := HN.out; have h3 := congrArg List.length h1.1
                  have h7 := congrArg List.length h4.1
                  simp only [List.length_append] at h3 h7
                  rw [List.append_nil, h1.1, h4.1]
                  exact h1.2.1.finish (by simp; omega) (h4.2.2.2.2.2.2.2 _ HO.out)
                case measure => have := HK2.out; simp [intOf]; omega
              · have HB : Hid (Stab.Ch (ltf cf) k2 xs (D' ++ T')) := Lib.hid (by
                  have h1 := HI.out; have h6 := HK2.out; have h2 := HN.out; have h3 := congrArg List.length h1.1; have h5 := HM.out
                  simp only [List.length_append] at h3
                  rw [h1.1]
                  exact h1.2.1.finish (by omega) (h1.2.2.1.one (by omega)))
                go_wp2
                go_roundw
                case rel => exact ⟨k2, D' ++ T', rfl, Lib.hid ⟨HB.out, by have := HK2.out; omega⟩, hL⟩
                case measure => have := HK2.out; simp [intOf]; omega
        · have HB : Hid (Stab.Of (ltf cf) xs ys) := Lib.hid (HK.out.1.one (by have := HN.out; omega))
          go_wp2
          go_end0
          exact ⟨rfl, ys, HB.out, hL⟩
end Go.Proofs.YtebpacmhdkgfeaaDoor.SortEv

/- slices.SortStableFunc at []crannog/api.Event: printed by gen_sort.py. -/
namespace Go.Proofs.YtebpacmhdkgfeaaDoor.SortEv
open Go.RowKit

variable {α : Type} (E : Enc α) [hsz : SizeT Tryd.prog 31 E.sz]

/-- slices.SortStableFunc over a slice of one's own. -/
theorem sortStable (f : Nat) (cb : Array Value) (cf : α → α → Int) (eg : ∀ args w, (callFunc f args).run Tryd.prog w = .ok (.enter f args) w) (ho : Stab.Ord (ltf cf)) (w : World) (base g n c : Nat) (xs : List α) (hcmp : CmpOk E f cb cf w g) (h : Own E w base g n c xs) (hn : n = xs.length) (hmax : n ≤ 1000000000) :
    Calls Tryd.prog 31 #[.slice (some ⟨g, 0, none⟩) n c, .func (.func f) #[] cb] w fun e w' => e = .returned (.tuple #[]) ∧ ∃ L, Stab.Of (ltf cf) xs L ∧ Loc w (· = g) w' [it E base g n c L] := by
  have hq := hide (stable E f cb cf eg ho w base g n c xs hcmp h hn hmax)
  clear h hn hcmp
  go_enter Tryd.func31, Tryd.ntmps31
  go_wp2_with (go_at_call 50; (with_reducible refine (unhide hq).mono ?_); rintro _ w2 ⟨rfl, L, hO, hL⟩)
  go_end0
  exact ⟨rfl, L, hO, hL⟩
theorem insertionNil (w : World) (fv : Value) : Calls Tryd.prog 62 #[.slice none 0 0, .int .i64 0, .int .i64 0, fv] w fun e w' => e = .returned (.tuple #[]) ∧ w' = w := by
  go_enter Tryd.func62, Tryd.ntmps62
  go_wp2
  go_loopw [8] (fun iv wr => iv = .int .i64 1 ∧ wr = w) (fun _ _ => 0)
  case atStart => exact ⟨rfl, rfl⟩
  case round =>
    obtain ⟨rfl, rfl⟩ := hrel
    have t0 : decide ((1 : Int) < 0) = false := by decide
    go_wp2
    go_end0
    exact ⟨rfl, rfl⟩
end Go.Proofs.YtebpacmhdkgfeaaDoor.SortEv

/- Regions that draw their order: a head that reads and calls what only makes new memory, then a chain that may write. Over any program. -/
namespace Go.Proofs.YtebpacmhdkgfeaaDoor
open Go.RowKit

section
variable {P : Program} {ops : Array Oper} {md : Region.Mode} {C : World → Prop}
/-- Whatever order the head's n operations come in; L holds behind them. -/
def headQ (P : Program) (md : Region.Mode) (ops : Array Oper) (C : World → Prop) (n : Nat) (L : Array Bool → Act → Prop) : Nat → Array Bool → Act → Prop
  | 0, done, a => L done a
  | f + 1, done, a => Region.ready md ops done ≠ [] ∧ ∀ i ∈ Region.ready md ops done, i < n ∧ qOp P ops C i (headQ P md ops C n L f (done.setIfInBounds i true)) a
theorem wpAny_headQ {n g : Nat} {L : Array Bool → Act → Prop} {Q : Exit → Act → World → Prop} (hL : ∀ done a w, C w → L done a → wpAny P md ops Q g done a w) (f : Nat) :
    ∀ (done : Array Bool) (a : Act) (w : World), C w → headQ P md ops C n L f done a → wpAny P md ops Q (f + g) done a w := by
  induction f with
  | zero => intro done a w hw h; rw [Nat.zero_add]; exact hL _ _ _ hw h
  | succ f ih =>
    intro done a w hw h
    rw [Nat.succ_add]
    exact ⟨fun h0 => absurd h0 h.1, fun i hi => wpOp_of_qOp hw (fun a' w' hw' h' => ih _ a' w' hw' h') (h.2 i hi).2⟩
/-- Each of the head from k on is waited for, in the head or by the chain's first. -/
def sinkF (md : Region.Mode) (ops : Array Oper) (k n : Nat) : Bool := (List.range n).all fun i => decide (i < k) || (List.range (n + 1)).any fun j => decide (i < j) && Region.waitsFor md ops j i
theorem waitsF {k n : Nat} {done : Array Bool} (hs : sinkF md ops k n = true) (hc : Region.chainB md ops n = true) (hn : n < ops.size) (inv : HeadInv md ops n done) (d : Nat) :
    ∀ i, n - i = d → k ≤ i → i < n → done.getD i true = false → ∀ t, n ≤ t → t ∉ Region.ready md ops done := by
  induction d using Nat.strongRecOn with
  | _ d ih =>
    intro i hd hki hi hun t ht hr
    obtain ⟨_, ot, hot, hall⟩ := mem_ready.1 hr
    have htlt : t < ops.size := (Array.getElem?_eq_some_iff.1 hot).1
    by_cases htn : t = n
    · subst htn
      have h1 := List.all_eq_true.1 hs i (List.mem_range.2 hi)
      simp only [Bool.or_eq_true, decide_eq_true_eq] at h1
      obtain ⟨j, hj, hj2⟩ := List.any_eq_true.1 (h1.resolve_left (by omega))
      simp only [Bool.and_eq_true, decide_eq_true_eq] at hj2
      obtain ⟨oj, hoj, e, he, hb, hon⟩ := Region.waitsFor_spec hj2.2
      have hjle : j ≤ t := by have := List.mem_range.1 hj; omega
      by_cases hjt : j = t
      · subst hjt
        obtain rfl : oj = ot := Option.some.inj (hoj.symm.trans hot)
        have h2 := hall e he hb
        rw [hon, getD_both hun] at h2
        cases h2
      · cases hl : done.getD j false with
        | true =>
          have h2 := inv.closed j oj hoj hl e he hb
          rw [hon, getD_both hun] at h2
          cases h2
        | false => exact ih (t - j) (by omega) j rfl (by omega) (by omega) (getD_in (by rw [inv.size]; omega) hl) t (Nat.le_refl _) hr
    · have h1 := List.all_eq_true.1 hc t (List.mem_range.2 htlt)
      simp only [Bool.or_eq_true, decide_eq_true_eq] at h1
      obtain ⟨o', ho', e, he, hb, hon⟩ := Region.waitsFor_spec (h1.resolve_left (by omega))
      obtain rfl : o' = ot := Option.some.inj (ho'.symm.trans hot)
      have h2 := hall e he hb
      rw [hon, getD_both (inv.tail (t - 1) (by omega) (by omega))] at h2
      cases h2
/-- What may come first may be taken first. -/
theorem headQ_take {k n i : Nat} {oi : Oper} {v : Value} {L : Array Bool → Act → Prop} (hi : ops[i]? = some oi) (hsel : ∀ (j : Nat) (o : Oper) cs b, ops[j]? = some o → o.op ≠ .select cs b)
    (hs : sinkF md ops k n = true) (hc : Region.chainB md ops n = true) (hn : n < ops.size) (hki : k ≤ i) (hin : i < n) (hend : ∀ done a, L done a → ∀ j ∈ Region.ready md ops done, n ≤ j) (f : Nat) :
    ∀ (done : Array Bool) (a : Act), HeadInv md ops n done →
      (∀ j oj, ops[j]? = some oj → j ≠ i → done.getD j true = false → (∀ e ∈ oj.after, Region.binds md e = true → e.on ≠ i) → oi.apart ops oj = true) →
      i ∈ Region.ready md ops done → YieldsIn P ops C oi v a → headQ P md ops C n L f (done.setIfInBounds i true) (a.put oi.dst v) → headQ P md ops C n L (f + 1) done a := by
  have inHead : ∀ done, HeadInv md ops n done → i ∈ Region.ready md ops done → ∀ j ∈ Region.ready md ops done, j < n := fun done inv hr j hj => by
    rcases Nat.lt_or_ge j n with h | h
    · exact h
    · exact absurd hj (waitsF hs hc hn inv _ i rfl hki hin (mem_ready.1 hr).1 j h)
  induction f with
  | zero =>
    intro done a inv _ hr hy H
    refine ⟨fun h => (by rw [h] at hr; cases hr), fun j hj => ⟨inHead done inv hr j hj, ?_⟩⟩
    by_cases hji : j = i
    · subst hji; exact hy.qOp hi H
    · exact absurd (hend _ _ H j (ready_mono hj hji)) (by have := inHead done inv hr j hj; omega)
  | succ f ih =>
    intro done a inv hfree hr hy H
    refine ⟨fun h => (by rw [h] at hr; cases hr), fun j hj => ⟨inHead done inv hr j hj, ?_⟩⟩
    by_cases hji : j = i
    · subst hji; exact hy.qOp hi H
    · obtain ⟨hjun, oj, hoj, hall⟩ := mem_ready.1 hj
      have hnot : ∀ e ∈ oj.after, Region.binds md e = true → e.on ≠ i := fun e he hb heq => by
        have h1 := hall e he hb
        rw [heq, getD_both (mem_ready.1 hr).1] at h1
        cases h1
      have h2 := qOp_put hoj (hfree j oj hoj hji hjun hnot) (fun cs b => hsel i oi cs b hi) (fun cs b => hsel j oj cs b hoj) hy (H.2 j (ready_mono hj hji)).2
      refine qOp_mono (fun a' h3 => ih (done.setIfInBounds j true) a' (inv.set hj (inHead done inv hr j hj)) (fun q oq hq hqi hun hno => hfree q oq hq hqi ?_ hno) (ready_mono hr (Ne.symm hji)) h3.1 ?_) h2
      · by_cases hjk : j = q
        · subst hjk; exact hjun
        · rw [getD_set_ne true hjk] at hun; exact hun
      · rw [Array.setIfInBounds_comm _ _ hji]
        exact h3.2
theorem headQ_lex {n g k0 : Nat} {L : Act → Prop} (hsel : Region.noSelect ops = true) (hs : sinkF md ops k0 n = true) (hc : Region.chainB md ops n = true) (hn : n < ops.size) (l : List Oper) :
    ∀ (k : Nat) (done : Array Bool) (a : Act), k0 ≤ k → (∀ j, j < l.length → l[j]? = ops[k + j]?) → k + l.length = n → HeadInv md ops n done → Region.lexHead md ops g l.length k done = true → wpQuiet P ops C L l a →
    headQ P md ops C n (fun done' a' => Region.seqB md ops g n done' = true ∧ L a') l.length done a := by
  induction l with
  | nil =>
    intro k done a _ _ hk _ hB h
    obtain rfl : k = n := by simpa using hk
    exact ⟨by simpa [Region.lexHead] using hB, h⟩
  | cons o l ih =>
    intro k done a hk0 hl hk inv hB h
    have h0 : ops[k]? = some o := by simpa using (hl 0 (by simp)).symm
    simp only [List.length_cons, Region.lexHead, Bool.and_eq_true] at hB
    simp only [List.length_cons] at hk
    obtain ⟨⟨hr, hf⟩, hB'⟩ := hB
    have hr' : k ∈ Region.ready md ops done := by simpa using hr
    have hst : qOp P ops C k (wpQuiet P ops C L l) a := by unfold qOp; simp only [h0]; exact h
    obtain ⟨v, hy, hK⟩ := yieldsIn_of_qOp h0 hst
    exact headQ_take h0 (Region.noSelect_spec hsel) hs hc hn hk0 (by omega) (fun done' a' hL => seqB_ready hL.1) l.length done a inv (Region.free_spec h0 hf) hr' hy
      (ih (k + 1) _ _ (by omega) (fun j hj => by have := hl (j + 1) (by simp; omega); simpa [Nat.add_assoc, Nat.add_comm 1 j] using this) (by omega) (inv.set hr' (by omega)) hB' hK)
def closedB (md : Region.Mode) (ops : Array Oper) (n : Nat) (done : Array Bool) : Bool :=
  decide (done.size = ops.size) && ((List.range ops.size).all fun j => !(done.getD j false) || (match ops[j]? with | some oj => oj.after.all fun e => !(Region.binds md e) || done.getD e.on false | none => true)) && (List.range ops.size).all fun t => decide (t < n) || !(done.getD t true)
theorem closedB_spec {n : Nat} {done : Array Bool} (h : closedB md ops n done = true) : HeadInv md ops n done := by
  simp only [closedB, Bool.and_eq_true, decide_eq_true_eq] at h
  obtain ⟨⟨h1, h2⟩, h3⟩ := h
  refine ⟨h1, fun j oj hj hl e he hb => ?_, fun t ht ht2 => ?_⟩
  · have h4 := List.all_eq_true.1 h2 j (List.mem_range.2 (Array.getElem?_eq_some_iff.1 hj).1)
    rw [hl, hj] at h4
    simp only [Bool.not_true, Bool.false_or] at h4
    have h5 := Array.all_eq_true'.1 h4 e he
    rw [hb] at h5
    simpa using h5
  · have h4 := List.all_eq_true.1 h3 t (List.mem_range.2 ht2)
    simp only [Bool.or_eq_true, decide_eq_true_eq, Bool.not_eq_true'] at h4
    exact h4.resolve_left (by omega)
def tailB (ops : Array Oper) (k n : Nat) (done : Array Bool) : Bool :=
  Region.noSelect ops && decide (n < ops.size) && decide (k ≤ n) && sinkF .any ops k n && Region.chainB .any ops n && closedB .any ops n done && Region.lexHead .any ops (ops.size - n) (n - k) k done
theorem any_qtail {Q : Exit → Act → World → Prop} {a : Act} {w : World} {l : List Oper} {done : Array Bool} {f : Nat} (k n : Nat) (hf : l.toArray.size - k = f) (hB : tailB l.toArray k n done = true)
    (h : wpQuiet P l.toArray (fun w' => ∃ e : Ext w, w' = e.w) (fun a' => ∀ w', (∃ e : Ext w, w' = e.w) → wpList P l.toArray Q (l.drop n) a' w') ((l.take n).drop k) a) : wpAny P .any l.toArray Q f done a w := by
  simp only [tailB, Bool.and_eq_true, decide_eq_true_eq] at hB
  obtain ⟨⟨⟨⟨⟨⟨hsel, hn⟩, hkn⟩, hs⟩, hc⟩, hcl⟩, hlex⟩ := hB
  have hn' : n < l.length := by simpa using hn
  have htl : ((l.take n).drop k).length = n - k := by simp; omega
  have hdl : (l.drop n).length = l.toArray.size - n := by simp
  have H := headQ_lex (md := .any) (g := l.toArray.size - n) hsel hs hc hn ((l.take n).drop k) k _ a (Nat.le_refl _) (fun j hj => by
    rw [htl] at hj
    rw [List.getElem?_drop, List.getElem?_take_of_lt (by omega)]
    simp) (by rw [htl]; omega) (closedB_spec hcl) (by rw [htl]; exact hlex) h
  have := wpAny_headQ (Q := Q) (g := l.toArray.size - n) (fun done a' w' hw' hL => by
    have := wpAny_of_seq (md := .any) (Q' := Q) (l.drop n) n done a' w' (fun j => by simp [List.getElem?_drop]) (by rw [hdl]; exact hL.1) (hL.2 w' hw')
    rwa [hdl] at this) _ _ _ w ⟨⟨w, Below.refl _ _⟩, rfl⟩ H
  rw [htl, show n - k + (l.toArray.size - n) = l.toArray.size - k by omega, hf] at this
  exact this
/-- The head draws its order, the chain behind it does not. -/
theorem region_qtail {id : Nat} {Q : Exit → Act → World → Prop} {a : Act} {w w0 : World} {M : Nat → Prop} {its : List Item} {l : List Oper} (n : Nat) (hm : P.follows .mixedOrders = true) (hL : Loc w0 M w its) (hB : tailB l.toArray 0 n (Array.replicate l.toArray.size false) = true)
    (h : ∀ w1, Loc w0 M w1 its → wpQuiet P l.toArray (fun w' => ∃ e : Ext w1, w' = e.w) (fun a' => ∀ w', (∃ e : Ext w1, w' = e.w) → wpList P l.toArray Q (l.drop n) a' w') (l.take n) a) : (Code.region id l.toArray true).wp P Q a w :=
  region_any hm hL fun w1 hL1 _ _ => any_qtail 0 n rfl hB (by simpa using h w1 hL1)
/-- The same where the first operation is a move that only the chain waits for. -/
theorem region_qtail1 {id : Nat} {Q : Exit → Act → World → Prop} {a : Act} {w w0 : World} {M : Nat → Prop} {its : List Item} {o : Oper} {l : List Oper} {x : Operand} (n : Nat) (hm : P.follows .mixedOrders = true) (hL : Loc w0 M w its) (ho : o.op = .move x) (hg : o.guard = none)
    (hs : Region.noSelect (o :: l).toArray = true) (hfr : Region.free .any (o :: l).toArray (Array.replicate (o :: l).toArray.size false) 0 = true) (hr : (Region.ready .any (o :: l).toArray (Array.replicate (o :: l).toArray.size false)).contains 0 = true)
    (hB : tailB (o :: l).toArray 1 n ((Array.replicate (o :: l).toArray.size false).setIfInBounds 0 true) = true) (hQ2 : ∀ v c a w, Q (.panic c) (a.put o.dst v) w → Q (.panic c) a w)
    (h : ∀ w1, Loc w0 M w1 its → wpQuiet P (o :: l).toArray (fun w' => ∃ e : Ext w1, w' = e.w) (fun a' => ∀ w', (∃ e : Ext w1, w' = e.w) → wpList P (o :: l).toArray Q ((o :: l).drop n) a' w') (((o :: l).take n).drop 1) (a.put o.dst (a.eval x))) : (Code.region id (o :: l).toArray true).wp P Q a w := by
  refine region_any hm hL fun w1 hL1 _ _ => ?_
  have e : (o :: l).toArray.size = l.length + 1 := by simp
  rw [e]
  exact wpAny_takeN (.zero _ _) hs (by rw [← e]; exact hfr) (by rw [← e]; exact hr) (hQ2 _) (y_move _ hg ho rfl) (any_qtail 1 n (by simp) (by rw [← e]; exact hB) (h w1 hL1))
end
end Go.Proofs.YtebpacmhdkgfeaaDoor

/- Regions that draw their order, in which two loads of a variable each lead to a call that hands back new memory. Over any program. -/
namespace Go.Proofs.YtebpacmhdkgfeaaDoor
open Go.RowKit

theorem enters {P : Program} {f : FuncId} {fn : Func} (hf : P.funcs[f]? = some fn) (hname : (fn.name == "runtime.NumGoroutine") = false) (hb : fn.body.isNone = false) (args : Array Value) (w : World) :
    (callFunc f args).run P w = .ok (.enter f args) w := by
  have h1 : fn.name ≠ "runtime.NumGoroutine" := by simpa using hname
  have h2 : ¬ fn.body = none := by intro h; simp [h] at hb
  simp [callFunc, hf, h1, h2, Sem.run, program]
/-- Two items change places. -/
theorem Loc.comm {w0 w : World} {M : Nat → Prop} {l : List Item} {i j : Item} (h : Loc w0 M w (i :: j :: l)) : Loc w0 M w (j :: i :: l) := by
  have ha := h.apart
  rw [List.pairwise_cons, List.pairwise_cons] at ha
  obtain ⟨h1, h2, h3⟩ := ha
  refine ⟨h.mod, fun k hk => h.at_ k ?_, fun k hk => h.new k ?_, List.pairwise_cons.2 ⟨fun k hk => ?_, List.pairwise_cons.2 ⟨fun k hk => h1 k (.tail _ hk), h3⟩⟩⟩
  · rcases List.mem_cons.1 hk with rfl | hk
    · exact .tail _ (.head _)
    · rcases List.mem_cons.1 hk with rfl | hk
      · exact .head _
      · exact .tail _ (.tail _ hk)
  · rcases List.mem_cons.1 hk with rfl | hk
    · exact .tail _ (.head _)
    · rcases List.mem_cons.1 hk with rfl | hk
      · exact .head _
      · exact .tail _ (.tail _ hk)
  · rcases List.mem_cons.1 hk with rfl | hk
    · exact fun b hb hb' => h1 j (.head _) b hb' hb
    · exact h2 k hk
/-- A call that hands back a value and what is known by new blocks. -/
def Gives (P : Program) (f : FuncId) (args : Array Value) (it : Value → Item) (w : World) : Prop :=
  Calls P f args w fun e w' => ∃ v, e = .returned v ∧ Below w.heap.size w w' ∧ (it v).At w' ∧ ∀ k, (it v).S k → w.heap.size ≤ k
theorem gives_row {P : Program} {f : FuncId} {args : Array Value} {α : Type} {E : Enc α} {e : TypeId} {xs : List α} {w : World} {base : Nat} (hb : base ≤ w.heap.size) (h : Calls P f args w fun en w' => ∃ v, en = .returned v ∧ Loc w NoM w' [row E w.heap.size e v xs]) :
    Gives P f args (fun v => row E base e v xs) w :=
  h.mono fun _ _ ⟨v, he, hL⟩ => ⟨v, he, hL.below, row_at ((hL.own (.head _)).weaken hb), fun k hk => (hL.new _ (.head _) k hk).elim id fun h => h.elim⟩
section
variable {P : Program} {md : Region.Mode} {ops : Array Oper} {Q : Exit → Act → World → Prop}
/-- The operation is a call of f, once its argument stands. -/
def Enters (P : Program) (o : Oper) (p : Tmp) (u : Value) (f : FuncId) (args : Array Value) : Prop := ∀ (b : Act) (w : World), b.eval (.tmp p) = u → (execOp b.eval o).run P w = .ok (.enter f args) w
theorem enters_op {o : Oper} {p : Tmp} {u : Value} {f : FuncId} {fn : Func} {ats : Array TypeId} (hf : P.funcs[f]? = some fn) (hname : (fn.name == "runtime.NumGoroutine") = false) (hb : fn.body.isNone = false) (ho : o.op = .call { callee := .value (.func f), args := #[.tmp p], argTypes := ats }) :
    Enters P o p u f #[u] := fun b w hu => by
  have e : b.eval (Operand.func f) = .func (.func f) #[] #[] := rfl
  simp [execOp, ho, resolve, invoke, hu, e, Deferred.ofValue, enters hf hname hb]
theorem wpOp_runW {i : Nat} {o : Oper} {a : Act} {w w' : World} {v : Value} {K : Act → World → Prop} (hi : ops[i]? = some o) (hw : Region.wanted o (yielded ops a.tmps) = true) (hr : (execOp a.eval o).run P w = .ok (.value v) w') (h : K (a.put o.dst v) w') : wpOp P ops Q i K a w := by
  unfold wpOp
  simp only [hi, hw, if_true]
  refine .inl ?_
  unfold Oper.wp
  rw [hr]
  exact h
/-- Wanted in whatever frame that is as a but for the slots of ds. -/
def Wd (ops : Array Oper) (o : Oper) (a : Act) (ds : List Tmp) : Prop := ∀ b : Act, b.tmps.size = a.tmps.size → (∀ p, p ∉ ds → b.eval (.tmp p) = a.eval (.tmp p)) → Region.wanted o (yielded ops b.tmps) = true
theorem wd_free {o : Oper} {a : Act} {ds : List Tmp} (h : o.guard = none) : Wd ops o a ds := fun b _ _ => by simp [Region.wanted, h]
theorem wd_guard {o : Oper} {a : Act} {ds : List Tmp} {j d : Nat} {want : Bool} (h : o.guard = some (j, want)) (hd : (ops[j]?).bind (·.dst) = some d) (hs : d < a.tmps.size) (hv : a.eval (.tmp d) = .bool want) (hn : d ∉ ds) : Wd ops o a ds := fun b hz hb => by
  have h1 := (hb d hn).trans hv
  have h2 : b.tmps[d]? = some (.bool want) := by
    have hlt : d < b.tmps.size := by omega
    rw [Array.getElem?_eq_getElem hlt]
    simpa [Act.eval, hlt] using h1
  simp [Region.wanted, h, yielded, hd, h2]
theorem Wd.put {o : Oper} {a b : Act} {ds : List Tmp} (h : Wd ops o a ds) (hz : b.tmps.size = a.tmps.size) (hb : ∀ p, p ∉ ds → b.eval (.tmp p) = a.eval (.tmp p)) : Region.wanted o (yielded ops b.tmps) = true := h b hz hb
theorem wpOp_call {i : Nat} {o : Oper} {a : Act} {p : Tmp} {u : Value} {f : FuncId} {args : Array Value} {w0 w : World} {M : Nat → Prop} {l : List Item} {it : Value → Item} {K : Act → World → Prop} (hi : ops[i]? = some o) (hw : Region.wanted o (yielded ops a.tmps) = true) (he : Enters P o p u f args) (hu : a.eval (.tmp p) = u)
    (hL : Loc w0 M w l) (hc : Gives P f args it w) (h : ∀ v w', Below w.heap.size w w' → Loc w0 M w' (it v :: l) → K (a.put o.dst v) w') : wpOp P ops Q i K a w := by
  unfold wpOp
  simp only [hi, hw, if_true]
  refine .inl ?_
  unfold Oper.wp
  rw [he a w hu]
  exact hc.mono fun e w' ⟨v, e1, hb, hi, hS⟩ => by subst e1; exact h v w' hb (hL.callNew hb hi hS)
theorem wpAny_twoG {f i1 j1 i2 j2 : Nat} {L1 C1 L2 C2 : Oper} {done : Array Bool} {a : Act} {w w0 : World} {M : Nat → Prop} {l : List Item} {s1 s2 p1 p2 q1 q2 : Tmp} {u1 u2 : Value} {F1 F2 : FuncId} {A1 A2 : Array Value} {it1 it2 : Value → Item}
    (hi1 : ops[i1]? = some L1) (hj1 : ops[j1]? = some C1) (hi2 : ops[i2]? = some L2) (hj2 : ops[j2]? = some C2) (g1 : Wd ops L1 a [p1, q1, p2, q2]) (k1 : Wd ops C1 a [p1, q1, p2, q2]) (g2 : Wd ops L2 a [p1, q1, p2, q2]) (k2 : Wd ops C2 a [p1, q1, p2, q2])
    (d1 : L1.dst = some p1) (e1 : C1.dst = some q1) (d2 : L2.dst = some p2) (e2 : C2.dst = some q2)
    (r00 : Region.ready md ops done = [i1, i2]) (r10 : Region.ready md ops (done.setIfInBounds i1 true) = [j1, i2]) (r01 : Region.ready md ops (done.setIfInBounds i2 true) = [i1])
    (r20 : Region.ready md ops ((done.setIfInBounds i1 true).setIfInBounds j1 true) = [i2]) (r11 : Region.ready md ops ((done.setIfInBounds i1 true).setIfInBounds i2 true) = [j1])
    (r21 : Region.ready md ops (((done.setIfInBounds i1 true).setIfInBounds i2 true).setIfInBounds j1 true) = [j2])
    (nd : [p1, q1, p2, q2].Nodup) (ns1 : s1 ∉ [p1, q1, p2, q2]) (ns2 : s2 ∉ [p1, q1, p2, q2]) (ni : [i1, j1, i2, j2].Nodup) (hs : p1 < a.tmps.size ∧ p2 < a.tmps.size)
    (hL : Loc w0 M w l)
    (ld1 : ∀ (b : Act) (w' : World) (l' : List Item), Loc w0 M w' l' → (∀ i ∈ l, i ∈ l') → b.eval (.tmp s1) = a.eval (.tmp s1) → (execOp b.eval L1).run P w' = .ok (.value u1) w')
    (ld2 : ∀ (b : Act) (w' : World) (l' : List Item), Loc w0 M w' l' → (∀ i ∈ l, i ∈ l') → b.eval (.tmp s2) = a.eval (.tmp s2) → (execOp b.eval L2).run P w' = .ok (.value u2) w')
    (en1 : Enters P C1 p1 u1 F1 A1) (en2 : Enters P C2 p2 u2 F2 A2) (c1 : ∀ w' l', Loc w0 M w' l' → Below w.heap.size w w' → Gives P F1 A1 it1 w') (c2 : ∀ w' l', Loc w0 M w' l' → Below w.heap.size w w' → Gives P F2 A2 it2 w')
    (H : ∀ r1 r2 w', Loc w0 M w' (it2 r2 :: it1 r1 :: l) → wpAny P md ops Q f ((((done.setIfInBounds i1 true).setIfInBounds i2 true).setIfInBounds j1 true).setIfInBounds j2 true) ((((a.put (some p1) u1).put (some p2) u2).put (some q1) r1).put (some q2) r2) w') :
    wpAny P md ops Q (f + 4) done a w := by
  simp only [List.nodup_cons, List.mem_cons, List.not_mem_nil, not_or, or_false, not_false_eq_true, List.nodup_nil, and_true] at nd ni
  obtain ⟨⟨n1, n2, n3⟩, ⟨n6, n7⟩, n10⟩ := nd
  obtain ⟨⟨m1, m2, m3⟩, ⟨m4, m5⟩, m6⟩ := ni
  have pc : ∀ (b : Act) (p q : Tmp) (u v : Value), p ≠ q → (b.put (some p) u).put (some q) v = (b.put (some q) v).put (some p) u := fun b p q u v h => Act.put_comm b u v fun d h1 h2 => h (by rw [Option.some.inj h1, Option.some.inj h2])
  have ne : ∀ (b : Act) (d p : Tmp) (v : Value), d ≠ p → (b.put (some d) v).eval (.tmp p) = b.eval (.tmp p) := fun b d p v h => eval_put_ne (by simpa using h)
  have lc : ∀ (x : Array Bool) (i j : Nat), i ≠ j → (x.setIfInBounds i true).setIfInBounds j true = (x.setIfInBounds j true).setIfInBounds i true := fun x i j h => Array.setIfInBounds_comm _ _ h
  have sz : ∀ (b : Act) (p : Tmp) (v : Value), (b.put (some p) v).tmps.size = b.tmps.size := fun _ _ _ => size_put
  have ou : ∀ (b : Act) (p : Tmp) (v : Value), p ∈ [p1, q1, p2, q2] → (∀ r, r ∉ [p1, q1, p2, q2] → b.eval (.tmp r) = a.eval (.tmp r)) → ∀ r, r ∉ [p1, q1, p2, q2] → (b.put (some p) v).eval (.tmp r) = a.eval (.tmp r) := fun b p v hp hb r hr => by
    rw [eval_put_ne (by rintro h; injection h with h; subst h; exact hr hp)]; exact hb r hr
  have o0 : ∀ r, r ∉ [p1, q1, p2, q2] → a.eval (.tmp r) = a.eval (.tmp r) := fun _ _ => rfl
  have ip1 : p1 ∈ [p1, q1, p2, q2] := .head _
  have iq1 : q1 ∈ [p1, q1, p2, q2] := .tail _ (.head _)
  have ip2 : p2 ∈ [p1, q1, p2, q2] := .tail _ (.tail _ (.head _))
  have iq2 : q2 ∈ [p1, q1, p2, q2] := .tail _ (.tail _ (.tail _ (.head _)))
  have r21' : Region.ready md ops (((done.setIfInBounds i1 true).setIfInBounds j1 true).setIfInBounds i2 true) = [j2] := by rw [lc _ _ _ m4]; exact r21
  have both : wpAny P md ops Q (f + 2) ((done.setIfInBounds i1 true).setIfInBounds i2 true) ((a.put (some p1) u1).put (some p2) u2) w := by
    refine wpAny_all r11 (by simp) fun x hx => ?_
    obtain rfl := List.mem_singleton.1 hx
    refine wpOp_call hj1 (k1 _ (by simp only [sz]) (ou _ _ _ ip2 (ou _ _ _ ip1 o0))) en1 (by rw [ne _ _ _ _ (Ne.symm n2)]; exact eval_put_self hs.1) hL (c1 w l hL (Below.refl _ _)) fun v w2 hb2 hL2 => wpAny_all r21 (by simp) fun y hy => ?_
    obtain rfl := List.mem_singleton.1 hy
    rw [e1]
    refine wpOp_call hj2 (k2 _ (by simp only [sz]) (ou _ _ _ iq1 (ou _ _ _ ip2 (ou _ _ _ ip1 o0)))) en2 (by rw [ne _ _ _ _ n6]; exact eval_put_self (by rw [size_put]; exact hs.2)) hL2 (c2 w2 _ hL2 hb2) fun v' w3 hb3 hL3 => ?_
    rw [e2]
    exact H v v' w3 hL3
  refine wpAny_all r00 (by simp) fun x hx => ?_
  rcases List.mem_cons.1 hx with rfl | hx
  · refine wpOp_runW hi1 (g1 _ rfl o0) (ld1 a w l hL (fun _ h => h) rfl) (wpAny_all r10 (by simp) fun y hy => ?_)
    rw [d1]
    rcases List.mem_cons.1 hy with rfl | hy
    · refine wpOp_call hj1 (k1 _ (by simp only [sz]) (ou _ _ _ ip1 o0)) en1 (eval_put_self hs.1) hL (c1 w l hL (Below.refl _ _)) fun v w2 hb2 hL2 => wpAny_all r20 (by simp) fun z hz => ?_
      obtain rfl := List.mem_singleton.1 hz
      rw [e1]
      refine wpOp_runW hi2 (g2 _ (by simp only [sz]) (ou _ _ _ iq1 (ou _ _ _ ip1 o0))) (ld2 _ w2 _ hL2 (fun _ h => .tail _ h) (ou _ _ _ iq1 (ou _ _ _ ip1 o0) _ ns2)) (wpAny_all r21' (by simp) fun z hz => ?_)
      obtain rfl := List.mem_singleton.1 hz
      rw [d2]
      refine wpOp_call hj2 (k2 _ (by simp only [sz]) (ou _ _ _ ip2 (ou _ _ _ iq1 (ou _ _ _ ip1 o0)))) en2 (eval_put_self (by rw [size_put, size_put]; exact hs.2)) hL2 (c2 w2 _ hL2 hb2) fun v' w3 hb3 hL3 => ?_
      rw [e2, pc _ _ _ _ _ n6, lc _ _ _ m4]
      exact H v v' w3 hL3
    · obtain rfl := List.mem_singleton.1 hy
      refine wpOp_runW hi2 (g2 _ (by simp only [sz]) (ou _ _ _ ip1 o0)) (ld2 _ w l hL (fun _ h => h) (ou _ _ _ ip1 o0 _ ns2)) ?_
      rw [d2]
      exact both
  · obtain rfl := List.mem_singleton.1 hx
    refine wpOp_runW hi2 (g2 _ rfl o0) (ld2 a w l hL (fun _ h => h) rfl) (wpAny_all r01 (by simp) fun y hy => ?_)
    rw [d2]
    obtain rfl := List.mem_singleton.1 hy
    refine wpOp_runW hi1 (g1 _ (by simp only [sz]) (ou _ _ _ ip2 o0)) (ld1 _ w l hL (fun _ h => h) (ou _ _ _ ip2 o0 _ ns1)) ?_
    rw [d1, pc _ _ _ _ _ (Ne.symm n2), lc _ _ _ (Ne.symm m2)]
    exact both
theorem wpAny_two {f i1 j1 i2 j2 : Nat} {L1 C1 L2 C2 : Oper} {done : Array Bool} {a : Act} {w w0 : World} {M : Nat → Prop} {l : List Item} {T1 T2 t : TypeId} {s1 s2 p1 p2 q1 q2 : Tmp} {g o1 o2 : Nat} {cs : List Value} {u1 u2 : Value} {F1 F2 : FuncId} {A1 A2 : Array Value} {it1 it2 : Value → Item}
    (hi1 : ops[i1]? = some L1) (hj1 : ops[j1]? = some C1) (hi2 : ops[i2]? = some L2) (hj2 : ops[j2]? = some C2) (g1 : Wd ops L1 a [p1, q1, p2, q2]) (k1 : Wd ops C1 a [p1, q1, p2, q2]) (g2 : Wd ops L2 a [p1, q1, p2, q2]) (k2 : Wd ops C2 a [p1, q1, p2, q2])
    (d1 : L1.dst = some p1) (e1 : C1.dst = some q1) (d2 : L2.dst = some p2) (e2 : C2.dst = some q2)
    (r00 : Region.ready md ops done = [i1, i2]) (r10 : Region.ready md ops (done.setIfInBounds i1 true) = [j1, i2]) (r01 : Region.ready md ops (done.setIfInBounds i2 true) = [i1])
    (r20 : Region.ready md ops ((done.setIfInBounds i1 true).setIfInBounds j1 true) = [i2]) (r11 : Region.ready md ops ((done.setIfInBounds i1 true).setIfInBounds i2 true) = [j1])
    (r21 : Region.ready md ops (((done.setIfInBounds i1 true).setIfInBounds i2 true).setIfInBounds j1 true) = [j2])
    (nd : [p1, q1, p2, q2, s1, s2].Nodup) (ni : [i1, j1, i2, j2].Nodup) (hs : p1 < a.tmps.size ∧ p2 < a.tmps.size)
    (op1 : L1.op = .load T1 (.tmp s1)) (op2 : L2.op = .load T2 (.tmp s2)) (ht1 : OneT P T1) (ht2 : OneT P T2) (x1 : a.eval (.tmp s1) = .pointer (some ⟨g, o1, none⟩)) (x2 : a.eval (.tmp s2) = .pointer (some ⟨g, o2, none⟩))
    (hL : Loc w0 M w l) (hm : var g cs t ∈ l) (v1 : cs[o1]? = some u1) (v2 : cs[o2]? = some u2)
    (en1 : Enters P C1 p1 u1 F1 A1) (en2 : Enters P C2 p2 u2 F2 A2) (c1 : ∀ w' l', Loc w0 M w' l' → Below w.heap.size w w' → Gives P F1 A1 it1 w') (c2 : ∀ w' l', Loc w0 M w' l' → Below w.heap.size w w' → Gives P F2 A2 it2 w')
    (H : ∀ r1 r2 w', Loc w0 M w' (it2 r2 :: it1 r1 :: l) → wpAny P md ops Q f ((((done.setIfInBounds i1 true).setIfInBounds i2 true).setIfInBounds j1 true).setIfInBounds j2 true) ((((a.put (some p1) u1).put (some p2) u2).put (some q1) r1).put (some q2) r2) w') :
    wpAny P md ops Q (f + 4) done a w := by
  have nd2 := nd
  simp only [List.nodup_cons, List.mem_cons, List.not_mem_nil, not_or, or_false, not_false_eq_true, List.nodup_nil, and_true] at nd2
  obtain ⟨⟨n1, n2, n3, n4, n5⟩, ⟨n6, n7, n8, n9⟩, ⟨n10, n11, n12⟩, ⟨n13, n14⟩, n15⟩ := nd2
  refine wpAny_twoG (s1 := s1) (s2 := s2) (u1 := u1) (u2 := u2) hi1 hj1 hi2 hj2 g1 k1 g2 k2 d1 e1 d2 e2 r00 r10 r01 r20 r11 r21 ?_ ?_ ?_ ni hs hL
    (fun b w' l' hL' hs' hx => run_load1L ht1 hL' op1 (hx.trans x1) (hs' _ hm) v1) (fun b w' l' hL' hs' hx => run_load1L ht2 hL' op2 (hx.trans x2) (hs' _ hm) v2) en1 en2 c1 c2 H
  · simp only [List.nodup_cons, List.mem_cons, List.not_mem_nil, not_or, or_false, not_false_eq_true, List.nodup_nil, and_true]; exact ⟨⟨n1, n2, n3⟩, ⟨n6, n7⟩, n10⟩
  · simp only [List.mem_cons, List.not_mem_nil, not_or, or_false]; exact ⟨Ne.symm n4, Ne.symm n8, Ne.symm n11, Ne.symm n13⟩
  · simp only [List.mem_cons, List.not_mem_nil, not_or, or_false]; exact ⟨Ne.symm n5, Ne.symm n9, Ne.symm n12, Ne.symm n14⟩
/-- One operation alone may come. -/
theorem wpAny_one {f i : Nat} {done : Array Bool} {a : Act} {w : World} (r : Region.ready md ops done = [i]) (h : wpOp P ops Q i (fun a' w' => wpAny P md ops Q f (done.setIfInBounds i true) a' w') a w) : wpAny P md ops Q (f + 1) done a w :=
  wpAny_all r (by simp) fun x hx => by obtain rfl := List.mem_singleton.1 hx; exact h
theorem wpOp_calls {i : Nat} {o : Oper} {a : Act} {p : Tmp} {u : Value} {f : FuncId} {args : Array Value} {w : World} {R : Ending → World → Prop} {K : Act → World → Prop} (hi : ops[i]? = some o) (hw : Region.wanted o (yielded ops a.tmps) = true) (he : Enters P o p u f args) (hu : a.eval (.tmp p) = u)
    (hc : Calls P f args w R) (h : ∀ e w', R e w' → ∃ v, e = .returned v ∧ K (a.put o.dst v) w') : wpOp P ops Q i K a w := by
  unfold wpOp
  simp only [hi, hw, if_true]
  refine .inl ?_
  unfold Oper.wp
  rw [he a w hu]
  exact hc.mono fun e w' hr => by obtain ⟨v, e1, hk⟩ := h e w' hr; subst e1; exact hk
theorem run_litL {o : Oper} {a : Act} {W : World} {t : TypeId} {n : Nat} {parts : Array (Nat × Operand)} {e : TypeId} {sz : Nat} {z : Value} {cs : List Value} [ht : SliceT P t e] [hz : ZeroT P e z] [hs : SizeT P e sz] (ho : o.op = .buildSlice t n parts)
    (hn : decide (n * sz ≤ 16777216) = true) (h0 : decide (0 < n * sz) = true) (hfill : Instr.fill (fun i => some (i * sz, sz)) ((Array.range (n * sz)).map fun j => z.cells[j % z.cells.size]!) (parts.map fun (i, x) => (i, a.eval x)).toList = some cs.toArray) :
    (execOp a.eval o).run P W = .ok (.value (.slice (some ⟨W.heap.size, 0, none⟩) n n)) (W.alloc (.cells cs.toArray e)) := by
  obtain ⟨i, hi, hzz⟩ := Option.map_eq_some_iff.1 hz.zero
  have hsz : i.size = sz := by have := hs.size; simpa [hi] using this
  have h1 : ¬ n * sz > 2 ^ 24 := by have := of_decide_eq_true hn; omega
  have h2 : ¬ n * sz = 0 := by have := of_decide_eq_true h0; omega
  simp at hfill
  simp [execOp, ho, Instr.buildSlice, run_underlying ht.slice, sizeOf, typeInfo, hi, hsz, zeroValue, hzz, h1, h2, hfill, newRow]
end
end Go.Proofs.YtebpacmhdkgfeaaDoor

/- Each class once: what CompactFunc leaves of a sorted list, and that it is one list. -/
namespace Go.Proofs.YtebpacmhdkgfeaaDoor.Stab
variable {α : Type} {lt : α → α → Bool}
def collFrom (lt : α → α → Bool) : α → List α → List α
  | _, [] => []
  | p, x :: l => if eqv lt p x = true then collFrom lt x l else x :: collFrom lt x l
/-- The first of each run of equals. -/
def coll (lt : α → α → Bool) : List α → List α
  | [] => []
  | x :: l => x :: collFrom lt x l
def Strict (lt : α → α → Bool) (l : List α) : Prop := l.Pairwise fun x y => lt x y = true
theorem Strict.sorted (ho : Ord lt) {l : List α} (h : Strict lt l) : Sorted lt l := h.imp fun h => ho.asymm _ _ h
theorem eqv_iff {z x : α} : eqv lt z x = true ↔ lt z x = false ∧ lt x z = false := by simp [eqv]
theorem eqv_not {z x y : α} (ho : Ord lt) (h : lt x y = true) (h1 : eqv lt z x = true) : eqv lt z y = false := by
  cases h2 : eqv lt z y
  · rfl
  · rw [eqv_iff] at h1 h2
    rcases ho.part x z y h with h3 | h3
    · rw [h1.2] at h3; cases h3
    · rw [h2.1] at h3; cases h3
theorem eqv_congr (ho : Ord lt) {p x : α} (h : eqv lt p x = true) (z : α) : eqv lt z p = eqv lt z x := by
  rw [eqv_iff] at h
  rw [Bool.eq_iff_iff, eqv_iff, eqv_iff]
  constructor
  · rintro ⟨h1, h2⟩
    exact ⟨ho.le_trans h.1 h1, ho.le_trans h2 h.2⟩
  · rintro ⟨h1, h2⟩
    exact ⟨ho.le_trans h.2 h1, ho.le_trans h2 h.1⟩
theorem collFrom_lt (ho : Ord lt) : ∀ (l : List α) (p : α), Sorted lt (p :: l) → Strict lt (collFrom lt p l) ∧ ∀ y ∈ collFrom lt p l, lt p y = true
  | [], p, _ => ⟨.nil, fun y hy => by cases hy⟩
  | x :: l, p, h => by
    have h1 := List.pairwise_cons.1 h
    have hxp := h1.1 x (.head _)
    obtain ⟨i1, i2⟩ := collFrom_lt ho l x h1.2
    unfold collFrom
    by_cases he : eqv lt p x = true
    · rw [if_pos he]
      exact ⟨i1, fun y hy => ho.le_lt hxp (i2 y hy)⟩
    · rw [if_neg he]
      have hpx : lt p x = true := by
        cases h2 : lt p x
        · exact absurd (eqv_iff.2 ⟨h2, hxp⟩) he
        · rfl
      refine ⟨List.pairwise_cons.2 ⟨i2, i1⟩, fun y hy => ?_⟩
      rcases List.mem_cons.1 hy with rfl | hy
      · exact hpx
      · exact ho.trans hpx (i2 y hy)
theorem coll_strict (ho : Ord lt) {l : List α} (h : Sorted lt l) : Strict lt (coll lt l) := by
  cases l with
  | nil => exact .nil
  | cons p l =>
    have h1 := collFrom_lt ho l p h
    exact List.pairwise_cons.2 ⟨h1.2, h1.1⟩
theorem strict_none (ho : Ord lt) {p z : α} {l : List α} (h : ∀ y ∈ l, lt p y = true) (hz : eqv lt z p = true) : l.filter (eqv lt z) = [] := by
  rw [List.filter_eq_nil_iff]
  intro y hy
  rw [eqv_not ho (h y hy) hz]
  simp
theorem collFrom_cls (ho : Ord lt) (z : α) : ∀ (l : List α) (p : α), Sorted lt (p :: l) → (p :: collFrom lt p l).filter (eqv lt z) = ((p :: l).filter (eqv lt z)).take 1
  | [], p, _ => by
    unfold collFrom
    by_cases h : eqv lt z p = true
    · simp [List.filter_cons, h]
    · simp [List.filter_cons, h]
  | x :: l, p, h => by
    have h1 := List.pairwise_cons.1 h
    have ih := collFrom_cls ho z l x h1.2
    have hlt := collFrom_lt ho (x :: l) p h
    by_cases hz : eqv lt z p = true
    · rw [List.filter_cons_of_pos hz, List.filter_cons_of_pos hz, strict_none ho hlt.2 hz]
      simp
    · rw [List.filter_cons_of_neg hz, List.filter_cons_of_neg hz]
      unfold collFrom
      by_cases he : eqv lt p x = true
      · rw [if_pos he]
        have hx : ¬ eqv lt z x = true := by rw [← eqv_congr ho he]; exact hz
        rw [List.filter_cons_of_neg hx] at ih
        exact ih
      · rw [if_neg he]; exact ih
theorem coll_cls (ho : Ord lt) {l : List α} (h : Sorted lt l) (z : α) : (coll lt l).filter (eqv lt z) = (l.filter (eqv lt z)).take 1 := by
  cases l with
  | nil => rfl
  | cons p l => exact collFrom_cls ho z l p h
theorem strict_uniq (ho : Ord lt) : ∀ {k k' : List α}, Strict lt k → Strict lt k' → (∀ z, k.filter (eqv lt z) = k'.filter (eqv lt z)) → k = k'
  | [], [], _, _, _ => rfl
  | [], b :: u, _, _, h => by have h1 := h b; rw [List.filter_cons_of_pos (eqv_refl ho b)] at h1; cases h1
  | a :: t, [], _, _, h => by have h1 := h a; rw [List.filter_cons_of_pos (eqv_refl ho a)] at h1; cases h1
  | a :: t, b :: u, h1, h2, h => by
    have p1 := List.pairwise_cons.1 h1
    have p2 := List.pairwise_cons.1 h2
    have ma : a ∈ b :: u := by
      have h3 := h a
      rw [List.filter_cons_of_pos (eqv_refl ho a)] at h3
      have : a ∈ (b :: u).filter (eqv lt a) := by rw [← h3]; exact .head _
      exact (List.mem_filter.1 this).1
    have mb : b ∈ a :: t := by
      have h3 := h b
      rw [List.filter_cons_of_pos (eqv_refl ho b)] at h3
      have : b ∈ (a :: t).filter (eqv lt b) := by rw [h3]; exact .head _
      exact (List.mem_filter.1 this).1
    have hab : a = b := by
      rcases List.mem_cons.1 ma with e | e
      · exact e
      · rcases List.mem_cons.1 mb with e2 | e2
        · exact e2.symm
        · have q1 := p2.1 a e
          have q2 := ho.asymm _ _ (p1.1 b e2)
          rw [q1] at q2; cases q2
    subst hab
    refine congrArg (a :: ·) (strict_uniq ho p1.2 p2.2 fun z => ?_)
    by_cases hz : eqv lt z a = true
    · rw [strict_none ho p1.1 hz, strict_none ho p2.1 hz]
    · have h3 := h z
      rw [List.filter_cons_of_neg hz, List.filter_cons_of_neg hz] at h3
      exact h3
/-- Each class's first, in order. -/
structure Firsts (lt : α → α → Bool) (l k : List α) : Prop where
  strict : Strict lt k
  cls : ∀ z, k.filter (eqv lt z) = (l.filter (eqv lt z)).take 1
theorem Firsts.uniq (ho : Ord lt) {l k k' : List α} (h : Firsts lt l k) (h' : Firsts lt l k') : k = k' := strict_uniq ho h.strict h'.strict fun z => (h.cls z).trans (h'.cls z).symm
theorem firsts_coll (ho : Ord lt) {l L : List α} (h : Of lt l L) : Firsts lt l (coll lt L) := ⟨coll_strict ho h.sorted, fun z => by rw [coll_cls ho h.sorted, h.cls]⟩
theorem take1_perm {x y : List α} (h : x.Perm y) (hx : x.length ≤ 1) : x = y.take 1 ∧ y = x := by
  match x, hx with
  | [], _ => have := h.nil_eq; subst this; exact ⟨rfl, rfl⟩
  | [a], _ =>
    have h1 := List.singleton_perm.1 h
    subst h1
    exact ⟨rfl, rfl⟩
theorem strict_cls_len (ho : Ord lt) {k : List α} (h : Strict lt k) (z : α) : (k.filter (eqv lt z)).length ≤ 1 := by
  induction k with
  | nil => simp
  | cons a t ih =>
    have p1 := List.pairwise_cons.1 h
    by_cases hz : eqv lt z a = true
    · rw [List.filter_cons_of_pos hz, strict_none ho p1.1 hz]; simp
    · rw [List.filter_cons_of_neg hz]; exact ih p1.2
/-- What stands in order and unlike comes back whichever way it is turned. -/
theorem firsts_turn (ho : Ord lt) {x k L : List α} (hx : Strict lt x) (hp : x.Perm k) (h : Of lt k L) : coll lt L = x := by
  refine (firsts_coll ho h).uniq ho ⟨hx, fun z => ?_⟩
  exact (take1_perm (hp.filter _) (strict_cls_len ho hx z)).1
end Go.Proofs.YtebpacmhdkgfeaaDoor.Stab

/- Each class's first, by insertion: the document's Order. -/
namespace Go.Proofs.YtebpacmhdkgfeaaDoor.Stab
variable {α : Type} {lt : α → α → Bool}
theorem Firsts.nil : Firsts lt ([] : List α) [] := ⟨.nil, fun _ => rfl⟩
theorem Firsts.keep (ho : Ord lt) {l k : List α} (h : Firsts lt l k) {x e : α} (hx : x ∈ k) (he : eqv lt x e = true) : Firsts lt (l ++ [e]) k := by
  refine ⟨h.strict, fun z => ?_⟩
  rw [h.cls z, List.filter_append]
  by_cases hz : eqv lt z e = true
  · have h1 : x ∈ k.filter (eqv lt z) := List.mem_filter.2 ⟨hx, by rw [eqv_congr ho he]; exact hz⟩
    rw [h.cls z] at h1
    cases h2 : l.filter (eqv lt z) with
    | nil => rw [h2] at h1; cases h1
    | cons a t => rfl
  · rw [List.filter_cons_of_neg hz, List.filter_nil, List.append_nil]
theorem Firsts.ins (ho : Ord lt) {l k1 k2 : List α} (h : Firsts lt l (k1 ++ k2)) {e : α} (h1 : ∀ x ∈ k1, lt x e = true) (h2 : ∀ y ∈ k2, lt e y = true) : Firsts lt (l ++ [e]) (k1 ++ e :: k2) := by
  have hs := List.pairwise_append.1 h.strict
  refine ⟨List.pairwise_append.2 ⟨hs.1, List.pairwise_cons.2 ⟨h2, hs.2.1⟩, fun x hx y hy => ?_⟩, fun z => ?_⟩
  · rcases List.mem_cons.1 hy with rfl | hy
    · exact h1 x hx
    · exact hs.2.2 x hx y hy
  · have hc := h.cls z
    rw [List.filter_append] at hc
    rw [List.filter_append, List.filter_append]
    by_cases hz : eqv lt z e = true
    · have q2 : k2.filter (eqv lt z) = [] := strict_none ho h2 hz
      have q1 : k1.filter (eqv lt z) = [] := by
        rw [List.filter_eq_nil_iff]
        intro x hx hzx
        have := eqv_not ho (h1 x hx) hzx
        rw [this] at hz; cases hz
      rw [q1, q2] at hc
      rw [List.filter_cons_of_pos hz, List.filter_cons_of_pos hz, q1, q2]
      cases h3 : l.filter (eqv lt z) with
      | nil => rfl
      | cons a t => rw [h3] at hc; cases hc
    · rw [List.filter_cons_of_neg hz, List.filter_cons_of_neg hz, List.filter_nil, List.append_nil]
      exact hc
end Go.Proofs.YtebpacmhdkgfeaaDoor.Stab

/- Chapter 29: events sorted. -/
namespace Go.Proofs.YtebpacmhdkgfeaaDoor
open Go.RowKit

theorem Evt.cmp_lt (x y : Evt) : x.cmp y < 0 ↔ (x.at_.boot < y.at_.boot ∨ x.at_.boot = y.at_.boot ∧ (x.at_.n < y.at_.n ∨ x.at_.n = y.at_.n ∧ x.vol < y.vol)) := by
  have he : x.at_ = y.at_ ↔ x.at_.boot = y.at_.boot ∧ x.at_.n = y.at_.n := by
    obtain ⟨⟨a1, a2⟩, _⟩ := x; obtain ⟨⟨b1, b2⟩, _⟩ := y; simp
  unfold Evt.cmp Mk.less

  by_cases h1 : x.at_.boot = y.at_.boot <;> by_cases h2 : x.at_.n = y.at_.n <;> by_cases h3 : x.at_.n < y.at_.n <;> by_cases h4 : x.at_.boot < y.at_.boot <;> by_cases h5 : x.vol < y.vol <;> by_cases h6 : x.vol = y.vol <;> simp [he, h1, h2, h3, h4, h5, h6] <;> try omega
/-- How two events stand, as they lie there. -/
abbrev Ep.cf (x y : Ep) : Int := x.e.cmp y.e
abbrev Ep.lt : Ep → Ep → Bool := SortEv.ltf Ep.cf
theorem Ep.ord : Stab.Ord Ep.lt := by
  constructor
  · intro x y h
    simp only [decide_eq_true_eq, decide_eq_false_iff_not, Evt.cmp_lt] at h ⊢
    omega
  · intro x y z h
    simp only [decide_eq_true_eq, Evt.cmp_lt] at h ⊢
    omega
theorem order_cmpOk (w : World) (g : Nat) : SortEv.CmpOk encEp 32 #[] Ep.cf w g := fun x y w' _ => story_order x.e y.e w'
theorem events_sort (w : World) (base g n c : Nat) (xs : List Ep) (h : SortEv.Own encEp w base g n c xs) (hn : n = xs.length) (hmax : n ≤ 1000000000) :
    Calls Tryd.prog 31 #[.slice (some ⟨g, 0, none⟩) n c, .func (.func 32) #[] #[]] w fun e w' => e = .returned (.tuple #[]) ∧ ∃ L, Stab.Of Ep.lt xs L ∧ Loc w (· = g) w' [SortEv.it encEp base g n c L] :=
  SortEv.sortStable encEp _ #[] Ep.cf (fun args w => enters Tryd.func32 (by kernel_rfl) (by kernel_rfl) args w) Ep.ord w base g n c xs (order_cmpOk w g) h hn hmax
end Go.Proofs.YtebpacmhdkgfeaaDoor
