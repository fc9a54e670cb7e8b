/- Texts laid together: Law29o. -/
import Derived.Test.YtebpacmhdkgfeaaDoorMo10
/- Chapter 29: the law StoryOrder, walked. -/
namespace Go.Proofs.YtebpacmhdkgfeaaDoor
open Go.RowKit

theorem all_cut {α : Type} (E : Enc α) (xs : List α) (r : Nat) (hr : r ≤ xs.length) : (E.all (xs.take r)).length = r * E.sz ∧ E.all xs = E.all (xs.take r) ++ E.all (xs.drop r) :=
  ⟨by rw [Enc.all_length, List.length_take, Nat.min_eq_left hr], by rw [← Enc.all_append, List.take_append_drop]⟩
theorem all_drop {α : Type} (E : Enc α) (xs : List α) (r : Nat) (hr : r ≤ xs.length) : E.all (xs.drop r) = (E.all xs).drop (r * E.sz) := by
  obtain ⟨hA, h⟩ := all_cut E xs r hr
  rw [h]
  generalize E.all (xs.take r) = A at *
  generalize E.all (xs.drop r) = B at *
  rw [← hA]
  simp
theorem all_take {α : Type} (E : Enc α) (xs : List α) (r : Nat) (hr : r ≤ xs.length) : E.all (xs.take r) = (E.all xs).take (r * E.sz) := by
  obtain ⟨hA, h⟩ := all_cut E xs r hr
  rw [h]
  generalize E.all (xs.take r) = A at *
  generalize E.all (xs.drop r) = B at *
  rw [← hA]
  simp
theorem R_drop {α : Type} {E : Enc α} {w : World} {g n c r : Nat} {xs : List α} (h : E.R w (.slice (some ⟨g, 0, none⟩) n c) xs) (hn : n = xs.length) (hr : r ≤ n) : E.R w (.slice (some ⟨g, r * E.sz, none⟩) (n - r) (c - r)) (xs.drop r) := by
  subst hn
  obtain ⟨h0, ao, c', e, hc, hm, h1⟩ := h
  injection e with e1 e2 e3
  subst e1 e3
  refine ⟨by rw [Enc.all_length], _, _, by rw [List.length_drop], by rw [List.length_drop]; omega, by rw [List.length_drop]; omega, ?_⟩
  rcases h1 with h1 | ⟨ad, e, h1⟩
  · exact .inl (by rw [List.length_drop]; omega)
  · injection e with e
    subst e
    refine .inr ⟨_, rfl, fun j u hj => ?_⟩
    rw [all_drop E xs r hr, List.getElem?_drop] at hj
    have := h1 _ _ hj
    have e1 : (⟨g, 0, none⟩ : Addr).add (r * E.sz + j) = ⟨g, r * E.sz + j, none⟩ := by unfold Addr.add; split <;> simp_all
    have e2 : (⟨g, r * E.sz, none⟩ : Addr).add j = ⟨g, r * E.sz + j, none⟩ := by unfold Addr.add; split <;> simp_all
    rw [e2]
    rwa [e1] at this
theorem R_take {α : Type} {E : Enc α} {w : World} {g n c r : Nat} {xs : List α} (h : E.R w (.slice (some ⟨g, 0, none⟩) n c) xs) (hn : n = xs.length) (hr : r ≤ n) : E.R w (.slice (some ⟨g, 0, none⟩) r c) (xs.take r) := by
  subst hn
  obtain ⟨h0, ao, c', e, hc, hm, h1⟩ := h
  injection e with e1 e2 e3
  subst e1 e3
  refine ⟨by rw [Enc.all_length], _, _, by rw [List.length_take, Nat.min_eq_left hr], by rw [List.length_take]; omega, by rw [List.length_take]; omega, ?_⟩
  rcases h1 with h1 | ⟨ad, e, h1⟩
  · exact .inl (by rw [List.length_take]; omega)
  · refine .inr ⟨ad, e, fun j u hj => ?_⟩
    rw [all_take E xs r hr] at hj
    refine h1 j u ?_
    have hlt := (List.getElem?_eq_some_iff.1 hj).1
    rw [List.length_take] at hlt
    rw [List.getElem?_take_of_lt (by omega)] at hj
    exact hj
theorem two_ {α : Type} {E : Enc α} {w : World} {s0 s1 : Sl} {x0 x1 : List α} (h0 : E.R w s0.val x0) (h1 : E.R w s1.val x1) :
    ∀ i (_ : i < [s0, s1].length) (_ : i < [x0, x1].length), E.R w [s0, s1][i].val [x0, x1][i] := by
  intro i hi hi2
  match i, hi with
  | 0, _ => exact h0
  | 1, _ => exact h1
theorem turn_mod (t : Int) (n : Nat) (hn : 0 < n) (hm : n ≤ 1000) : ∃ r : Nat, wrap64 ((IntKind.u64.wrap t).tmod (n : Int)) = (r : Int) ∧ r < n := by
  rw [IntKind.wrap_u64]
  have h0 : 0 ≤ t % 18446744073709551616 := Int.emod_nonneg _ (by decide)
  rw [Int.tmod_eq_emod_of_nonneg h0]
  have h1 : 0 ≤ (t % 18446744073709551616) % (n : Int) := Int.emod_nonneg _ (by omega)
  have h2 : (t % 18446744073709551616) % (n : Int) < (n : Int) := Int.emod_lt_of_pos _ (by omega)
  refine ⟨((t % 18446744073709551616) % (n : Int)).toNat, ?_, by omega⟩
  unfold wrap64
  omega
theorem collFrom_mem (l : List Ep) : ∀ p x, x ∈ Stab.collFrom Ep.lt p l → x ∈ l := by
  induction l with
  | nil => intro p x h; cases h
  | cons y l ih =>
    intro p x h
    unfold Stab.collFrom at h
    split at h
    · exact .tail _ (ih _ _ h)
    · rcases List.mem_cons.1 h with rfl | h
      · exact .head _
      · exact .tail _ (ih _ _ h)
theorem coll_mem {l : List Ep} {x : Ep} (h : x ∈ Stab.coll Ep.lt l) : x ∈ l := by
  cases l with
  | nil => cases h
  | cons y l =>
    rcases List.mem_cons.1 h with rfl | h
    · exact .head _
    · exact .tail _ (collFrom_mem l _ _ h)
/-- Each event once, in order: it has what the list has, and stays whichever way it is turned. -/
theorem order_facts {ps L : List Ep} (h : Stab.Of Ep.lt ps L) : (∀ x ∈ Stab.coll Ep.lt L, x ∈ ps) ∧ (Stab.coll Ep.lt L).length ≤ ps.length ∧ ∀ K L', (Stab.coll Ep.lt L).Perm K → Stab.Of Ep.lt K L' → Stab.coll Ep.lt L' = Stab.coll Ep.lt L :=
  ⟨fun x hx => h.mem.1 (coll_mem hx), by have := Stab.coll_len (lt := Ep.lt) L; rw [h.len] at this; exact this, fun K L' hp hO => Stab.firsts_turn Ep.ord (Stab.coll_strict Ep.ord h.sorted) hp hO⟩
set_option maxRecDepth 100000 in
set_option maxHeartbeats 8000000 in
theorem law_order (v : Value) (ps : List Ep) (turn : Int) (B : Nat) (w : World) (h : encEp.R w v ps) (hO : ∀ p ∈ ps, p.Ok w B) (hturn : I64 turn) (ht : Tb w) :
    Calls Tryd.prog 4 #[v, .int .i64 turn] w fun e w' => e = .returned (.bool true) ∧ Below w.heap.size w w' := by
  have hL := Loc.nil w NoM
  have HR := Lib.hid h
  have HO := Lib.hid hO
  have hsm := Lib.hid (law_small v ps w h fun p hp => (hO p hp).sta)
  clear h hO
  go_enter Tryd.func4, Tryd.ntmps4
  go_wp2_with (first
    | (go_at_call 6; (with_reducible refine hsm.out.mono ?_); rintro e w1 ⟨⟨b, rfl, hbp⟩, hb1⟩; have hL := hL.call hb1; clear hb1 hsm; refine stop ?_))
  unfold Stop
  cases b
  · go_wp2_with (first
      | (go_at_call 10; have hq := awake29 _ (ht.below hL.below); (with_reducible refine hq.mono ?_); rintro en w9 ⟨rfl, hb9⟩; have hL := hL.call hb9; clear hb9 hq))
    go_ret
    exact ⟨rfl, hL.below⟩
  obtain ⟨hn, -⟩ := hbp rfl
  clear hbp
  have hq1 := Lib.hid (story_Order v ps w1 (HR.out.below hL.below) (by omega))
  go_wp2_with (first
    | (go_at_call 11; (with_reducible refine hq1.out.mono ?_); rintro e w2 ⟨u, L, rfl, hof, hL2⟩; have hL := hL.takeRow hL2; clear hL2 hq1; refine stop ?_))
  unfold Stop
  obtain ⟨f1, f2, f3⟩ := order_facts hof
  clear hof
  have F3 := Lib.hid f3
  have hX : Stab.coll Ep.lt L = Stab.coll Ep.lt L := rfl
  clear f3 hX
  generalize Stab.coll Ep.lt L = X at *
  have HX : Hid (∀ p ∈ X, p.Ok w B) := Lib.hid fun p hp => HO.out p (f1 p hp)
  have hXl : X.length ≤ 60 := by omega
  have sta : ∀ wx, Below w.heap.size w wx → ∀ p ∈ X, p.e.sta.Ok wx p.d := fun wx hb p hp => ((HX.out p hp).below hb).sta
  have STA := Lib.hid sta
  clear f1 f2 sta HO HR
  have hq2 := Lib.hid (story_Order u X w2 (hL.own (E := encEp) (.head _)).read (by omega))
  go_wp2_with (first
    | (go_at_call 11; (with_reducible refine hq2.out.mono ?_); rintro e w3 ⟨u2, L2, rfl, hof, hL2⟩; rw [F3.out X L2 (.refl _) hof] at hL2; have hL := hL.takeRow hL2; clear hL2 hq2 hof)
    | (go_at_call 12; have hq := same_events u2 u X _ (hL.own (E := encEp) (.head _)).read (hL.own (E := encEp) (.tail _ (.head _))).read (STA.out _ hL.below); (with_reducible refine hq.mono ?_); rintro e w4 ⟨rfl, hb4⟩; have hL := hL.call hb4; clear hb4 hq)
    | (go_at_call 13; have hq := clone_events u X _ (hL.own (E := encEp) (.tail _ (.head _))).read (by omega); (with_reducible refine hq.mono ?_); rintro e w5 ⟨u3, rfl, hL5⟩; have HC := Lib.hid (own_cases hL5); have hL := hL.takeRow hL5; clear hL5 hq; refine stop ?_))
  unfold Stop
  rcases HC.out with ⟨rfl, hXe⟩ | ⟨g, c, rfl, hc1, hc2, -⟩
  · clear HC
    subst hXe
    have hq5 : ∀ wx, Loc w NoM wx [row encEp w.heap.size 31 (.slice none 0 0) ([] : List Ep)] → Hid (Calls Tryd.prog 11 #[(.slice none 0 0)] wx fun e w' => ∃ u L, e = .returned u ∧ Stab.Of Ep.lt ([] : List Ep) L ∧ Loc wx NoM w' [row encEp wx.heap.size 31 u (Stab.coll Ep.lt L)]) := fun wx hx => Lib.hid (story_Order _ _ wx (hx.own (E := encEp) (.head _)).read (by simp))
    go_wp2_with (first
      | (go_at_call 11; have hq := (hq5 _ (hL.sub (by repeat (first | exact List.nil_sublist _ | with_reducible apply List.Sublist.cons_cons | with_reducible apply List.Sublist.cons)))).out; (with_reducible refine hq.mono ?_); rintro e w6 ⟨u6, L6, rfl, hof, hL6⟩; rw [F3.out _ L6 (.refl _) hof] at hL6; have hL := hL.takeRow hL6; clear hL6 hof hq)
      | (go_at_call 12; have hq := same_events u6 u _ _ (hL.own (E := encEp) (.head _)).read (hL.own (E := encEp) (v := u) (base := w.heap.size) (e := 31) (by first | exact .head _ | exact .tail _ (.head _) | exact .tail _ (.tail _ (.head _)) | exact .tail _ (.tail _ (.tail _ (.head _))) | exact .tail _ (.tail _ (.tail _ (.tail _ (.head _)))) | exact .tail _ (.tail _ (.tail _ (.tail _ (.tail _ (.head _))))) | exact .tail _ (.tail _ (.tail _ (.tail _ (.tail _ (.tail _ (.head _)))))) | exact .tail _ (.tail _ (.tail _ (.tail _ (.tail _ (.tail _ (.tail _ (.head _))))))) | exact .tail _ (.tail _ (.tail _ (.tail _ (.tail _ (.tail _ (.tail _ (.tail _ (.head _)))))))))).read (STA.out _ hL.below); (with_reducible refine hq.mono ?_); rintro e w7 ⟨rfl, hb7⟩; have hL := hL.call hb7; clear hb7 hq)
      | (go_at_call 10; have hq := awake29 _ (ht.below hL.below); (with_reducible refine hq.mono ?_); rintro en w9 ⟨rfl, hb9⟩; have hL := hL.call hb9; clear hb9 hq))
    go_ret
    exact ⟨rfl, hL.below⟩
  · clear HC
    by_cases hX0 : X.length = 0
    · have hX1 : X = [] := List.eq_nil_of_length_eq_zero hX0
      subst hX1
      clear hX0
      simp only [List.length_nil] at hL hc1
      have hq5 : ∀ wx, Loc w NoM wx [row encEp w.heap.size 31 (.slice (some ⟨g, 0, none⟩) 0 c) ([] : List Ep)] → Hid (Calls Tryd.prog 11 #[(.slice (some ⟨g, 0, none⟩) 0 c)] wx fun e w' => ∃ u L, e = .returned u ∧ Stab.Of Ep.lt ([] : List Ep) L ∧ Loc wx NoM w' [row encEp wx.heap.size 31 u (Stab.coll Ep.lt L)]) := fun wx hx => Lib.hid (story_Order _ _ wx (hx.own (E := encEp) (.head _)).read (by simp))
      go_wp2_with (first
        | (go_at_call 11; have hq := (hq5 _ (hL.sub (by repeat (first | exact List.nil_sublist _ | with_reducible apply List.Sublist.cons_cons | with_reducible apply List.Sublist.cons)))).out; (with_reducible refine hq.mono ?_); rintro e w6 ⟨u6, L6, rfl, hof, hL6⟩; rw [F3.out _ L6 (.refl _) hof] at hL6; have hL := hL.takeRow hL6; clear hL6 hof hq)
        | (go_at_call 12; have hq := same_events u6 u _ _ (hL.own (E := encEp) (.head _)).read (hL.own (E := encEp) (v := u) (base := w.heap.size) (e := 31) (by first | exact .head _ | exact .tail _ (.head _) | exact .tail _ (.tail _ (.head _)) | exact .tail _ (.tail _ (.tail _ (.head _))) | exact .tail _ (.tail _ (.tail _ (.tail _ (.head _)))) | exact .tail _ (.tail _ (.tail _ (.tail _ (.tail _ (.head _))))) | exact .tail _ (.tail _ (.tail _ (.tail _ (.tail _ (.tail _ (.head _)))))) | exact .tail _ (.tail _ (.tail _ (.tail _ (.tail _ (.tail _ (.tail _ (.head _))))))) | exact .tail _ (.tail _ (.tail _ (.tail _ (.tail _ (.tail _ (.tail _ (.tail _ (.head _)))))))))).read (STA.out _ hL.below); (with_reducible refine hq.mono ?_); rintro e w7 ⟨rfl, hb7⟩; have hL := hL.call hb7; clear hb7 hq)
        | (go_at_call 10; have hq := awake29 _ (ht.below hL.below); (with_reducible refine hq.mono ?_); rintro en w9 ⟨rfl, hb9⟩; have hL := hL.call hb9; clear hb9 hq))
      go_ret
      exact ⟨rfl, hL.below⟩
    · have hX1 : 0 < X.length := by omega
      have t1 : decide ((0 : Int) < (X.length : Int)) = true := (by first | (simp; done) | (simp; omega))
      obtain ⟨r, hr, hrl⟩ := turn_mod turn X.length hX1 (by omega)
      have hr1 : (r : Int) ≤ (X.length : Int) := by omega
      have hr2 : (X.length : Int) ≤ (c : Int) := by omega
      have hr3 : (r : Int) ≤ (c : Int) := by omega
      have hr0 : (0 : Int) ≤ (r : Int) := by omega
      go_upto_region 9 with fail
      rw [hr]
      clear t1 hr
      refine region_qtail 6 (by kernel_rfl) hL (by kernel_rfl) ?_
      clear hL
      intro w8 hL
      simp only [List.take_succ_cons, List.take_zero, List.drop_succ_cons, List.drop_zero]
      repeat (first | go_big_quiet_step (fail))
      refine wpQuiet_nil ?_
      rintro _ ⟨⟨w9, hb9⟩, rfl⟩
      replace hL := hL.call hb9
      clear hb9
      have hRX : ∀ wx l', Loc w NoM wx l' → row encEp w.heap.size 31 (.slice (some ⟨g, 0, none⟩) X.length c) X ∈ l' → encEp.R wx (.slice (some ⟨g, 0, none⟩) X.length c) X := fun wx l' hx hm => (hx.own (E := encEp) hm).read
      have HP : Hid (X.Perm (X.drop r ++ X.take r)) := Lib.hid (by
        have h1 : X = X.take r ++ X.drop r := (List.take_append_drop r X).symm
        exact (List.Perm.of_eq h1).trans List.perm_append_comm)
      have HFLT : Hid (([X.drop r, X.take r] : List (List Ep)).flatten = X.drop r ++ X.take r) := Lib.hid (by simp)
      have hfl : (X.drop r ++ X.take r).length = X.length := HP.out.length_eq.symm
      have HFL := Lib.hid hfl
      clear hfl
      go_wp2_with (first
        | ((with_reducible refine gate (N := 37) rfl ?_); refine ev_litL (cs := [.slice (some ⟨g, r * 21, none⟩) (X.length - r) (c - r), .slice (some ⟨g, 0, none⟩) r c]) rfl hL rfl rfl rfl (by kernel_rfl) ?_; clear hL; intro gq wq hL)
        | (go_at_call 14; have hq := ConcatEp.concat (.slice (some ⟨gq, 0, none⟩) 2 2) [⟨some ⟨g, r * 21, none⟩, X.length - r, c - r⟩, ⟨some ⟨g, 0, none⟩, r, c⟩] [X.drop r, X.take r] _ (R_box (E := encSl) (t := 38) [⟨some ⟨g, r * 21, none⟩, X.length - r, c - r⟩, ⟨some ⟨g, 0, none⟩, r, c⟩] (hL.box (by first | exact .head _ | exact .tail _ (.head _) | exact .tail _ (.tail _ (.head _)) | exact .tail _ (.tail _ (.tail _ (.head _))) | exact .tail _ (.tail _ (.tail _ (.tail _ (.head _)))) | exact .tail _ (.tail _ (.tail _ (.tail _ (.tail _ (.head _))))) | exact .tail _ (.tail _ (.tail _ (.tail _ (.tail _ (.tail _ (.head _)))))) | exact .tail _ (.tail _ (.tail _ (.tail _ (.tail _ (.tail _ (.tail _ (.head _))))))) | exact .tail _ (.tail _ (.tail _ (.tail _ (.tail _ (.tail _ (.tail _ (.tail _ (.head _)))))))))) rfl (by simp)) rfl (two_ (R_drop (hRX _ _ hL (by first | exact .head _ | exact .tail _ (.head _) | exact .tail _ (.tail _ (.head _)) | exact .tail _ (.tail _ (.tail _ (.head _))) | exact .tail _ (.tail _ (.tail _ (.tail _ (.head _)))) | exact .tail _ (.tail _ (.tail _ (.tail _ (.tail _ (.head _))))) | exact .tail _ (.tail _ (.tail _ (.tail _ (.tail _ (.tail _ (.head _)))))) | exact .tail _ (.tail _ (.tail _ (.tail _ (.tail _ (.tail _ (.tail _ (.head _))))))) | exact .tail _ (.tail _ (.tail _ (.tail _ (.tail _ (.tail _ (.tail _ (.tail _ (.head _)))))))))) rfl (Nat.le_of_lt hrl)) (R_take (hRX _ _ hL (by first | exact .head _ | exact .tail _ (.head _) | exact .tail _ (.tail _ (.head _)) | exact .tail _ (.tail _ (.tail _ (.head _))) | exact .tail _ (.tail _ (.tail _ (.tail _ (.head _)))) | exact .tail _ (.tail _ (.tail _ (.tail _ (.tail _ (.head _))))) | exact .tail _ (.tail _ (.tail _ (.tail _ (.tail _ (.tail _ (.head _)))))) | exact .tail _ (.tail _ (.tail _ (.tail _ (.tail _ (.tail _ (.tail _ (.head _))))))) | exact .tail _ (.tail _ (.tail _ (.tail _ (.tail _ (.tail _ (.tail _ (.tail _ (.head _)))))))))) rfl (Nat.le_of_lt hrl))) (by rw [HFLT.out, HFL.out]; omega) (by simp); rw [HFLT.out] at hq; (with_reducible refine hq.mono ?_); rintro e w3 ⟨u4, rfl, hL3⟩; have hL := hL.takeRow hL3; clear hL3 hq)
        | (go_at_call 11; have hq := story_Order u4 _ _ (hL.own (E := encEp) (v := u4) (base := w.heap.size) (e := 31) (by first | exact .head _ | exact .tail _ (.head _) | exact .tail _ (.tail _ (.head _)) | exact .tail _ (.tail _ (.tail _ (.head _))) | exact .tail _ (.tail _ (.tail _ (.tail _ (.head _)))) | exact .tail _ (.tail _ (.tail _ (.tail _ (.tail _ (.head _))))) | exact .tail _ (.tail _ (.tail _ (.tail _ (.tail _ (.tail _ (.head _)))))) | exact .tail _ (.tail _ (.tail _ (.tail _ (.tail _ (.tail _ (.tail _ (.head _))))))) | exact .tail _ (.tail _ (.tail _ (.tail _ (.tail _ (.tail _ (.tail _ (.tail _ (.head _)))))))))).read (by rw [HFL.out]; omega); (with_reducible refine hq.mono ?_); rintro e w6 ⟨u6, L6, rfl, hof, hL6⟩; rw [F3.out _ L6 HP.out hof] at hL6; have hL := hL.takeRow hL6; clear hL6 hof hq)
        | (go_at_call 12; have hq := same_events u6 u X _ (hL.own (E := encEp) (.head _)).read (hL.own (E := encEp) (v := u) (base := w.heap.size) (e := 31) (by first | exact .head _ | exact .tail _ (.head _) | exact .tail _ (.tail _ (.head _)) | exact .tail _ (.tail _ (.tail _ (.head _))) | exact .tail _ (.tail _ (.tail _ (.tail _ (.head _)))) | exact .tail _ (.tail _ (.tail _ (.tail _ (.tail _ (.head _))))) | exact .tail _ (.tail _ (.tail _ (.tail _ (.tail _ (.tail _ (.head _)))))) | exact .tail _ (.tail _ (.tail _ (.tail _ (.tail _ (.tail _ (.tail _ (.head _))))))) | exact .tail _ (.tail _ (.tail _ (.tail _ (.tail _ (.tail _ (.tail _ (.tail _ (.head _)))))))))).read (STA.out _ hL.below); (with_reducible refine hq.mono ?_); rintro e w7 ⟨rfl, hb7⟩; have hL := hL.call hb7; clear hb7 hq)
        | (go_at_call 10; have hq := awake29 _ (ht.below hL.below); (with_reducible refine hq.mono ?_); rintro en w9 ⟨rfl, hb9⟩; have hL := hL.call hb9; clear hb9 hq)
        | ((with_reducible refine gAlloc rfl rfl ?_); (refine ev_allocL rfl hL rfl (by first | exact cells_agg _ rfl | exact cells_int _ _ | exact cells_str _ | exact cells_bool _ | exact cells_slice _ _ _ | exact cells_ptr _ | exact cells_map _ | exact cells_func _ _ _ | exact cells_nilFunc | exact cells_one (by assumption) (by assumption)) ?_; clear hL; intro gq wq hL)) | ((with_reducible refine gBox rfl rfl ?_); (refine ev_boxL rfl hL rfl rfl (by first | exact cells_agg _ rfl | exact cells_int _ _ | exact cells_str _ | exact cells_bool _ | exact cells_slice _ _ _ | exact cells_ptr _ | exact cells_map _ | exact cells_func _ _ _ | exact cells_nilFunc | exact cells_one (by assumption) (by assumption)) ?_; clear hL; intro gq wq hL)) | ((with_reducible refine gLoad rfl rfl ?_); (first | (refine ev_load1L rfl hL rfl rfl HasV.mem (by rfl) ?_) | (refine ev_loadAllL rfl hL rfl rfl HasV.mem (by rfl) ?_) | (refine ev_loadL rfl hL rfl rfl HasV.mem SegC.seg ?_))) | ((with_reducible refine gStore rfl rfl ?_); (first | (refine ev_storeC rfl hL rfl rfl rfl (by first | exact cells_agg _ rfl | exact cells_int _ _ | exact cells_str _ | exact cells_bool _ | exact cells_slice _ _ _ | exact cells_ptr _ | exact cells_map _ | exact cells_func _ _ _ | exact cells_nilFunc | exact cells_one (by assumption) (by assumption)) (by rfl) ?_) | (refine ev_storeAllC rfl hL rfl rfl rfl (by first | exact cells_agg _ rfl | exact cells_int _ _ | exact cells_str _ | exact cells_bool _ | exact cells_slice _ _ _ | exact cells_ptr _ | exact cells_map _ | exact cells_func _ _ _ | exact cells_nilFunc | exact cells_one (by assumption) (by assumption)) (by rfl) (by rfl) ?_)); clear hL; intro wq hL) | ((with_reducible refine gLoadG rfl rfl ?_ ?_); (exact wanted_some rfl rfl rfl (by with_reducible rfl)); (first | (refine ev_load1G (wanted_some rfl rfl rfl rfl) hL rfl rfl HasV.mem (by rfl) ?_) | (refine ev_loadAllG (wanted_some rfl rfl rfl rfl) hL rfl rfl HasV.mem (by rfl) ?_) | (refine ev_loadG_ (wanted_some rfl rfl rfl rfl) hL rfl rfl HasV.mem SegC.seg ?_))))
      go_ret
      exact ⟨rfl, hL.below⟩
theorem law_orderP (v : Value) (ps : List Ep) (turn : Int) (w : World) (h : encEp.R w v ps) (hO : ∀ p ∈ ps, p.Ok w maxLen) (hturn : I64 turn) (ht : Tb w) :
    Calls Tryd.prog 4 #[v, .int .i64 turn] w fun e w' => e = .returned (.bool true) ∧ Below w.heap.size w w' := law_order v ps turn maxLen w h hO hturn ht
end Go.Proofs.YtebpacmhdkgfeaaDoor
