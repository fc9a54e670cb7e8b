/- Texts laid together: Sto6, Stab7, Clr, Cmp, Ord, Ord29, SamE, Sam, Sam2, Sam3. -/
import Derived.Test.YtebpacmhdkgfeaaDoorLi5
import Derived.Lib.SliceRun
/- Chapter 29: story.Order's closure: are two events alike? -/
namespace Go.Proofs.YtebpacmhdkgfeaaDoor
open Go.RowKit

set_option maxHeartbeats 1000000 in
theorem order_same_fn (a b : Evt) (w : World) :
    Calls Tryd.prog 34 #[.agg a.cells.toArray, .agg b.cells.toArray] w fun e w' => e = .returned (.bool (a.cmp b == 0)) ∧ Below w.heap.size w w' := by
  have hL := Loc.nil w NoM
  have hq : ∀ w, Hid (Calls Tryd.prog 32 #[.agg a.cells.toArray, .agg b.cells.toArray] w fun e w' => e = .returned (.int .i64 (a.cmp b)) ∧ Below w.heap.size w w') := fun w => hide (story_order a b w)
  generalize a.cmp b = r at *
  unfold Evt.cells at *
  go_enter Tryd.func34, Tryd.ntmps34
  go_wp2_with (first
    | (go_at_call 32; (with_reducible refine (unhide (hq _)).mono ?_); rintro e w3 ⟨rfl, hb3⟩; have hL := hL.call hb3; clear hb3 hq)
    | ((with_reducible refine gAlloc rfl rfl ?_); (refine ev_allocL rfl hL rfl (by first | exact CellsC.of | exact cells_one (by assumption) (by assumption) | exact cells_agg _ rfl) ?_; clear hL; intro gq wq hL)) | ((with_reducible refine gBox rfl rfl ?_); (refine ev_boxL rfl hL rfl rfl (by first | exact CellsC.of | exact cells_one (by assumption) (by assumption) | exact cells_agg _ rfl) ?_; clear hL; intro gq wq hL)) | ((with_reducible refine gLoad rfl rfl ?_); (first | (refine ev_load1L rfl hL rfl rfl HasV.mem (by rfl) ?_) | (refine ev_loadAllL rfl hL rfl rfl HasV.mem (by rfl) ?_) | (refine ev_loadL rfl hL rfl rfl HasV.mem SegC.seg ?_))) | ((with_reducible refine gStore rfl rfl ?_); (first | (refine ev_storeC rfl hL rfl rfl rfl (by first | exact CellsC.of | exact cells_one (by assumption) (by assumption) | exact cells_agg _ rfl) (by rfl) ?_) | (refine ev_storeAllC rfl hL rfl rfl rfl (by first | exact CellsC.of | exact cells_one (by assumption) (by assumption) | exact cells_agg _ rfl) (by rfl) (by rfl) ?_)); clear hL; intro wq hL) | ((with_reducible refine gLoadG rfl rfl ?_ ?_); (exact wanted_some rfl rfl rfl (by with_reducible rfl)); (first | (refine ev_load1G (wanted_some rfl rfl rfl rfl) hL rfl rfl HasV.mem (by rfl) ?_) | (refine ev_loadAllG (wanted_some rfl rfl rfl rfl) hL rfl rfl HasV.mem (by rfl) ?_) | (refine ev_loadG_ (wanted_some rfl rfl rfl rfl) hL rfl rfl HasV.mem SegC.seg ?_))))
  go_ret
  exact ⟨rfl, hL.below⟩
theorem Ep.cmp_eqv (a b : Ep) : (a.cf b == 0) = Stab.eqv Ep.lt a b := by
  have h1 := Evt.cmp_lt a.e b.e
  have h2 := Evt.cmp_lt b.e a.e
  have h4 : a.e.cmp b.e = 0 ↔ a.e.at_.boot = b.e.at_.boot ∧ a.e.at_.n = b.e.at_.n ∧ a.e.vol = b.e.vol := by
    obtain ⟨a, _⟩ := a; obtain ⟨b, _⟩ := b
    have he : a.at_ = b.at_ ↔ a.at_.boot = b.at_.boot ∧ a.at_.n = b.at_.n := by
      obtain ⟨⟨a1, a2⟩, _⟩ := a; obtain ⟨⟨b1, b2⟩, _⟩ := b; simp
    unfold Evt.cmp Mk.less
    by_cases q1 : a.at_.boot = b.at_.boot <;> by_cases q2 : a.at_.n = b.at_.n <;> by_cases q3 : a.at_.n < b.at_.n <;> by_cases q4 : a.at_.boot < b.at_.boot <;> by_cases q5 : a.vol < b.vol <;> by_cases q6 : a.vol = b.vol <;> simp [he, q1, q2, q3, q4, q5, q6] <;> try omega
  rw [Bool.eq_iff_iff, Stab.eqv_iff, beq_iff_eq, decide_eq_false_iff_not, decide_eq_false_iff_not, h1, h2, h4]
  omega
end Go.Proofs.YtebpacmhdkgfeaaDoor

/- What CompactFunc leaves, element by element. -/
namespace Go.Proofs.YtebpacmhdkgfeaaDoor.Stab
variable {α : Type} {lt : α → α → Bool}
theorem eqv_symm (x y : α) : eqv lt x y = eqv lt y x := by unfold eqv; rw [Bool.and_comm]
theorem collFrom_snoc (x : α) : ∀ (l : List α) (p : α), collFrom lt p (l ++ [x]) = collFrom lt p l ++ (if eqv lt ((p :: l).getLast (by simp)) x = true then [] else [x])
  | [], p => rfl
  | y :: l, p => by
    have ih := collFrom_snoc x l y
    simp only [List.cons_append, collFrom]
    rw [List.getLast_cons (by simp)]
    split
    · exact ih
    · rw [ih]; rfl
theorem coll_step {xs : List α} {k : Nat} {x p : α} (h1 : xs[k + 1]? = some x) (h0 : xs[k]? = some p) : coll lt (xs.take (k + 1 + 1)) = coll lt (xs.take (k + 1)) ++ (if eqv lt p x = true then [] else [x]) := by
  obtain ⟨hk, rfl⟩ := List.getElem?_eq_some_iff.1 h1
  obtain ⟨hk0, rfl⟩ := List.getElem?_eq_some_iff.1 h0
  cases xs with
  | nil => simp at hk
  | cons a l =>
    have e : (a :: l).take (k + 1 + 1) = a :: (l.take k ++ [l[k]'(by simpa using hk)]) := by
      rw [List.take_succ_cons, (List.take_append_getElem (by simpa using hk)).symm]
    rw [e, List.take_succ_cons]
    simp only [coll]
    rw [collFrom_snoc, List.cons_append]
    congr 2
    have : (a :: l.take k).getLast (by simp) = (a :: l)[k] := by
      rw [List.getLast_eq_getElem]
      simp only [List.length_cons, List.length_take]
      have hlk : min k l.length = k := Nat.min_eq_left (by simp at hk; omega)
      simp only [hlk, Nat.add_sub_cancel]
      cases k with
      | zero => rfl
      | succ k => simp
    rw [this]
    rfl
theorem collFrom_len (l : List α) : ∀ p : α, (collFrom lt p l).length ≤ l.length := by
  induction l with
  | nil => intro p; simp [collFrom]
  | cons x l ih => intro p; unfold collFrom; split <;> (have := ih x; simp; omega)
theorem coll_len (l : List α) : (coll lt l).length ≤ l.length := by
  cases l with
  | nil => simp [coll]
  | cons x l => have := collFrom_len (lt := lt) l x; simp [coll]; omega
end Go.Proofs.YtebpacmhdkgfeaaDoor.Stab

/- 'clear' of the end of a row of one's own: what is ahead of it stays. Over any program. -/
namespace Go.Proofs.YtebpacmhdkgfeaaDoor
open Go.RowKit

section
variable {P : Program} {α : Type} {E : Enc α}
theorem O_clear {w : World} {base g n c k : Nat} {te t ty : TypeId} {z : Value} {xs : List α} [ht : SliceT P t te] [hz : ZeroT P te z] (hzs : z.cells.size = E.sz) (hz1 : ∀ u ∈ z.cells.toList, u.oneCell' = true)
    (h : E.O w base te (.slice (some ⟨g, 0, none⟩) n c) xs) (hn : n = xs.length) (hk : k ≤ n) :
    ∃ w1, (Builtin.clear_ #[t] ty #[.slice (some ⟨g, k * E.sz, none⟩) (n - k) (c - k)]).run P w = .ok (.tuple #[]) w1 ∧ E.O w1 base te (.slice (some ⟨g, 0, none⟩) k c) (xs.take k) ∧ Mod (· = g) w w1 := by
  subst hn
  obtain ⟨hl, h2⟩ := h
  rcases h2 with ⟨hn, _⟩ | ⟨g', cap, cur, hv, hb, hg, hnc, hcm, hcs, htake⟩
  · cases hn
  injection hv with hv1 hv2 hv3
  injection hv1 with hv1
  injection hv1 with hv1
  subst hv1 hv3
  clear hv2
  have hkc : k * E.sz ≤ c * E.sz := Nat.mul_le_mul_right _ (by omega)
  have hkx : k * E.sz ≤ xs.length * E.sz := Nat.mul_le_mul_right _ hk
  have hxc : xs.length * E.sz ≤ c * E.sz := Nat.mul_le_mul_right _ hnc
  have hpre : cur.toList.take (k * E.sz) = E.all (xs.take k) := by
    have h1 := congrArg (fun l => l.take (k * E.sz)) htake
    simp only [List.take_take] at h1
    rw [Nat.min_eq_left hkx] at h1
    rw [h1]
    have h2 : E.all xs = E.all (xs.take k) ++ E.all (xs.drop k) := by rw [← Enc.all_append, List.take_append_drop]
    rw [h2, List.take_append_of_le_length (by rw [Enc.all_length, List.length_take, Nat.min_eq_left hk]; exact Nat.le_refl _), List.take_of_length_le (by rw [Enc.all_length, List.length_take, Nat.min_eq_left hk]; exact Nat.le_refl _)]
  have hlk : (xs.take k).length = k := by rw [List.length_take, Nat.min_eq_left hk]
  by_cases hz0 : xs.length - k = 0
  · have hkk : k = xs.length := by omega
    refine ⟨w, ?_, ⟨by rw [Enc.all_length, hlk], .inr ⟨g, c, cur, by rw [hlk], hb, hg, by omega, hcm, hcs, ?_⟩⟩, .refl _ _⟩
    · rw [hz0]
      simp [Builtin.clear_, run_underlying ht.slice]
    · rw [hlk, hpre]
  · obtain ⟨m, hm⟩ : ∃ m, xs.length - k = m + 1 := ⟨xs.length - k - 1, by omega⟩
    obtain ⟨inf, hinf, hzz⟩ := Option.map_eq_some_iff.1 hz.zero
    have hv : ∀ w, (zeroValue te).run P w = .ok z w := fun w => by simp [zeroValue, typeInfo, hinf, hzz]
    have hzl : (Builtin.zeroCells z.cells (xs.length - k)).toList.length = (xs.length - k) * E.sz := by simp [Builtin.zeroCells, hzs, Nat.mul_comm]
    have hsub : (xs.length - k) * E.sz + k * E.sz = xs.length * E.sz := by rw [← Nat.add_mul]; congr 1; omega
    have hst := run_storeCells_at P g (k * E.sz) te (Builtin.zeroCells z.cells (xs.length - k)).toList 0 cur w hg (by rw [hzl, hcs]; omega) (fun v hv => by
      have hp := E.pos
      simp only [Builtin.zeroCells, Array.toList_map, Array.toList_range, List.mem_map] at hv
      obtain ⟨j, hj, rfl⟩ := hv
      have hlt : j % z.cells.size < z.cells.size := Nat.mod_lt _ (by omega)
      refine hz1 _ ?_
      rw [getElem!_pos z.cells _ hlt]
      exact Array.mem_toList_iff.2 (Array.getElem_mem hlt))
    simp only [Nat.add_zero] at hst
    obtain ⟨cur', hcur⟩ : ∃ x, x = (cur.toList.take (k * E.sz) ++ (Builtin.zeroCells z.cells (xs.length - k)).toList ++ cur.toList.drop (k * E.sz + (Builtin.zeroCells z.cells (xs.length - k)).toList.length)).toArray := ⟨_, rfl⟩
    rw [← hcur] at hst
    refine ⟨w.setRow g cur', ?_, ⟨by rw [Enc.all_length, hlk], .inr ⟨g, c, cur', by rw [hlk], hb, setRow_heap w g cur cur' te _ hg, by omega, hcm, ?_, ?_⟩⟩, ⟨rfl, rfl, rfl, by simp, fun j _ hj => setRow_other w g j cur' hj⟩⟩
    · rw [hm] at hst ⊢
      simp [Builtin.clear_, run_underlying ht.slice, hv, hst]
    · rw [hcur]
      simp only [List.size_toArray, List.length_append, List.length_take, List.length_drop, Array.length_toList, hcs, hzl]
      omega
    · rw [hlk, hcur, ← hpre, List.append_assoc, List.take_append_of_le_length (by rw [List.length_take, Array.length_toList, hcs]; omega), List.take_take, Nat.min_self]
theorem ev_clearRow {ops : Array Oper} {rest : List Oper} {o : Oper} {a : Act} {Q : Exit → Act → World → Prop} {W w0 : World} {M : Nat → Prop} {l l' : List Item} {x : Operand} {base g n c k off m d : Nat} {te t : TypeId} {z : Value} {xs : List α} [ht : SliceT P t te] [hz : ZeroT P te z]
    (hgd : o.guard = none) (hL : Loc w0 M W l) (ho : o.op = .call { callee := .builtin .clear, args := #[x], argTypes := #[t] }) (hx : a.eval x = .slice (some ⟨g, off, none⟩) m d) (hoff : off = k * E.sz) (hm : m = n - k) (hd : d = c - k)
    (hzs : z.cells.size = E.sz) (hz1 : ∀ u ∈ z.cells.toList, u.oneCell' = true) (hn : n = xs.length) (hk : k ≤ n)
    (hs : Swap (row E base te (.slice (some ⟨g, 0, none⟩) n c) xs) (row E base te (.slice (some ⟨g, 0, none⟩) k c) (xs.take k)) l l')
    (h : ∀ w1, Loc w0 M w1 l' → wpList P ops Q rest (a.put o.dst (.tuple #[])) w1) : wpList P ops Q (o :: rest) a W := by
  subst hoff hm hd
  obtain ⟨w1, h1, h2, h3⟩ := O_clear (P := P) (t := t) (ty := o.type) hzs hz1 (hL.own hs.mem) hn hk
  refine event hgd (v := .tuple #[]) (w1 := w1) ?_ (h _ (hL.swap hs (h3.mono fun k _ hk => ?_) (row_at h2) fun _ hk => .inl hk))
  · simp only [execOp, ho, resolve, invoke, builtin, Sem.run_bind, Sem.run_pure, Result.andThen_ok, List.map_toArray, List.map_cons, List.map_nil, hx, h1]
  · show (Value.slice (some ⟨g, 0, none⟩) n c).ownBlock = some k
    rw [hk]; rfl
end
end Go.Proofs.YtebpacmhdkgfeaaDoor

/- slices.CompactFunc of events, by story.Order's closure. -/
namespace Go.Proofs.YtebpacmhdkgfeaaDoor
open Go.RowKit

theorem same_ext {W : World} {e : Ext W} (a b : Evt) (r : Bool) (hr : (a.cmp b == 0) = r) : Calls Tryd.prog 34 #[.agg (Evt.cells a).toArray, .agg (Evt.cells b).toArray] e.w fun en w'' => en = .returned (.bool r) ∧ ∃ x : Ext W, w'' = x.w :=
  calls_ext (by subst hr; exact order_same_fn a b _)
theorem set_mid {α : Type} (P xs : List α) (x : α) (h : P.length < xs.length) : (P ++ xs.drop P.length).set P.length x = (P ++ [x]) ++ xs.drop (P.length + 1) := by
  rw [List.set_append_right _ _ (Nat.le_refl _), Nat.sub_self, List.drop_eq_getElem_cons h, List.set_cons_zero, List.append_assoc]
  rfl
theorem E_pos_zero : (ByteArray.mk #[]).size = 0 := rfl
set_option maxRecDepth 100000 in
set_option maxHeartbeats 8000000 in
theorem compact (w : World) (base g n c : Nat) (xs : List Ep) (h : SortEv.Own encEp w base g n c xs) (hn : n = xs.length) (hmax : n ≤ 1000000000) (hcn : n ≤ c) (hc63 : c ≤ 9223372036854775807) :
    Calls Tryd.prog 33 #[.slice (some ⟨g, 0, none⟩) n c, .func (.func 34) #[] #[]] w fun e w' => ∃ m, e = .returned (.slice (some ⟨g, 0, none⟩) m c) ∧ Loc w (· = g) w' [SortEv.it encEp base g m c (Stab.coll Ep.lt xs)] := by
  have hL := SortEv.openR encEp h
  have HN := Lib.hid hn
  clear h
  by_cases h2 : n < 2
  · have e : Stab.coll Ep.lt xs = xs := by
      match xs, hn with
      | [], _ => rfl
      | [x], _ => rfl
      | x :: y :: l, hn => simp at hn; omega
    have HE := Lib.hid e
    have t1 : decide ((n : Int) < 2) = true := (by first | (simp; done) | (simp; omega))
    clear e hn
    go_enter Tryd.func33, Tryd.ntmps33
    go_wp2_with fail
    go_ret
    exact ⟨n, rfl, by rw [HE.out]; exact hL⟩
  have t1 : decide ((n : Int) < 2) = false := (by first | (simp; done) | (simp; omega))
  have h2' : 2 ≤ n := by omega
  clear hn
  go_enter Tryd.func33, Tryd.ntmps33
  go_wp2_with fail
  clear t1
  have HC : Hid (Stab.coll Ep.lt (xs.take (0 + 1)) = xs.take (0 + 1)) := Lib.hid (by cases xs <;> rfl)
  go_loopw [5] (fun u wr => ∃ i : Nat, i + 1 ≤ n ∧ u = .int .i64 ((i + 1 : Nat) : Int) ∧ Hid (Stab.coll Ep.lt (xs.take (i + 1)) = xs.take (i + 1)) ∧ Loc w (· = g) wr [SortEv.it encEp base g n c xs]) (fun u _ => n - (intOf u).toNat)
  case atStart => exact ⟨0, by omega, rfl, HC, hL⟩
  case round =>
    clear hL HC
    obtain ⟨i, hi, rfl, HC, hL⟩ := hrel
    by_cases hlt : i + 1 < n
    · have t0 : decide ((i : Int) + 1 < (n : Int)) = true := (by first | (simp; done) | (simp; omega))
      have hlx : i + 1 < xs.length := by have := HN.out; omega
      obtain ⟨x, hx⟩ : ∃ x, xs[i + 1]? = some x := ⟨_, List.getElem?_eq_getElem hlx⟩
      obtain ⟨p, hp⟩ : ∃ p, xs[i]? = some p := ⟨_, List.getElem?_eq_getElem (by omega)⟩
      have HST := Lib.hid (Stab.coll_step (lt := Ep.lt) hx hp)
      have HTK := Lib.hid (Stab.take_snoc' hx)
      have HEQ := Lib.hid ((Ep.cmp_eqv x p).trans (Stab.eqv_symm x p))
      have HX := Lib.hid hx
      have HP := Lib.hid hp
      clear hlx
      cases hb : Stab.eqv Ep.lt p x
      · have HB := Lib.hid hb
        have HR : Hid ((x.e.cmp p.e == 0) = false) := Lib.hid (HEQ.out.trans hb)
        clear hb hx hp
        go_wp2_with fail
        (try simp only [Act.put, List.setIfInBounds_toArray, List.set_cons_succ, List.set_cons_zero])
        refine wp_region_ext (by kernel_rfl) (by kernel_rfl) ?_
        repeat (first
          | (go_big_quiet_want; (first | refine quiet_indexRow encEp rfl (by rfl) (by rfl) (by omega) ?_ | refine quiet_loadRow (E := encEp) hL (.head _) rfl (by rfl) HX.out ?_ | refine quiet_loadRow (E := encEp) hL (.head _) rfl (by rfl) HP.out ?_); go_big_quiet_on; simp only [Act.put, List.setIfInBounds_toArray, List.set_cons_succ, List.set_cons_zero])
          | go_big_quiet_step (first | (go_at_call 34; exact same_ext x.e p.e false HR.out)))
        refine wpQuiet_nil ?_
        rintro _ ⟨⟨wC, hbC⟩, rfl⟩
        replace hL := hL.call hbC
        clear hbC
        go_wp2_with fail
        have HC2 : Hid (Stab.coll Ep.lt (xs.take (i + 1 + 1)) = xs.take (i + 1 + 1)) := Lib.hid (by rw [HST.out, HC.out, HB.out, HTK.out]; rfl)
        go_roundw
        case rel => exact ⟨i + 1, by omega, by go_num, HC2, hL⟩
        case measure => simp [intOf]; omega
      · have HB := Lib.hid hb
        have HR : Hid ((x.e.cmp p.e == 0) = true) := Lib.hid (HEQ.out.trans hb)
        clear hb hx hp
        go_wp2_with fail
        (try simp only [Act.put, List.setIfInBounds_toArray, List.set_cons_succ, List.set_cons_zero])
        refine wp_region_ext (by kernel_rfl) (by kernel_rfl) ?_
        repeat (first
          | (go_big_quiet_want; (first | refine quiet_indexRow encEp rfl (by rfl) (by rfl) (by omega) ?_ | refine quiet_loadRow (E := encEp) hL (.head _) rfl (by rfl) HX.out ?_ | refine quiet_loadRow (E := encEp) hL (.head _) rfl (by rfl) HP.out ?_); go_big_quiet_on; simp only [Act.put, List.setIfInBounds_toArray, List.set_cons_succ, List.set_cons_zero])
          | go_big_quiet_step (first | (go_at_call 34; exact same_ext x.e p.e true HR.out)))
        refine wpQuiet_nil ?_
        rintro _ ⟨⟨wC, hbC⟩, rfl⟩
        replace hL := hL.call hbC
        clear hbC
        have hs1 : (i : Int) + 1 ≤ (n : Int) := by omega
        have hs2 : (n : Int) ≤ (c : Int) := by omega
        have HC2 : Hid (Stab.coll Ep.lt (xs.take (i + 1 + 1)) = xs.take (i + 1)) := Lib.hid (by rw [HST.out, HC.out, HB.out]; exact List.append_nil _)
        clear HST HTK HEQ HX HP HB HR HC
        go_wp2_with fail
        have HP0 : Hid (Stab.coll Ep.lt (xs.take (i + 1 + (0 + 1))) = xs.take (i + 1)) := HC2
        clear HC2
        obtain ⟨m0, hm0⟩ : ∃ m0, m0 = i + 1 := ⟨_, rfl⟩
        go_loopw [5, 7] (fun u v wr => ∃ (j m : Nat), i + 1 + (j + 1) ≤ n ∧ m ≤ i + 1 + j ∧ 1 ≤ m ∧ u = .int .i64 (m : Int) ∧ v = .int .i64 ((j + 1 : Nat) : Int) ∧ Hid ((Stab.coll Ep.lt (xs.take (i + 1 + (j + 1)))).length = m) ∧ Loc w (· = g) wr [SortEv.it encEp base g n c (Stab.coll Ep.lt (xs.take (i + 1 + (j + 1))) ++ xs.drop m)]) (fun _ v _ => n - (intOf v).toNat)
        case atStart =>
          refine ⟨0, i + 1, by omega, by omega, by omega, by go_num, by go_num, Lib.hid (by rw [HP0.out, List.length_take]; have := HN.out; omega), ?_⟩
          rw [HP0.out, List.take_append_drop]
          exact hL
        case round =>
          clear hL HP0 hm0
          obtain ⟨j, m, hj, hmj, hm1, rfl, rfl, HM, hL⟩ := hrel
          by_cases hlj : i + 1 + (j + 1) < n
          · have hlx : i + 1 + (j + 1) < xs.length := by have := HN.out; omega
            obtain ⟨y, hy⟩ : ∃ y, xs[i + 1 + j + 1]? = some y := ⟨_, List.getElem?_eq_getElem hlx⟩
            obtain ⟨q, hq⟩ : ∃ q, xs[i + 1 + j]? = some q := ⟨_, List.getElem?_eq_getElem (by omega)⟩
            have HST := Lib.hid (Stab.coll_step (lt := Ep.lt) hy hq)
            have HEQ := Lib.hid ((Ep.cmp_eqv y q).trans (Stab.eqv_symm y q))
            have hown := hL.own (E := encEp) (.head _)
            have gy : (Stab.coll Ep.lt (xs.take (i + 1 + (j + 1))) ++ xs.drop m)[i + 1 + j + 1]? = some y := by
              rw [List.getElem?_append_right (by have := HM.out; omega), HM.out, List.getElem?_drop, ← hy]; congr 1; omega
            have gq : (Stab.coll Ep.lt (xs.take (i + 1 + (j + 1))) ++ xs.drop m)[i + 1 + j]? = some q := by
              rw [List.getElem?_append_right (by have := HM.out; omega), HM.out, List.getElem?_drop, ← hq]; congr 1; omega
            have hz1 : wr.rangeAt g ((i + 1) * 21 + (j + 1) * 21) (Evt.cells y.e) := by
              have := row_range hown gy
              rwa [show (i + 1 + j + 1) * encEp.sz = (i + 1) * 21 + (j + 1) * 21 from by show (i + 1 + j + 1) * 21 = _; omega] at this
            have hz2 : wr.rangeAt g ((i + 1) * 21 + j * 21) (Evt.cells q.e) := by
              have := row_range hown gq
              rwa [show (i + 1 + j) * encEp.sz = (i + 1) * 21 + j * 21 from by show (i + 1 + j) * 21 = _; omega] at this
            clear hown gy gq hlx hy hq
            have hsj : j + 1 < n - (i + 1) := by omega
            have t2 : decide (((j + 1 : Nat) : Int) < ((n - (i + 1) : Nat) : Int)) = true := by simp; omega
            cases hb : Stab.eqv Ep.lt q y
            · have HB := Lib.hid hb
              have HR : Hid ((y.e.cmp q.e == 0) = false) := Lib.hid (HEQ.out.trans hb)
              clear hb HEQ
              go_wp2_with fail
              (try simp only [Act.put, List.setIfInBounds_toArray, List.set_cons_succ, List.set_cons_zero])
              refine wp_region_ext (by kernel_rfl) (by kernel_rfl) ?_
              repeat (first
                | (go_big_quiet_want; (first | refine quiet_index rfl (by rfl) (by rfl) (by omega) ?_ | refine quiet_loadR (cs := Evt.cells y.e) rfl (by rfl) (range_below hz1 (Below.refl _ _)) (by rfl) ?_ | refine quiet_loadR (cs := Evt.cells q.e) rfl (by rfl) (range_below hz2 (Below.refl _ _)) (by rfl) ?_); go_big_quiet_on; simp only [Act.put, List.setIfInBounds_toArray, List.set_cons_succ, List.set_cons_zero])
                | go_big_quiet_step (first | (go_at_call 34; exact same_ext y.e q.e false HR.out)))
              refine wpQuiet_nil ?_
              rintro _ ⟨⟨wC, hbC⟩, rfl⟩
              replace hL := hL.call hbC
              replace hz1 := range_below hz1 hbC
              clear hbC
              have hlen : m < (Stab.coll Ep.lt (xs.take (i + 1 + (j + 1))) ++ xs.drop m).length := by rw [List.length_append, HM.out, List.length_drop]; have := HN.out; omega
              have HMID : Hid ((Stab.coll Ep.lt (xs.take (i + 1 + (j + 1))) ++ xs.drop m).set m y = Stab.coll Ep.lt (xs.take (i + 1 + (j + 1 + 1))) ++ xs.drop (m + 1)) := Lib.hid (by
                have h3 := set_mid (Stab.coll Ep.lt (xs.take (i + 1 + (j + 1)))) xs y (by rw [HM.out]; have := HN.out; omega)
                rw [HM.out] at h3
                rw [h3, show i + 1 + (j + 1 + 1) = i + 1 + j + 1 + 1 from by omega, HST.out, HB.out]
                rfl)
              have HM2 : Hid ((Stab.coll Ep.lt (xs.take (i + 1 + (j + 1 + 1)))).length = m + 1) := Lib.hid (by
                rw [show i + 1 + (j + 1 + 1) = i + 1 + j + 1 + 1 from by omega, HST.out, HB.out, List.length_append]
                show (Stab.coll Ep.lt (xs.take (i + 1 + (j + 1)))).length + 1 = m + 1
                rw [HM.out])
              go_wp2_with (first
                | ((with_reducible refine gate (N := 54) rfl ?_); refine ev_indexL (i := j + 1) rfl rfl rfl rfl (by omega) ?_)
                | ((with_reducible refine gate (N := 55) rfl ?_); refine ev_loadR (cs := Evt.cells y.e) rfl rfl rfl hz1 (by rfl) ?_)
                | ((with_reducible refine gate (N := 56) rfl ?_); refine ev_indexL (i := m) rfl rfl rfl rfl (by omega) ?_)
                | ((with_reducible refine gStore rfl rfl ?_); refine ev_setRow (E := encEp) m y rfl hL rfl rfl (by show 0 + m * 21 = m * 21; omega) rfl (cells_agg _ rfl) hlen (.here _) ?_; clear hL; intro wq hL))
              go_roundw
              case rel =>
                iterate 29 (apply Exists.intro)
                refine ⟨?relx, rfl⟩
                exact ⟨j + 1, m + 1, by omega, by omega, by omega, by go_num, by go_num, HM2, by rw [← HMID.out]; exact hL⟩
              case measure => simp [intOf]; omega
            · have HB := Lib.hid hb
              have HR : Hid ((y.e.cmp q.e == 0) = true) := Lib.hid (HEQ.out.trans hb)
              clear hb HEQ
              go_wp2_with fail
              (try simp only [Act.put, List.setIfInBounds_toArray, List.set_cons_succ, List.set_cons_zero])
              refine wp_region_ext (by kernel_rfl) (by kernel_rfl) ?_
              repeat (first
                | (go_big_quiet_want; (first | refine quiet_index rfl (by rfl) (by rfl) (by omega) ?_ | refine quiet_loadR (cs := Evt.cells y.e) rfl (by rfl) (range_below hz1 (Below.refl _ _)) (by rfl) ?_ | refine quiet_loadR (cs := Evt.cells q.e) rfl (by rfl) (range_below hz2 (Below.refl _ _)) (by rfl) ?_); go_big_quiet_on; simp only [Act.put, List.setIfInBounds_toArray, List.set_cons_succ, List.set_cons_zero])
                | go_big_quiet_step (first | (go_at_call 34; exact same_ext y.e q.e true HR.out)))
              refine wpQuiet_nil ?_
              rintro _ ⟨⟨wC, hbC⟩, rfl⟩
              replace hL := hL.call hbC
              clear hbC
              go_wp2_with fail
              go_roundw
              case rel => exact ⟨j + 1, m, by omega, by omega, hm1, by go_num, by go_num, Lib.hid (by rw [show i + 1 + (j + 1 + 1) = i + 1 + j + 1 + 1 from by omega, HST.out, HB.out, if_pos rfl, List.append_nil]; exact HM.out), by rw [show i + 1 + (j + 1 + 1) = i + 1 + j + 1 + 1 from by omega, HST.out, HB.out, if_pos rfl, List.append_nil]; exact hL⟩
              case measure => simp [intOf]; omega
          · have t2 : decide (((j + 1 : Nat) : Int) < ((n - (i + 1) : Nat) : Int)) = false := by simp; omega
            have hmn : m ≤ n := by omega
            have hs3 : (m : Int) ≤ (n : Int) := by omega
            have hs4 : (m : Int) ≤ (c : Int) := by omega
            have hln : n = (Stab.coll Ep.lt (xs.take (i + 1 + (j + 1))) ++ xs.drop m).length := by rw [List.length_append, HM.out, List.length_drop]; have := HN.out; omega
            have HLN := Lib.hid hln
            clear hln
            have HEND : Hid ((Stab.coll Ep.lt (xs.take (i + 1 + (j + 1))) ++ xs.drop m).take m = Stab.coll Ep.lt xs) := Lib.hid (by
              rw [List.take_append_of_le_length (by rw [HM.out]; exact Nat.le_refl _), List.take_of_length_le (by rw [HM.out]; exact Nat.le_refl _), show i + 1 + (j + 1) = xs.length from by have := HN.out; omega, List.take_length])
            go_wp2_with (first
              | ((with_reducible refine gate0 rfl ?_); refine ev_clearRow (E := encEp) (k := m) rfl hL rfl rfl (by show m * 21 = m * 21; rfl) rfl rfl (by rfl) (ones_of rfl) HLN.out hmn (.here _) ?_; clear hL; intro wq hL))
            go_ret
            exact ⟨m, rfl, by rw [← HEND.out]; exact hL⟩
    · obtain rfl : n = i + 1 := by omega
      have HE : Hid (Stab.coll Ep.lt xs = xs) := Lib.hid (by have h1 := HC.out; rwa [HN.out, List.take_length] at h1)
      go_wp2_with fail
      go_ret
      exact ⟨_, rfl, by rw [HE.out]; exact hL⟩
end Go.Proofs.YtebpacmhdkgfeaaDoor

/- Chapter 29: story.Order: each event once, in order. -/
namespace Go.Proofs.YtebpacmhdkgfeaaDoor
open Go.RowKit

/-- What a row of one's own is, when it is there. -/
theorem own_cases {w0 w : World} {M : Nat → Prop} {u : Value} {xs : List Ep} {base : Nat} (hL : Loc w0 M w [row encEp base 31 u xs]) : (u = .slice none 0 0 ∧ xs = []) ∨ ∃ g c, u = .slice (some ⟨g, 0, none⟩) xs.length c ∧ xs.length ≤ c ∧ c ≤ 9223372036854775807 ∧ base ≤ g := by
  have h := hL.own (E := encEp) (.head _)
  rcases h.2 with ⟨rfl, h0⟩ | ⟨g, c, cur, rfl, hb, hg, h1, h2, h3⟩
  · exact .inl ⟨rfl, List.eq_nil_of_length_eq_zero h0⟩
  · exact .inr ⟨g, c, rfl, h1, by unfold maxLen at h2; omega, hb⟩
/-- A call that turns that row, and no other. -/
theorem Loc.thenRow {w0 w w1 : World} {g n c m d base : Nat} {xs ys : List Ep} (h : Loc w0 NoM w [row encEp base 31 (.slice (some ⟨g, 0, none⟩) n c) xs]) (h2 : Loc w (· = g) w1 [row encEp base 31 (.slice (some ⟨g, 0, none⟩) m d) ys]) (hg : w0.heap.size ≤ g) :
    Loc w0 NoM w1 [row encEp base 31 (.slice (some ⟨g, 0, none⟩) m d) ys] := by
  refine ⟨h.mod.trans h2.mod fun b hb e => ?_, h2.at_, fun i hi k hk => ?_, h2.apart⟩
  · have e' : b = g := e
    omega
  · rw [List.mem_singleton.1 hi] at hk
    have hk' : (Value.slice (some ⟨g, 0, none⟩) m d).ownBlock = some k := hk
    injection hk' with hk'
    subst hk'
    exact .inl hg
theorem stableNil (w : World) (fv : Value) : Calls Tryd.prog 50 #[.slice none 0 0, .int .i64 0, fv] w fun e w' => e = .returned (.tuple #[]) ∧ w' = w := by
  have t1 : decide ((20 : Int) ≤ 0) = false := by decide
  have t2 : decide ((20 : Int) < 0) = false := by decide
  go_enter Tryd.func50, Tryd.ntmps50
  go_wp2
  go_loopw [7, 8] (fun a b wr => a = .int .i64 0 ∧ b = .int .i64 20 ∧ wr = w) (fun _ _ _ => 0)
  case atStart => exact ⟨rfl, rfl, rfl⟩
  case round =>
    obtain ⟨rfl, rfl, rfl⟩ := hrel
    go_wp2_with (go_at_call 62; (with_reducible refine (SortEv.insertionNil _ fv).mono ?_); rintro e w3 ⟨rfl, rfl⟩)
    go_loopw [6] (fun a wr => a = .int .i64 20 ∧ wr = w3) (fun _ _ => 0)
    case atStart => exact ⟨rfl, rfl⟩
    case round =>
      obtain ⟨rfl, rfl⟩ := hrel
      go_wp2
      go_end0
      exact ⟨rfl, rfl⟩
theorem sortNil (w : World) (fv : Value) : Calls Tryd.prog 31 #[.slice none 0 0, fv] w fun e w' => e = .returned (.tuple #[]) ∧ w' = w := by
  go_enter Tryd.func31, Tryd.ntmps31
  go_wp2_with (go_at_call 50; (with_reducible refine (stableNil _ fv).mono ?_); rintro e w3 ⟨rfl, rfl⟩)
  go_end0
  exact ⟨rfl, rfl⟩
theorem compactNil (w : World) (fv : Value) : Calls Tryd.prog 33 #[.slice none 0 0, fv] w fun e w' => e = .returned (.slice none 0 0) ∧ w' = w := by
  go_enter Tryd.func33, Tryd.ntmps33
  go_wp2
  go_ret
  exact ⟨rfl, rfl⟩
set_option maxHeartbeats 2000000 in
theorem story_Order (v : Value) (xs : List Ep) (w : World) (h : encEp.R w v xs) (hn : xs.length ≤ 1000) :
    Calls Tryd.prog 11 #[v] w fun e w' => ∃ u L, e = .returned u ∧ Stab.Of Ep.lt xs L ∧ Loc w NoM w' [row encEp w.heap.size 31 u (Stab.coll Ep.lt L)] := by
  have hq := Lib.hid (clone_events v xs w h (Nat.le_trans hn (by decide)))
  clear h
  go_enter Tryd.func11, Tryd.ntmps11
  go_wp2_with (first
    | (go_at_call 13; (with_reducible refine hq.out.mono ?_); rintro e w1 ⟨u, rfl, hL⟩; clear hq; refine stop ?_))
  unfold Stop
  rcases own_cases hL with ⟨rfl, rfl⟩ | ⟨g, c, rfl, h1, h2, hg⟩
  · go_wp2_with (first
      | (go_at_call 31; (with_reducible refine (sortNil _ _).mono ?_); rintro e w3 ⟨rfl, rfl⟩)
      | (go_at_call 33; (with_reducible refine (compactNil _ _).mono ?_); rintro e w4 ⟨rfl, rfl⟩))
    go_ret
    exact ⟨_, [], rfl, .refl .nil, hL⟩
  · have hs := Lib.hid (events_sort w1 w.heap.size g xs.length c xs (hL.own (E := encEp) (.head _)) rfl (Nat.le_trans hn (by decide)))
    have HL := Lib.hid hL
    clear hL
    go_wp2_with (first
      | (go_at_call 31; (with_reducible refine hs.out.mono ?_); rintro e w3 ⟨rfl, L, hO, hL3⟩; have HOF := Lib.hid hO; have HL3 := Lib.hid hL3; have hc := Lib.hid (compact w3 w.heap.size g xs.length c L (hL3.own (E := encEp) (.head _)) hO.len.symm (Nat.le_trans hn (by decide)) h1 h2); clear hO hL3 hs)
      | (go_at_call 33; (with_reducible refine hc.out.mono ?_); rintro e w4 ⟨m, rfl, hL4⟩; have HL4 := Lib.hid hL4; clear hL4 hc))
    go_ret
    exact ⟨_, L, rfl, HOF.out, (HL.out.thenRow HL3.out hg).thenRow HL4.out hg⟩
end Go.Proofs.YtebpacmhdkgfeaaDoor

/- Chapter 29: the document's Order: each event put in its place. -/
namespace Go.Proofs.YtebpacmhdkgfeaaDoor
open Go.RowKit
set_option maxHeartbeats 4000000

theorem ref09_less (a b : Mk) (w : World) : Calls Tryd.prog 37 #[.agg #[.int .i64 a.boot, .int .i64 a.n], .agg #[.int .i64 b.boot, .int .i64 b.n]] w fun e w' => e = .returned (.bool (a.less b)) ∧ Below w.heap.size w w' := by
  have hL := Loc.nil w NoM
  unfold Mk.less
  by_cases h1 : a.boot = b.boot
  · rw [if_pos h1]
    have t1 : decide (a.boot < b.boot) = false := by simp; omega
    have t2 : (a.boot == b.boot) = true := by simpa using h1
    clear h1
    go_enter Tryd.func37, Tryd.ntmps37
    go_wp2_with (first | ((with_reducible refine gAlloc rfl rfl ?_); (refine ev_allocL rfl hL rfl (by first | exact CellsC.of | exact cells_one (by assumption) (by assumption) | exact cells_agg _ rfl) ?_; clear hL; intro gq wq hL)) | ((with_reducible refine gBox rfl rfl ?_); (refine ev_boxL rfl hL rfl rfl (by first | exact CellsC.of | exact cells_one (by assumption) (by assumption) | exact cells_agg _ rfl) ?_; clear hL; intro gq wq hL)) | ((with_reducible refine gLoad rfl rfl ?_); (first | (refine ev_load1L rfl hL rfl rfl HasV.mem (by rfl) ?_) | (refine ev_loadAllL rfl hL rfl rfl HasV.mem (by rfl) ?_) | (refine ev_loadL rfl hL rfl rfl HasV.mem SegC.seg ?_))) | ((with_reducible refine gStore rfl rfl ?_); (first | (refine ev_storeC rfl hL rfl rfl rfl (by first | exact CellsC.of | exact cells_one (by assumption) (by assumption) | exact cells_agg _ rfl) (by rfl) ?_) | (refine ev_storeAllC rfl hL rfl rfl rfl (by first | exact CellsC.of | exact cells_one (by assumption) (by assumption) | exact cells_agg _ rfl) (by rfl) (by rfl) ?_)); clear hL; intro wq hL) | ((with_reducible refine gLoadG rfl rfl ?_ ?_); (exact wanted_some rfl rfl rfl (by with_reducible rfl)); (first | (refine ev_load1G (wanted_some rfl rfl rfl rfl) hL rfl rfl HasV.mem (by rfl) ?_) | (refine ev_loadAllG (wanted_some rfl rfl rfl rfl) hL rfl rfl HasV.mem (by rfl) ?_) | (refine ev_loadG_ (wanted_some rfl rfl rfl rfl) hL rfl rfl HasV.mem SegC.seg ?_))))
    go_ret
    exact ⟨rfl, hL.below⟩
  · rw [if_neg h1]
    have t2 : (a.boot == b.boot) = false := by simpa using h1
    by_cases h2 : a.boot < b.boot
    · rw [decide_eq_true h2]
      have t1 : decide (a.boot < b.boot) = true := decide_eq_true h2
      go_enter Tryd.func37, Tryd.ntmps37
      go_wp2_with (first | ((with_reducible refine gAlloc rfl rfl ?_); (refine ev_allocL rfl hL rfl (by first | exact CellsC.of | exact cells_one (by assumption) (by assumption) | exact cells_agg _ rfl) ?_; clear hL; intro gq wq hL)) | ((with_reducible refine gBox rfl rfl ?_); (refine ev_boxL rfl hL rfl rfl (by first | exact CellsC.of | exact cells_one (by assumption) (by assumption) | exact cells_agg _ rfl) ?_; clear hL; intro gq wq hL)) | ((with_reducible refine gLoad rfl rfl ?_); (first | (refine ev_load1L rfl hL rfl rfl HasV.mem (by rfl) ?_) | (refine ev_loadAllL rfl hL rfl rfl HasV.mem (by rfl) ?_) | (refine ev_loadL rfl hL rfl rfl HasV.mem SegC.seg ?_))) | ((with_reducible refine gStore rfl rfl ?_); (first | (refine ev_storeC rfl hL rfl rfl rfl (by first | exact CellsC.of | exact cells_one (by assumption) (by assumption) | exact cells_agg _ rfl) (by rfl) ?_) | (refine ev_storeAllC rfl hL rfl rfl rfl (by first | exact CellsC.of | exact cells_one (by assumption) (by assumption) | exact cells_agg _ rfl) (by rfl) (by rfl) ?_)); clear hL; intro wq hL) | ((with_reducible refine gLoadG rfl rfl ?_ ?_); (exact wanted_some rfl rfl rfl (by with_reducible rfl)); (first | (refine ev_load1G (wanted_some rfl rfl rfl rfl) hL rfl rfl HasV.mem (by rfl) ?_) | (refine ev_loadAllG (wanted_some rfl rfl rfl rfl) hL rfl rfl HasV.mem (by rfl) ?_) | (refine ev_loadG_ (wanted_some rfl rfl rfl rfl) hL rfl rfl HasV.mem SegC.seg ?_))))
      go_ret
      exact ⟨rfl, hL.below⟩
    · rw [decide_eq_false h2]
      have t1 : decide (a.boot < b.boot) = false := decide_eq_false h2
      go_enter Tryd.func37, Tryd.ntmps37
      go_wp2_with (first | ((with_reducible refine gAlloc rfl rfl ?_); (refine ev_allocL rfl hL rfl (by first | exact CellsC.of | exact cells_one (by assumption) (by assumption) | exact cells_agg _ rfl) ?_; clear hL; intro gq wq hL)) | ((with_reducible refine gBox rfl rfl ?_); (refine ev_boxL rfl hL rfl rfl (by first | exact CellsC.of | exact cells_one (by assumption) (by assumption) | exact cells_agg _ rfl) ?_; clear hL; intro gq wq hL)) | ((with_reducible refine gLoad rfl rfl ?_); (first | (refine ev_load1L rfl hL rfl rfl HasV.mem (by rfl) ?_) | (refine ev_loadAllL rfl hL rfl rfl HasV.mem (by rfl) ?_) | (refine ev_loadL rfl hL rfl rfl HasV.mem SegC.seg ?_))) | ((with_reducible refine gStore rfl rfl ?_); (first | (refine ev_storeC rfl hL rfl rfl rfl (by first | exact CellsC.of | exact cells_one (by assumption) (by assumption) | exact cells_agg _ rfl) (by rfl) ?_) | (refine ev_storeAllC rfl hL rfl rfl rfl (by first | exact CellsC.of | exact cells_one (by assumption) (by assumption) | exact cells_agg _ rfl) (by rfl) (by rfl) ?_)); clear hL; intro wq hL) | ((with_reducible refine gLoadG rfl rfl ?_ ?_); (exact wanted_some rfl rfl rfl (by with_reducible rfl)); (first | (refine ev_load1G (wanted_some rfl rfl rfl rfl) hL rfl rfl HasV.mem (by rfl) ?_) | (refine ev_loadAllG (wanted_some rfl rfl rfl rfl) hL rfl rfl HasV.mem (by rfl) ?_) | (refine ev_loadG_ (wanted_some rfl rfl rfl rfl) hL rfl rfl HasV.mem SegC.seg ?_))))
      go_ret
      exact ⟨rfl, hL.below⟩
theorem less_irr (a b : Mk) (h : decide (a = b) = true) : a.less b = false := by
  obtain rfl := of_decide_eq_true h
  unfold Mk.less
  rw [if_pos rfl]
  simp
/-- Ahead of it, or the same, by the parts that the document looks at. -/
theorem lt_parts (x e : Ep) : Ep.lt x e = (x.e.at_.less e.e.at_ || (decide (x.e.at_ = e.e.at_) && decide (x.e.vol < e.e.vol))) := by
  show decide (x.e.cmp e.e < 0) = _
  unfold Evt.cmp
  cases h1 : x.e.at_.less e.e.at_
  · rw [if_neg (by simp)]
    by_cases h2 : x.e.at_ = e.e.at_
    · rw [if_pos h2, decide_eq_true h2]
      by_cases h3 : x.e.vol < e.e.vol
      · rw [if_pos h3, decide_eq_true h3]; rfl
      · rw [if_neg h3, decide_eq_false h3]
        by_cases h4 : x.e.vol = e.e.vol
        · rw [if_pos h4]; rfl
        · rw [if_neg h4]; rfl
    · rw [if_neg h2, decide_eq_false h2]; rfl
  · rw [if_pos rfl]; rfl
theorem eqv_parts (x e : Ep) : Stab.eqv Ep.lt x e = (decide (x.e.at_ = e.e.at_) && (x.e.vol == e.e.vol)) := by
  rw [← Ep.cmp_eqv]
  show (x.e.cmp e.e == 0) = _
  unfold Evt.cmp
  cases h1 : x.e.at_.less e.e.at_
  · rw [if_neg (by simp)]
    by_cases h2 : x.e.at_ = e.e.at_
    · rw [if_pos h2, decide_eq_true h2]
      by_cases h3 : x.e.vol < e.e.vol
      · rw [if_pos h3]
        have : (x.e.vol == e.e.vol) = false := by simp; omega
        rw [this]; rfl
      · rw [if_neg h3]
        by_cases h4 : x.e.vol = e.e.vol
        · rw [if_pos h4]
          have : (x.e.vol == e.e.vol) = true := by simpa using h4
          rw [this]; rfl
        · rw [if_neg h4]
          have : (x.e.vol == e.e.vol) = false := by simpa using h4
          rw [this]; rfl
    · rw [if_neg h2, decide_eq_false h2]; rfl
  · rw [if_pos rfl]
    have h2 : ¬ x.e.at_ = e.e.at_ := fun h => by rw [h, less_irr _ _ (decide_eq_true rfl)] at h1; cases h1
    rw [decide_eq_false h2]; rfl
/-- Where the rounds over what stands there have come to: is one alike, and behind which does it belong. -/
structure Place (out : List Ep) (e : Ep) (i at_ : Nat) (again : Bool) : Prop where
  le : at_ ≤ i
  again : again = (out.take i).any fun x => Stab.eqv Ep.lt x e
  lo : ∀ x ∈ out.take at_, Ep.lt x e = true
  hi : ∀ x ∈ (out.take i).drop at_, Ep.lt x e = false
theorem Place.start (out : List Ep) (e : Ep) : Place out e 0 0 false := ⟨Nat.le_refl _, by simp, by simp, by simp⟩
theorem Place.step {out : List Ep} {e x : Ep} {i at_ : Nat} {again : Bool} (h : Place out e i at_ again) (hs : Stab.Strict Ep.lt out) (hx : out[i]? = some x) :
    Place out e (i + 1) (if Ep.lt x e = true then i + 1 else at_) (again || Stab.eqv Ep.lt x e) := by
  have ht := Stab.take_snoc' hx
  obtain ⟨hi, hxe⟩ := List.getElem?_eq_some_iff.1 hx
  refine ⟨by split <;> (have := h.le; omega), by rw [ht, List.any_append, h.again]; simp, ?_, ?_⟩
  · split
    · rename_i hlt
      intro y hy
      rw [ht, List.mem_append, List.mem_singleton] at hy
      rcases hy with hy | rfl
      · obtain ⟨j, hj, rfl⟩ := List.getElem_of_mem hy
        have hj' : j < i := by rw [List.length_take] at hj; omega
        have h1 := List.pairwise_iff_getElem.1 hs j i (by omega) hi hj'
        rw [hxe] at h1
        rw [List.getElem_take]
        exact Ep.ord.trans h1 hlt
      · exact hlt
    · exact h.lo
  · split
    · intro y hy
      rw [ht, List.drop_of_length_le (by rw [List.length_append, List.length_take]; simp; omega)] at hy
      cases hy
    · rename_i hlt
      intro y hy
      rw [ht, List.drop_append_of_le_length (by rw [List.length_take]; have := h.le; omega), List.mem_append, List.mem_singleton] at hy
      rcases hy with hy | rfl
      · exact h.hi y hy
      · simpa using hlt
theorem Place.keep {l out : List Ep} {e : Ep} {at_ : Nat} (h : Place out e out.length at_ true) (hf : Stab.Firsts Ep.lt l out) : Stab.Firsts Ep.lt (l ++ [e]) out := by
  have h1 := h.again
  rw [List.take_length] at h1
  obtain ⟨x, hx, he⟩ := List.any_eq_true.1 h1.symm
  exact hf.keep Ep.ord hx he
theorem Place.ins {l out : List Ep} {e : Ep} {at_ : Nat} (h : Place out e out.length at_ false) (hf : Stab.Firsts Ep.lt l out) : Stab.Firsts Ep.lt (l ++ [e]) (out.take at_ ++ [e] ++ out.drop at_) := by
  rw [List.append_assoc]
  refine Stab.Firsts.ins (k1 := out.take at_) (k2 := out.drop at_) Ep.ord (by rw [List.take_append_drop]; exact hf) h.lo fun y hy => ?_
  have h1 := h.hi y (by rw [List.take_length]; exact hy)
  have h2 : Stab.eqv Ep.lt y e = false := by
    have h3 := h.again
    rw [List.take_length] at h3
    cases h4 : Stab.eqv Ep.lt y e
    · rfl
    · exact absurd (List.any_eq_true.2 ⟨y, List.mem_of_mem_drop hy, h4⟩) (by rw [← h3]; simp)
  cases h5 : Ep.lt e y
  · rw [Stab.eqv_iff.2 ⟨h1, h5⟩] at h2; cases h2
  · rfl
end Go.Proofs.YtebpacmhdkgfeaaDoor

/- Equal structs are not unlike. -/
namespace Go.Proofs.YtebpacmhdkgfeaaDoor
open Go.RowKit

theorem stamp_ns (m : Mk) : ∀ w, (binOp .neq 23 (.agg #[.int .i64 m.boot, .int .i64 m.n]) (.agg #[.int .i64 m.boot, .int .i64 m.n])).run Tryd.prog w = .ok (.bool false) w := by
  have h : eqCells Tryd.prog 3 23 [.int .i64 m.boot, .int .i64 m.n] [.int .i64 m.boot, .int .i64 m.n] = some (m.boot == m.boot && (m.n == m.n && true)) := by kernel_rfl
  have e : (m.boot == m.boot && (m.n == m.n && true)) = true := by simp
  rw [e] at h
  exact run_neq_cells 3 (by decide) (by kernel_rfl) h
theorem vec_ns (v : V8) : ∀ w, (binOp .neq 25 v.val v.val).run Tryd.prog w = .ok (.bool false) w := by
  have h : eqCells Tryd.prog 3 25 v.cells v.cells = some (v.a0 == v.a0 && (v.a1 == v.a1 && (v.a2 == v.a2 && (v.a3 == v.a3 && (v.a4 == v.a4 && (v.a5 == v.a5 && (v.a6 == v.a6 && (v.a7 == v.a7 && true)))))))) := by kernel_rfl
  have e : (v.a0 == v.a0 && (v.a1 == v.a1 && (v.a2 == v.a2 && (v.a3 == v.a3 && (v.a4 == v.a4 && (v.a5 == v.a5 && (v.a6 == v.a6 && (v.a7 == v.a7 && true)))))))) = true := by simp
  rw [e] at h
  exact run_neq_cells 3 (by decide) (by kernel_rfl) h
theorem vec_es (v : V8) : ∀ w, (binOp .eql 25 v.val v.val).run Tryd.prog w = .ok (.bool true) w := by
  have h : eqCells Tryd.prog 3 25 v.cells v.cells = some (v.a0 == v.a0 && (v.a1 == v.a1 && (v.a2 == v.a2 && (v.a3 == v.a3 && (v.a4 == v.a4 && (v.a5 == v.a5 && (v.a6 == v.a6 && (v.a7 == v.a7 && true)))))))) := by kernel_rfl
  have e : (v.a0 == v.a0 && (v.a1 == v.a1 && (v.a2 == v.a2 && (v.a3 == v.a3 && (v.a4 == v.a4 && (v.a5 == v.a5 && (v.a6 == v.a6 && (v.a7 == v.a7 && true)))))))) = true := by simp
  rw [e] at h
  exact run_eql_cells 3 (by decide) (by kernel_rfl) h
def Atr.cells (a : Atr) : List Value := [.int .i64 a.at_.boot, .int .i64 a.at_.n, .int .i64 a.mode, .int .u64 a.time]
def Siz.cells (a : Siz) : List Value := [.int .i64 a.at_.boot, .int .i64 a.at_.n, .int .i64 a.n]
/-- Cells that are alike, whatever they are, are alike by their type's own test. -/
theorem neq_self {P : Program} {t : TypeId} {cs : List Value} (hag : isAggT P t = true) (h : eqCells P 6 t cs cs = some true) : ∀ w, (binOp .neq t (.agg cs.toArray) (.agg cs.toArray)).run P w = .ok (.bool false) w :=
  run_neq_cells 6 (by decide) hag h
theorem beq_ba (a b : ByteArray) : (a == b) = decide (a = b) := by
  rw [beq_toListBytes, ByteArray.toList_eq, ByteArray.toList_eq]
  obtain ⟨⟨x⟩⟩ := a
  obtain ⟨⟨y⟩⟩ := b
  rw [Bool.eq_iff_iff]; simp
theorem ba_self (s : ByteArray) : (s == s) = true := by rw [beq_ba]; simp
theorem attr_ns (a : Atr) : ∀ w, (binOp .neq 56 (.agg (a.cells).toArray) (.agg (a.cells).toArray)).run Tryd.prog w = .ok (.bool false) w := by
  have h : eqCells Tryd.prog 6 56 a.cells a.cells = some (((a.at_.boot == a.at_.boot) && ((a.at_.n == a.at_.n) && true)) && ((a.mode == a.mode) && ((a.time == a.time) && true))) := by kernel_rfl
  have e : (((a.at_.boot == a.at_.boot) && ((a.at_.n == a.at_.n) && true)) && ((a.mode == a.mode) && ((a.time == a.time) && true))) = true := by simp [ba_self]
  rw [e] at h
  exact neq_self (by kernel_rfl) h
theorem size_ns (a : Siz) : ∀ w, (binOp .neq 58 (.agg (a.cells).toArray) (.agg (a.cells).toArray)).run Tryd.prog w = .ok (.bool false) w := by
  have h : eqCells Tryd.prog 6 58 a.cells a.cells = some (((a.at_.boot == a.at_.boot) && ((a.at_.n == a.at_.n) && true)) && ((a.n == a.n) && true)) := by kernel_rfl
  have e : (((a.at_.boot == a.at_.boot) && ((a.at_.n == a.at_.n) && true)) && ((a.n == a.n) && true)) = true := by simp [ba_self]
  rw [e] at h
  exact neq_self (by kernel_rfl) h
theorem piece_ns (a : Pce) : ∀ w, (binOp .neq 80 (.agg (a.cells).toArray) (.agg (a.cells).toArray)).run Tryd.prog w = .ok (.bool false) w := by
  have h : eqCells Tryd.prog 6 80 a.cells a.cells = some ((a.idx == a.idx) && (((a.at_.boot == a.at_.boot) && ((a.at_.n == a.at_.n) && true)) && ((a.data == a.data) && true))) := by kernel_rfl
  have e : ((a.idx == a.idx) && (((a.at_.boot == a.at_.boot) && ((a.at_.n == a.at_.n) && true)) && ((a.data == a.data) && true))) = true := by simp [ba_self]
  rw [e] at h
  exact neq_self (by kernel_rfl) h
theorem xattr_ns (a : Xat) : ∀ w, (binOp .neq 82 (.agg (a.cells).toArray) (.agg (a.cells).toArray)).run Tryd.prog w = .ok (.bool false) w := by
  have h : eqCells Tryd.prog 6 82 a.cells a.cells = some ((a.name == a.name) && (((a.at_.boot == a.at_.boot) && ((a.at_.n == a.at_.n) && true)) && ((a.val == a.val) && ((a.gone == a.gone) && true)))) := by kernel_rfl
  have e : ((a.name == a.name) && (((a.at_.boot == a.at_.boot) && ((a.at_.n == a.at_.n) && true)) && ((a.val == a.val) && ((a.gone == a.gone) && true)))) = true := by simp [ba_self]
  rw [e] at h
  exact neq_self (by kernel_rfl) h
theorem link_ns (a : Lnk) : ∀ w, (binOp .neq 65 (.agg (a.cells).toArray) (.agg (a.cells).toArray)).run Tryd.prog w = .ok (.bool false) w := by
  have h : eqCells Tryd.prog 6 65 a.cells a.cells = some (((a.id.boot == a.id.boot) && ((a.id.n == a.id.n) && true)) && (((a.node.boot == a.node.boot) && ((a.node.n == a.node.n) && true)) && (((a.at_.boot == a.at_.boot) && ((a.at_.n == a.at_.n) && true)) && (((a.parent.boot == a.parent.boot) && ((a.parent.n == a.parent.n) && true)) && ((a.name == a.name) && (((a.alive.a0 == a.alive.a0) && ((a.alive.a1 == a.alive.a1) && ((a.alive.a2 == a.alive.a2) && ((a.alive.a3 == a.alive.a3) && ((a.alive.a4 == a.alive.a4) && ((a.alive.a5 == a.alive.a5) && ((a.alive.a6 == a.alive.a6) && ((a.alive.a7 == a.alive.a7) && true)))))))) && (((a.dead.a0 == a.dead.a0) && ((a.dead.a1 == a.dead.a1) && ((a.dead.a2 == a.dead.a2) && ((a.dead.a3 == a.dead.a3) && ((a.dead.a4 == a.dead.a4) && ((a.dead.a5 == a.dead.a5) && ((a.dead.a6 == a.dead.a6) && ((a.dead.a7 == a.dead.a7) && true)))))))) && true))))))) := by kernel_rfl
  have e : (((a.id.boot == a.id.boot) && ((a.id.n == a.id.n) && true)) && (((a.node.boot == a.node.boot) && ((a.node.n == a.node.n) && true)) && (((a.at_.boot == a.at_.boot) && ((a.at_.n == a.at_.n) && true)) && (((a.parent.boot == a.parent.boot) && ((a.parent.n == a.parent.n) && true)) && ((a.name == a.name) && (((a.alive.a0 == a.alive.a0) && ((a.alive.a1 == a.alive.a1) && ((a.alive.a2 == a.alive.a2) && ((a.alive.a3 == a.alive.a3) && ((a.alive.a4 == a.alive.a4) && ((a.alive.a5 == a.alive.a5) && ((a.alive.a6 == a.alive.a6) && ((a.alive.a7 == a.alive.a7) && true)))))))) && (((a.dead.a0 == a.dead.a0) && ((a.dead.a1 == a.dead.a1) && ((a.dead.a2 == a.dead.a2) && ((a.dead.a3 == a.dead.a3) && ((a.dead.a4 == a.dead.a4) && ((a.dead.a5 == a.dead.a5) && ((a.dead.a6 == a.dead.a6) && ((a.dead.a7 == a.dead.a7) && true)))))))) && true))))))) = true := by simp [ba_self]
  rw [e] at h
  exact neq_self (by kernel_rfl) h
end Go.Proofs.YtebpacmhdkgfeaaDoor

/- crannogref10.SameNode, of two inodes that say the same. -/
namespace Go.Proofs.YtebpacmhdkgfeaaDoor
open Go.RowKit

theorem ino_shape (i : Ino) (d : InoD) (w : World) (h : i.Ok w d) : ∃ a c b e, i = ⟨d.hd, ⟨a, d.ps.length, c⟩, ⟨b, d.xs.length, e⟩⟩ := by
  obtain ⟨hd, p, x⟩ := i
  obtain ⟨ao, c, e1, -⟩ := R_elem h.ps
  obtain ⟨bo, c2, e2, -⟩ := R_elem h.xs
  have e0 : hd = d.hd := h.hd
  obtain ⟨pa, pn, pc⟩ := p
  obtain ⟨xa, xn, xc⟩ := x
  unfold Sl.val at e1 e2
  injection e1 with a1 a2 a3
  injection e2 with b1 b2 b3
  subst e0 a2 b2
  exact ⟨pa, pc, xa, xc, rfl⟩
set_option maxHeartbeats 8000000 in
theorem same_node (i j : Ino) (d : InoD) (w : World) (hi : i.Ok w d) (hj : j.Ok w d) :
    Calls Tryd.prog 64 #[.agg (Ino.cells i).toArray, .agg (Ino.cells j).toArray] w fun e w' => e = .returned (.bool true) ∧ Below w.heap.size w w' := by
  have hL := Loc.nil w NoM
  obtain ⟨a1, c1, b1, e1, rfl⟩ := ino_shape i d w hi
  obtain ⟨a2, c2, b2, e2, rfl⟩ := ino_shape j d w hj
  obtain ⟨hd, ps, xs⟩ := d
  have hm1 : ps.length ≤ 9223372036854775807 := R_max hi.ps
  have hm2 : xs.length ≤ 9223372036854775807 := R_max hi.xs
  obtain ⟨ao, c, e3, hp1⟩ := R_elem hi.ps
  have e3' : a1 = ao := by unfold Sl.val at e3; injection e3
  subst e3'
  obtain ⟨ao, c', e3, hp2⟩ := R_elem hj.ps
  have e3' : a2 = ao := by unfold Sl.val at e3; injection e3
  subst e3'
  obtain ⟨ao, c', e3, hx1⟩ := R_elem hi.xs
  have e3' : b1 = ao := by unfold Sl.val at e3; injection e3
  subst e3'
  obtain ⟨ao, c', e3, hx2⟩ := R_elem hj.xs
  have e3' : b2 = ao := by unfold Sl.val at e3; injection e3
  subst e3'
  clear e3 hi hj
  replace hp1 : ∀ (i : Nat) (hi : i < ps.length), ∃ g off, a1 = some ⟨g, off, none⟩ ∧ w.rangeAt g (off + i * 4) (Pce.cells ps[i]) := hp1
  replace hp2 : ∀ (i : Nat) (hi : i < ps.length), ∃ g off, a2 = some ⟨g, off, none⟩ ∧ w.rangeAt g (off + i * 4) (Pce.cells ps[i]) := hp2
  replace hx1 : ∀ (i : Nat) (hi : i < xs.length), ∃ g off, b1 = some ⟨g, off, none⟩ ∧ w.rangeAt g (off + i * 5) (Xat.cells xs[i]) := hx1
  replace hx2 : ∀ (i : Nat) (hi : i < xs.length), ∃ g off, b2 = some ⟨g, off, none⟩ ∧ w.rangeAt g (off + i * 5) (Xat.cells xs[i]) := hx2
  have n1 := stamp_ns hd.id
  have n2 := attr_ns hd.attr
  have n3 := size_ns hd.size
  unfold Atr.cells at n2
  unfold Siz.cells at n3
  show Calls _ _ #[.agg ([.int .i64 hd.id.boot, .int .i64 hd.id.n, .int .i64 hd.kind, .string hd.text, .int .i64 hd.attr.at_.boot, .int .i64 hd.attr.at_.n, .int .i64 hd.attr.mode, .int .u64 hd.attr.time, .int .i64 hd.size.at_.boot, .int .i64 hd.size.at_.n, .int .i64 hd.size.n, .slice a1 ps.length c1, .slice b1 xs.length e1] : List Value).toArray, .agg ([.int .i64 hd.id.boot, .int .i64 hd.id.n, .int .i64 hd.kind, .string hd.text, .int .i64 hd.attr.at_.boot, .int .i64 hd.attr.at_.n, .int .i64 hd.attr.mode, .int .u64 hd.attr.time, .int .i64 hd.size.at_.boot, .int .i64 hd.size.at_.n, .int .i64 hd.size.n, .slice a2 ps.length c2, .slice b2 xs.length e2] : List Value).toArray] w _
  go_enter Tryd.func64, Tryd.ntmps64
  go_wp2_with (first | ((with_reducible refine gate (N := 2) rfl ?_); (refine ev_boxL rfl hL rfl rfl (by first | exact CellsC.of | exact cells_one (by assumption) (by assumption) | exact cells_agg _ rfl) ?_; clear hL; intro g2 w2 hL)) | ((with_reducible refine gate (N := 3) rfl ?_); (refine ev_boxL rfl hL rfl rfl (by first | exact CellsC.of | exact cells_one (by assumption) (by assumption) | exact cells_agg _ rfl) ?_; clear hL; intro g3 w3 hL)) | ((with_reducible refine gAlloc rfl rfl ?_); (refine ev_allocL rfl hL rfl (by first | exact CellsC.of | exact cells_one (by assumption) (by assumption) | exact cells_agg _ rfl) ?_; clear hL; intro gq wq hL)) | ((with_reducible refine gBox rfl rfl ?_); (refine ev_boxL rfl hL rfl rfl (by first | exact CellsC.of | exact cells_one (by assumption) (by assumption) | exact cells_agg _ rfl) ?_; clear hL; intro gq wq hL)) | ((with_reducible refine gLoad rfl rfl ?_); (first | (refine ev_load1L rfl hL rfl rfl HasV.mem (by rfl) ?_) | (refine ev_loadAllL rfl hL rfl rfl HasV.mem (by rfl) ?_) | (refine ev_loadL rfl hL rfl rfl HasV.mem SegC.seg ?_))) | ((with_reducible refine gStore rfl rfl ?_); (first | (refine ev_storeC rfl hL rfl rfl rfl (by first | exact CellsC.of | exact cells_one (by assumption) (by assumption) | exact cells_agg _ rfl) (by rfl) ?_) | (refine ev_storeAllC rfl hL rfl rfl rfl (by first | exact CellsC.of | exact cells_one (by assumption) (by assumption) | exact cells_agg _ rfl) (by rfl) (by rfl) ?_)); clear hL; intro wq hL) | ((with_reducible refine gLoadG rfl rfl ?_ ?_); (exact wanted_some rfl rfl rfl (by with_reducible rfl)); (first | (refine ev_load1G (wanted_some rfl rfl rfl rfl) hL rfl rfl HasV.mem (by rfl) ?_) | (refine ev_loadAllG (wanted_some rfl rfl rfl rfl) hL rfl rfl HasV.mem (by rfl) ?_) | (refine ev_loadG_ (wanted_some rfl rfl rfl rfl) hL rfl rfl HasV.mem SegC.seg ?_))))
  clear n1 n2 n3
  go_loopw [61] (fun i wr => ∃ k : Nat, k ≤ ps.length ∧ i = .int .i64 k ∧ Loc w NoM wr [var g3 [.int .i64 hd.id.boot, .int .i64 hd.id.n, .int .i64 hd.kind, .string hd.text, .int .i64 hd.attr.at_.boot, .int .i64 hd.attr.at_.n, .int .i64 hd.attr.mode, .int .u64 hd.attr.time, .int .i64 hd.size.at_.boot, .int .i64 hd.size.at_.n, .int .i64 hd.size.n, .slice a2 ps.length c2, .slice b2 xs.length e2] 62, var g2 [.int .i64 hd.id.boot, .int .i64 hd.id.n, .int .i64 hd.kind, .string hd.text, .int .i64 hd.attr.at_.boot, .int .i64 hd.attr.at_.n, .int .i64 hd.attr.mode, .int .u64 hd.attr.time, .int .i64 hd.size.at_.boot, .int .i64 hd.size.at_.n, .int .i64 hd.size.n, .slice a1 ps.length c1, .slice b1 xs.length e1] 62]) (fun i _ => ps.length - (intOf i).toNat)
  case atStart => exact ⟨0, by omega, rfl, hL⟩
  case round =>
    clear hL
    obtain ⟨k, hk, rfl, hL⟩ := hrel
    by_cases hlt : k < ps.length
    · obtain ⟨q1, o1, rfl, r1⟩ := hp1 k hlt
      obtain ⟨q2, o2, rfl, r2⟩ := hp2 k hlt
      have hz1 : World.rangeAt _ q1 (o1 + k * 4) (Pce.cells ps[k]) := range_below r1 hL.below
      have hz2 : World.rangeAt _ q2 (o2 + k * 4) (Pce.cells ps[k]) := range_below r2 hL.below
      clear r1 r2
      have hne := piece_ns ps[k]
      generalize ps[k] = q at *
      unfold Pce.cells at hz1 hz2 hne
      go_wp2_with (first | ((with_reducible refine gAlloc rfl rfl ?_); (refine ev_allocL rfl hL rfl (by first | exact CellsC.of | exact cells_one (by assumption) (by assumption) | exact cells_agg _ rfl) ?_; clear hL; intro gq wq hL)) | ((with_reducible refine gBox rfl rfl ?_); (refine ev_boxL rfl hL rfl rfl (by first | exact CellsC.of | exact cells_one (by assumption) (by assumption) | exact cells_agg _ rfl) ?_; clear hL; intro gq wq hL)) | ((with_reducible refine gLoad rfl rfl ?_); (first | (refine ev_load1L rfl hL rfl rfl HasV.mem (by rfl) ?_) | (refine ev_loadAllL rfl hL rfl rfl HasV.mem (by rfl) ?_) | (refine ev_loadL rfl hL rfl rfl HasV.mem SegC.seg ?_))) | ((with_reducible refine gStore rfl rfl ?_); (first | (refine ev_storeC rfl hL rfl rfl rfl (by first | exact CellsC.of | exact cells_one (by assumption) (by assumption) | exact cells_agg _ rfl) (by rfl) ?_) | (refine ev_storeAllC rfl hL rfl rfl rfl (by first | exact CellsC.of | exact cells_one (by assumption) (by assumption) | exact cells_agg _ rfl) (by rfl) (by rfl) ?_)); clear hL; intro wq hL) | ((with_reducible refine gLoadG rfl rfl ?_ ?_); (exact wanted_some rfl rfl rfl (by with_reducible rfl)); (first | (refine ev_load1G (wanted_some rfl rfl rfl rfl) hL rfl rfl HasV.mem (by rfl) ?_) | (refine ev_loadAllG (wanted_some rfl rfl rfl rfl) hL rfl rfl HasV.mem (by rfl) ?_) | (refine ev_loadG_ (wanted_some rfl rfl rfl rfl) hL rfl rfl HasV.mem SegC.seg ?_))))
      refine wp_region_ext (by kernel_rfl) (by kernel_rfl) ?_
      repeat (first
        | (go_big_quiet_want; (first | refine quiet_load1L hL rfl rfl HasV.mem (by rfl) ?_ | refine quiet_loadAllL hL rfl rfl HasV.mem (by rfl) ?_ | refine quiet_loadL hL rfl rfl HasV.mem SegC.seg ?_); go_big_quiet_on; simp only [Act.put, List.setIfInBounds_toArray, List.set_cons_succ, List.set_cons_zero])
        | (go_big_quiet_want; (first | refine quiet_index rfl rfl rfl hlt ?_ | refine quiet_loadR rfl rfl hz1 (by rfl) ?_ | refine quiet_loadR rfl rfl hz2 (by rfl) ?_); go_big_quiet_on; simp only [Act.put, List.setIfInBounds_toArray, List.set_cons_succ, List.set_cons_zero])
        | go_big_quiet_step (fail))
      refine wpQuiet_nil ?_
      rintro _ ⟨⟨w2, hb2⟩, rfl⟩
      replace hL := hL.call hb2
      clear hb2
      go_wp2_with (first | ((with_reducible refine gAlloc rfl rfl ?_); (refine ev_allocL rfl hL rfl (by first | exact CellsC.of | exact cells_one (by assumption) (by assumption) | exact cells_agg _ rfl) ?_; clear hL; intro gq wq hL)) | ((with_reducible refine gBox rfl rfl ?_); (refine ev_boxL rfl hL rfl rfl (by first | exact CellsC.of | exact cells_one (by assumption) (by assumption) | exact cells_agg _ rfl) ?_; clear hL; intro gq wq hL)) | ((with_reducible refine gLoad rfl rfl ?_); (first | (refine ev_load1L rfl hL rfl rfl HasV.mem (by rfl) ?_) | (refine ev_loadAllL rfl hL rfl rfl HasV.mem (by rfl) ?_) | (refine ev_loadL rfl hL rfl rfl HasV.mem SegC.seg ?_))) | ((with_reducible refine gStore rfl rfl ?_); (first | (refine ev_storeC rfl hL rfl rfl rfl (by first | exact CellsC.of | exact cells_one (by assumption) (by assumption) | exact cells_agg _ rfl) (by rfl) ?_) | (refine ev_storeAllC rfl hL rfl rfl rfl (by first | exact CellsC.of | exact cells_one (by assumption) (by assumption) | exact cells_agg _ rfl) (by rfl) (by rfl) ?_)); clear hL; intro wq hL) | ((with_reducible refine gLoadG rfl rfl ?_ ?_); (exact wanted_some rfl rfl rfl (by with_reducible rfl)); (first | (refine ev_load1G (wanted_some rfl rfl rfl rfl) hL rfl rfl HasV.mem (by rfl) ?_) | (refine ev_loadAllG (wanted_some rfl rfl rfl rfl) hL rfl rfl HasV.mem (by rfl) ?_) | (refine ev_loadG_ (wanted_some rfl rfl rfl rfl) hL rfl rfl HasV.mem SegC.seg ?_))))
      go_roundw
      case rel => exact ⟨k + 1, by omega, by go_num, hL⟩
      case measure => simp [intOf]; omega
    · obtain rfl : k = ps.length := by omega
      go_wp2_with (first | ((with_reducible refine gAlloc rfl rfl ?_); (refine ev_allocL rfl hL rfl (by first | exact CellsC.of | exact cells_one (by assumption) (by assumption) | exact cells_agg _ rfl) ?_; clear hL; intro gq wq hL)) | ((with_reducible refine gBox rfl rfl ?_); (refine ev_boxL rfl hL rfl rfl (by first | exact CellsC.of | exact cells_one (by assumption) (by assumption) | exact cells_agg _ rfl) ?_; clear hL; intro gq wq hL)) | ((with_reducible refine gLoad rfl rfl ?_); (first | (refine ev_load1L rfl hL rfl rfl HasV.mem (by rfl) ?_) | (refine ev_loadAllL rfl hL rfl rfl HasV.mem (by rfl) ?_) | (refine ev_loadL rfl hL rfl rfl HasV.mem SegC.seg ?_))) | ((with_reducible refine gStore rfl rfl ?_); (first | (refine ev_storeC rfl hL rfl rfl rfl (by first | exact CellsC.of | exact cells_one (by assumption) (by assumption) | exact cells_agg _ rfl) (by rfl) ?_) | (refine ev_storeAllC rfl hL rfl rfl rfl (by first | exact CellsC.of | exact cells_one (by assumption) (by assumption) | exact cells_agg _ rfl) (by rfl) (by rfl) ?_)); clear hL; intro wq hL) | ((with_reducible refine gLoadG rfl rfl ?_ ?_); (exact wanted_some rfl rfl rfl (by with_reducible rfl)); (first | (refine ev_load1G (wanted_some rfl rfl rfl rfl) hL rfl rfl HasV.mem (by rfl) ?_) | (refine ev_loadAllG (wanted_some rfl rfl rfl rfl) hL rfl rfl HasV.mem (by rfl) ?_) | (refine ev_loadG_ (wanted_some rfl rfl rfl rfl) hL rfl rfl HasV.mem SegC.seg ?_))))
      go_loopw [79] (fun i wr => ∃ k : Nat, k ≤ xs.length ∧ i = .int .i64 k ∧ Loc w NoM wr [var g3 [.int .i64 hd.id.boot, .int .i64 hd.id.n, .int .i64 hd.kind, .string hd.text, .int .i64 hd.attr.at_.boot, .int .i64 hd.attr.at_.n, .int .i64 hd.attr.mode, .int .u64 hd.attr.time, .int .i64 hd.size.at_.boot, .int .i64 hd.size.at_.n, .int .i64 hd.size.n, .slice a2 ps.length c2, .slice b2 xs.length e2] 62, var g2 [.int .i64 hd.id.boot, .int .i64 hd.id.n, .int .i64 hd.kind, .string hd.text, .int .i64 hd.attr.at_.boot, .int .i64 hd.attr.at_.n, .int .i64 hd.attr.mode, .int .u64 hd.attr.time, .int .i64 hd.size.at_.boot, .int .i64 hd.size.at_.n, .int .i64 hd.size.n, .slice a1 ps.length c1, .slice b1 xs.length e1] 62]) (fun i _ => xs.length - (intOf i).toNat)
      case atStart => exact ⟨0, by omega, rfl, hL⟩
      case round =>
        clear hL
        obtain ⟨k, hk, rfl, hL⟩ := hrel
        by_cases hlt : k < xs.length
        · obtain ⟨q1, o1, rfl, r1⟩ := hx1 k hlt
          obtain ⟨q2, o2, rfl, r2⟩ := hx2 k hlt
          have hz1 : World.rangeAt _ q1 (o1 + k * 5) (Xat.cells xs[k]) := range_below r1 hL.below
          have hz2 : World.rangeAt _ q2 (o2 + k * 5) (Xat.cells xs[k]) := range_below r2 hL.below
          clear r1 r2
          have hne := xattr_ns xs[k]
          generalize xs[k] = q at *
          unfold Xat.cells at hz1 hz2 hne
          go_wp2_with (first | ((with_reducible refine gAlloc rfl rfl ?_); (refine ev_allocL rfl hL rfl (by first | exact CellsC.of | exact cells_one (by assumption) (by assumption) | exact cells_agg _ rfl) ?_; clear hL; intro gq wq hL)) | ((with_reducible refine gBox rfl rfl ?_); (refine ev_boxL rfl hL rfl rfl (by first | exact CellsC.of | exact cells_one (by assumption) (by assumption) | exact cells_agg _ rfl) ?_; clear hL; intro gq wq hL)) | ((with_reducible refine gLoad rfl rfl ?_); (first | (refine ev_load1L rfl hL rfl rfl HasV.mem (by rfl) ?_) | (refine ev_loadAllL rfl hL rfl rfl HasV.mem (by rfl) ?_) | (refine ev_loadL rfl hL rfl rfl HasV.mem SegC.seg ?_))) | ((with_reducible refine gStore rfl rfl ?_); (first | (refine ev_storeC rfl hL rfl rfl rfl (by first | exact CellsC.of | exact cells_one (by assumption) (by assumption) | exact cells_agg _ rfl) (by rfl) ?_) | (refine ev_storeAllC rfl hL rfl rfl rfl (by first | exact CellsC.of | exact cells_one (by assumption) (by assumption) | exact cells_agg _ rfl) (by rfl) (by rfl) ?_)); clear hL; intro wq hL) | ((with_reducible refine gLoadG rfl rfl ?_ ?_); (exact wanted_some rfl rfl rfl (by with_reducible rfl)); (first | (refine ev_load1G (wanted_some rfl rfl rfl rfl) hL rfl rfl HasV.mem (by rfl) ?_) | (refine ev_loadAllG (wanted_some rfl rfl rfl rfl) hL rfl rfl HasV.mem (by rfl) ?_) | (refine ev_loadG_ (wanted_some rfl rfl rfl rfl) hL rfl rfl HasV.mem SegC.seg ?_))))
          refine wp_region_ext (by kernel_rfl) (by kernel_rfl) ?_
          repeat (first
        | (go_big_quiet_want; (first | refine quiet_load1L hL rfl rfl HasV.mem (by rfl) ?_ | refine quiet_loadAllL hL rfl rfl HasV.mem (by rfl) ?_ | refine quiet_loadL hL rfl rfl HasV.mem SegC.seg ?_); go_big_quiet_on; simp only [Act.put, List.setIfInBounds_toArray, List.set_cons_succ, List.set_cons_zero])
            | (go_big_quiet_want; (first | refine quiet_index rfl rfl rfl hlt ?_ | refine quiet_loadR rfl rfl hz1 (by rfl) ?_ | refine quiet_loadR rfl rfl hz2 (by rfl) ?_); go_big_quiet_on; simp only [Act.put, List.setIfInBounds_toArray, List.set_cons_succ, List.set_cons_zero])
            | go_big_quiet_step (fail))
          refine wpQuiet_nil ?_
          rintro _ ⟨⟨w2, hb2⟩, rfl⟩
          replace hL := hL.call hb2
          clear hb2
          go_wp2_with (first | ((with_reducible refine gAlloc rfl rfl ?_); (refine ev_allocL rfl hL rfl (by first | exact CellsC.of | exact cells_one (by assumption) (by assumption) | exact cells_agg _ rfl) ?_; clear hL; intro gq wq hL)) | ((with_reducible refine gBox rfl rfl ?_); (refine ev_boxL rfl hL rfl rfl (by first | exact CellsC.of | exact cells_one (by assumption) (by assumption) | exact cells_agg _ rfl) ?_; clear hL; intro gq wq hL)) | ((with_reducible refine gLoad rfl rfl ?_); (first | (refine ev_load1L rfl hL rfl rfl HasV.mem (by rfl) ?_) | (refine ev_loadAllL rfl hL rfl rfl HasV.mem (by rfl) ?_) | (refine ev_loadL rfl hL rfl rfl HasV.mem SegC.seg ?_))) | ((with_reducible refine gStore rfl rfl ?_); (first | (refine ev_storeC rfl hL rfl rfl rfl (by first | exact CellsC.of | exact cells_one (by assumption) (by assumption) | exact cells_agg _ rfl) (by rfl) ?_) | (refine ev_storeAllC rfl hL rfl rfl rfl (by first | exact CellsC.of | exact cells_one (by assumption) (by assumption) | exact cells_agg _ rfl) (by rfl) (by rfl) ?_)); clear hL; intro wq hL) | ((with_reducible refine gLoadG rfl rfl ?_ ?_); (exact wanted_some rfl rfl rfl (by with_reducible rfl)); (first | (refine ev_load1G (wanted_some rfl rfl rfl rfl) hL rfl rfl HasV.mem (by rfl) ?_) | (refine ev_loadAllG (wanted_some rfl rfl rfl rfl) hL rfl rfl HasV.mem (by rfl) ?_) | (refine ev_loadG_ (wanted_some rfl rfl rfl rfl) hL rfl rfl HasV.mem SegC.seg ?_))))
          go_roundw
          case rel => exact ⟨k + 1, by omega, by go_num, hL⟩
          case measure => simp [intOf]; omega
        · obtain rfl : k = xs.length := by omega
          go_wp2_with (first | ((with_reducible refine gAlloc rfl rfl ?_); (refine ev_allocL rfl hL rfl (by first | exact CellsC.of | exact cells_one (by assumption) (by assumption) | exact cells_agg _ rfl) ?_; clear hL; intro gq wq hL)) | ((with_reducible refine gBox rfl rfl ?_); (refine ev_boxL rfl hL rfl rfl (by first | exact CellsC.of | exact cells_one (by assumption) (by assumption) | exact cells_agg _ rfl) ?_; clear hL; intro gq wq hL)) | ((with_reducible refine gLoad rfl rfl ?_); (first | (refine ev_load1L rfl hL rfl rfl HasV.mem (by rfl) ?_) | (refine ev_loadAllL rfl hL rfl rfl HasV.mem (by rfl) ?_) | (refine ev_loadL rfl hL rfl rfl HasV.mem SegC.seg ?_))) | ((with_reducible refine gStore rfl rfl ?_); (first | (refine ev_storeC rfl hL rfl rfl rfl (by first | exact CellsC.of | exact cells_one (by assumption) (by assumption) | exact cells_agg _ rfl) (by rfl) ?_) | (refine ev_storeAllC rfl hL rfl rfl rfl (by first | exact CellsC.of | exact cells_one (by assumption) (by assumption) | exact cells_agg _ rfl) (by rfl) (by rfl) ?_)); clear hL; intro wq hL) | ((with_reducible refine gLoadG rfl rfl ?_ ?_); (exact wanted_some rfl rfl rfl (by with_reducible rfl)); (first | (refine ev_load1G (wanted_some rfl rfl rfl rfl) hL rfl rfl HasV.mem (by rfl) ?_) | (refine ev_loadAllG (wanted_some rfl rfl rfl rfl) hL rfl rfl HasV.mem (by rfl) ?_) | (refine ev_loadG_ (wanted_some rfl rfl rfl rfl) hL rfl rfl HasV.mem SegC.seg ?_))))
          go_ret
          exact ⟨rfl, hL.below⟩
end Go.Proofs.YtebpacmhdkgfeaaDoor

/- crannogref10.Same, crannogref22.Same and Sames, of what says the same. -/
namespace Go.Proofs.YtebpacmhdkgfeaaDoor
open Go.RowKit

theorem node_ext {W : World} {e : Ext W} (i j : Ino) (d : InoD) (hi : i.Ok W d) (hj : j.Ok W d) : Calls Tryd.prog 64 #[.agg (Ino.cells i).toArray, .agg (Ino.cells j).toArray] e.w fun en w'' => en = .returned (.bool true) ∧ ∃ x : Ext W, w'' = x.w :=
  calls_ext (same_node i j d _ (hi.below e.ok) (hj.below e.ok))
set_option maxHeartbeats 8000000 in
theorem same_state (s t : Sta) (d : StaD) (w : World) (hs : s.Ok w d) (ht : t.Ok w d) :
    Calls Tryd.prog 52 #[.agg (Sta.cells s).toArray, .agg (Sta.cells t).toArray] w fun e w' => e = .returned (.bool true) ∧ Below w.heap.size w w' := by
  have hL := Loc.nil w NoM
  obtain ⟨ns1, hn1, ho1, hd1⟩ := hs.nodes
  obtain ⟨ns2, hn2, ho2, hd2⟩ := ht.nodes
  have hl1 : ns1.length = d.nodes.length := by rw [← hd1, List.length_map]
  have hl2 : ns2.length = d.nodes.length := by rw [← hd2, List.length_map]
  have hm1 : ns1.length ≤ 9223372036854775807 := R_max hn1
  have hm2 : d.links.length ≤ 9223372036854775807 := R_max hs.links
  have hsame : ∀ k (h1 : k < ns1.length) (h2 : k < ns2.length), ns1[k].d = ns2[k].d := fun k h1 h2 => by
    have e1 : (ns1.map (·.d))[k]? = (ns2.map (·.d))[k]? := by rw [hd1, hd2]
    simpa [h1, h2] using e1
  obtain ⟨a1, c1, e1, hp1⟩ := R_elem hn1
  obtain ⟨a2, c2, e2, hp2⟩ := R_elem hn2
  obtain ⟨b1, f1, e3, hx1⟩ := R_elem hs.links
  obtain ⟨b2, f2, e4, hx2⟩ := R_elem ht.links
  have he1 : s.seen = d.seen := hs.seen
  have he2 : t.seen = d.seen := ht.seen
  obtain ⟨sv, ⟨sa, sn, sc⟩, ⟨sb, sm, sf⟩⟩ := s
  obtain ⟨tv, ⟨ta, tn, tc⟩, ⟨tb, tm, tf⟩⟩ := t
  unfold Sl.val at e1 e2 e3 e4
  injection e1 with i1 i2 i3
  injection e2 with j1 j2 j3
  injection e3 with k1 k2 k3
  injection e4 with l1 l2 l3
  replace he1 : sv = d.seen := he1
  replace he2 : tv = d.seen := he2
  have hll : ns2.length = ns1.length := hl2.trans hl1.symm
  rw [hll] at j2
  subst i1 i2 i3 j1 j2 j3 k1 k2 k3 l1 l2 l3
  have HO1 := Lib.hid ho1
  have HO2 := Lib.hid ho2
  have HS := Lib.hid hsame
  have HLL := Lib.hid hll
  subst he1
  clear hs ht hn1 hn2 ho1 ho2 hd1 hd2 hsame hl1 hl2 hll
  have n1 := vec_ns d.seen
  rw [he2]
  clear he2
  generalize d.seen = v at *
  generalize d.links = ls at *
  replace hp1 : ∀ (i : Nat) (hi : i < ns1.length), ∃ g off, sa = some ⟨g, off, none⟩ ∧ w.rangeAt g (off + i * 13) (Ino.cells ns1[i].s) := hp1
  replace hp2 : ∀ (i : Nat) (hi : i < ns2.length), ∃ g off, ta = some ⟨g, off, none⟩ ∧ w.rangeAt g (off + i * 13) (Ino.cells ns2[i].s) := hp2
  replace hx1 : ∀ (i : Nat) (hi : i < ls.length), ∃ g off, sb = some ⟨g, off, none⟩ ∧ w.rangeAt g (off + i * 25) (Lnk.cells ls[i]) := hx1
  replace hx2 : ∀ (i : Nat) (hi : i < ls.length), ∃ g off, tb = some ⟨g, off, none⟩ ∧ w.rangeAt g (off + i * 25) (Lnk.cells ls[i]) := hx2
  unfold Sta.cells
  go_enter Tryd.func52, Tryd.ntmps52
  go_wp2_with (first | ((with_reducible refine gate (N := 2) rfl ?_); (refine ev_boxL rfl hL rfl rfl (by first | exact CellsC.of | exact cells_one (by assumption) (by assumption) | exact cells_agg _ rfl) ?_; clear hL; intro g2 w2 hL)) | ((with_reducible refine gate (N := 3) rfl ?_); (refine ev_boxL rfl hL rfl rfl (by first | exact CellsC.of | exact cells_one (by assumption) (by assumption) | exact cells_agg _ rfl) ?_; clear hL; intro g3 w3 hL)) | ((with_reducible refine gAlloc rfl rfl ?_); (refine ev_allocL rfl hL rfl (by first | exact CellsC.of | exact cells_one (by assumption) (by assumption) | exact cells_agg _ rfl) ?_; clear hL; intro gq wq hL)) | ((with_reducible refine gBox rfl rfl ?_); (refine ev_boxL rfl hL rfl rfl (by first | exact CellsC.of | exact cells_one (by assumption) (by assumption) | exact cells_agg _ rfl) ?_; clear hL; intro gq wq hL)) | ((with_reducible refine gLoad rfl rfl ?_); (first | (refine ev_load1L rfl hL rfl rfl HasV.mem (by rfl) ?_) | (refine ev_loadAllL rfl hL rfl rfl HasV.mem (by rfl) ?_) | (refine ev_loadL rfl hL rfl rfl HasV.mem SegC.seg ?_))) | ((with_reducible refine gStore rfl rfl ?_); (first | (refine ev_storeC rfl hL rfl rfl rfl (by first | exact CellsC.of | exact cells_one (by assumption) (by assumption) | exact cells_agg _ rfl) (by rfl) ?_) | (refine ev_storeAllC rfl hL rfl rfl rfl (by first | exact CellsC.of | exact cells_one (by assumption) (by assumption) | exact cells_agg _ rfl) (by rfl) (by rfl) ?_)); clear hL; intro wq hL) | ((with_reducible refine gLoadG rfl rfl ?_ ?_); (exact wanted_some rfl rfl rfl (by with_reducible rfl)); (first | (refine ev_load1G (wanted_some rfl rfl rfl rfl) hL rfl rfl HasV.mem (by rfl) ?_) | (refine ev_loadAllG (wanted_some rfl rfl rfl rfl) hL rfl rfl HasV.mem (by rfl) ?_) | (refine ev_loadG_ (wanted_some rfl rfl rfl rfl) hL rfl rfl HasV.mem SegC.seg ?_))))
  clear n1
  go_loopw [33] (fun i wr => ∃ k : Nat, k ≤ ns1.length ∧ i = .int .i64 k ∧ Loc w NoM wr [var g3 [.int .i64 v.a0, .int .i64 v.a1, .int .i64 v.a2, .int .i64 v.a3, .int .i64 v.a4, .int .i64 v.a5, .int .i64 v.a6, .int .i64 v.a7, .slice ta ns1.length tc, .slice tb ls.length tf] 29, var g2 [.int .i64 v.a0, .int .i64 v.a1, .int .i64 v.a2, .int .i64 v.a3, .int .i64 v.a4, .int .i64 v.a5, .int .i64 v.a6, .int .i64 v.a7, .slice sa ns1.length sc, .slice sb ls.length sf] 29]) (fun i _ => ns1.length - (intOf i).toNat)
  case atStart => exact ⟨0, by omega, rfl, hL⟩
  case round =>
    clear hL
    obtain ⟨k, hk, rfl, hL⟩ := hrel
    by_cases hlt : k < ns1.length
    · have hlt2 : k < ns2.length := by have := HLL.out; omega
      obtain ⟨q1, o1, rfl, r1⟩ := hp1 k hlt
      obtain ⟨q2, o2, rfl, r2⟩ := hp2 k hlt2
      have hz1 : World.rangeAt _ q1 (o1 + k * 13) (Ino.cells ns1[k].s) := range_below r1 hL.below
      have hz2 : World.rangeAt _ q2 (o2 + k * 13) (Ino.cells ns2[k].s) := range_below r2 hL.below
      clear r1 r2
      have hk1 := (HO1.out _ (List.getElem_mem hlt)).below hL.below
      have hk2 := (HO2.out _ (List.getElem_mem hlt2)).below hL.below
      rw [← HS.out k hlt hlt2] at hk2
      have HK1 := Lib.hid hk1
      have HK2 := Lib.hid hk2
      clear hk1 hk2
      generalize ns1[k].d = dd at *
      generalize ns1[k].s = x1 at *
      generalize ns2[k].s = x2 at *
      go_wp2_with (first | ((with_reducible refine gAlloc rfl rfl ?_); (refine ev_allocL rfl hL rfl (by first | exact CellsC.of | exact cells_one (by assumption) (by assumption) | exact cells_agg _ rfl) ?_; clear hL; intro gq wq hL)) | ((with_reducible refine gBox rfl rfl ?_); (refine ev_boxL rfl hL rfl rfl (by first | exact CellsC.of | exact cells_one (by assumption) (by assumption) | exact cells_agg _ rfl) ?_; clear hL; intro gq wq hL)) | ((with_reducible refine gLoad rfl rfl ?_); (first | (refine ev_load1L rfl hL rfl rfl HasV.mem (by rfl) ?_) | (refine ev_loadAllL rfl hL rfl rfl HasV.mem (by rfl) ?_) | (refine ev_loadL rfl hL rfl rfl HasV.mem SegC.seg ?_))) | ((with_reducible refine gStore rfl rfl ?_); (first | (refine ev_storeC rfl hL rfl rfl rfl (by first | exact CellsC.of | exact cells_one (by assumption) (by assumption) | exact cells_agg _ rfl) (by rfl) ?_) | (refine ev_storeAllC rfl hL rfl rfl rfl (by first | exact CellsC.of | exact cells_one (by assumption) (by assumption) | exact cells_agg _ rfl) (by rfl) (by rfl) ?_)); clear hL; intro wq hL) | ((with_reducible refine gLoadG rfl rfl ?_ ?_); (exact wanted_some rfl rfl rfl (by with_reducible rfl)); (first | (refine ev_load1G (wanted_some rfl rfl rfl rfl) hL rfl rfl HasV.mem (by rfl) ?_) | (refine ev_loadAllG (wanted_some rfl rfl rfl rfl) hL rfl rfl HasV.mem (by rfl) ?_) | (refine ev_loadG_ (wanted_some rfl rfl rfl rfl) hL rfl rfl HasV.mem SegC.seg ?_))))
      refine wp_region_ext (by kernel_rfl) (by kernel_rfl) ?_
      repeat (first
        | (go_big_quiet_want; (first | refine quiet_load1L hL rfl rfl HasV.mem (by rfl) ?_ | refine quiet_loadAllL hL rfl rfl HasV.mem (by rfl) ?_ | refine quiet_loadL hL rfl rfl HasV.mem SegC.seg ?_); go_big_quiet_on; simp only [Act.put, List.setIfInBounds_toArray, List.set_cons_succ, List.set_cons_zero])
        | (go_big_quiet_want; (first | refine quiet_index rfl rfl rfl hlt ?_ | refine quiet_loadR (cs := Ino.cells x1) rfl rfl (range_below hz1 (Below.refl _ _)) (by rfl) ?_ | refine quiet_loadR (cs := Ino.cells x2) rfl rfl (range_below hz2 (Below.refl _ _)) (by rfl) ?_); go_big_quiet_on; simp only [Act.put, List.setIfInBounds_toArray, List.set_cons_succ, List.set_cons_zero])
        | go_big_quiet_step (first
          | (go_at_call 64; with_reducible exact node_ext x1 x2 dd HK1.out HK2.out)))
      refine wpQuiet_nil ?_
      rintro _ ⟨⟨w2, hb2⟩, rfl⟩
      replace hL := hL.call hb2
      clear hb2
      go_wp2_with (first | ((with_reducible refine gAlloc rfl rfl ?_); (refine ev_allocL rfl hL rfl (by first | exact CellsC.of | exact cells_one (by assumption) (by assumption) | exact cells_agg _ rfl) ?_; clear hL; intro gq wq hL)) | ((with_reducible refine gBox rfl rfl ?_); (refine ev_boxL rfl hL rfl rfl (by first | exact CellsC.of | exact cells_one (by assumption) (by assumption) | exact cells_agg _ rfl) ?_; clear hL; intro gq wq hL)) | ((with_reducible refine gLoad rfl rfl ?_); (first | (refine ev_load1L rfl hL rfl rfl HasV.mem (by rfl) ?_) | (refine ev_loadAllL rfl hL rfl rfl HasV.mem (by rfl) ?_) | (refine ev_loadL rfl hL rfl rfl HasV.mem SegC.seg ?_))) | ((with_reducible refine gStore rfl rfl ?_); (first | (refine ev_storeC rfl hL rfl rfl rfl (by first | exact CellsC.of | exact cells_one (by assumption) (by assumption) | exact cells_agg _ rfl) (by rfl) ?_) | (refine ev_storeAllC rfl hL rfl rfl rfl (by first | exact CellsC.of | exact cells_one (by assumption) (by assumption) | exact cells_agg _ rfl) (by rfl) (by rfl) ?_)); clear hL; intro wq hL) | ((with_reducible refine gLoadG rfl rfl ?_ ?_); (exact wanted_some rfl rfl rfl (by with_reducible rfl)); (first | (refine ev_load1G (wanted_some rfl rfl rfl rfl) hL rfl rfl HasV.mem (by rfl) ?_) | (refine ev_loadAllG (wanted_some rfl rfl rfl rfl) hL rfl rfl HasV.mem (by rfl) ?_) | (refine ev_loadG_ (wanted_some rfl rfl rfl rfl) hL rfl rfl HasV.mem SegC.seg ?_))))
      go_roundw
      case rel => exact ⟨k + 1, by omega, by go_num, hL⟩
      case measure => simp [intOf]; omega
    · obtain rfl : k = ns1.length := by omega
      go_wp2_with (first | ((with_reducible refine gAlloc rfl rfl ?_); (refine ev_allocL rfl hL rfl (by first | exact CellsC.of | exact cells_one (by assumption) (by assumption) | exact cells_agg _ rfl) ?_; clear hL; intro gq wq hL)) | ((with_reducible refine gBox rfl rfl ?_); (refine ev_boxL rfl hL rfl rfl (by first | exact CellsC.of | exact cells_one (by assumption) (by assumption) | exact cells_agg _ rfl) ?_; clear hL; intro gq wq hL)) | ((with_reducible refine gLoad rfl rfl ?_); (first | (refine ev_load1L rfl hL rfl rfl HasV.mem (by rfl) ?_) | (refine ev_loadAllL rfl hL rfl rfl HasV.mem (by rfl) ?_) | (refine ev_loadL rfl hL rfl rfl HasV.mem SegC.seg ?_))) | ((with_reducible refine gStore rfl rfl ?_); (first | (refine ev_storeC rfl hL rfl rfl rfl (by first | exact CellsC.of | exact cells_one (by assumption) (by assumption) | exact cells_agg _ rfl) (by rfl) ?_) | (refine ev_storeAllC rfl hL rfl rfl rfl (by first | exact CellsC.of | exact cells_one (by assumption) (by assumption) | exact cells_agg _ rfl) (by rfl) (by rfl) ?_)); clear hL; intro wq hL) | ((with_reducible refine gLoadG rfl rfl ?_ ?_); (exact wanted_some rfl rfl rfl (by with_reducible rfl)); (first | (refine ev_load1G (wanted_some rfl rfl rfl rfl) hL rfl rfl HasV.mem (by rfl) ?_) | (refine ev_loadAllG (wanted_some rfl rfl rfl rfl) hL rfl rfl HasV.mem (by rfl) ?_) | (refine ev_loadG_ (wanted_some rfl rfl rfl rfl) hL rfl rfl HasV.mem SegC.seg ?_))))
      go_loopw [52] (fun i wr => ∃ k : Nat, k ≤ ls.length ∧ i = .int .i64 k ∧ Loc w NoM wr [var g3 [.int .i64 v.a0, .int .i64 v.a1, .int .i64 v.a2, .int .i64 v.a3, .int .i64 v.a4, .int .i64 v.a5, .int .i64 v.a6, .int .i64 v.a7, .slice ta ns1.length tc, .slice tb ls.length tf] 29, var g2 [.int .i64 v.a0, .int .i64 v.a1, .int .i64 v.a2, .int .i64 v.a3, .int .i64 v.a4, .int .i64 v.a5, .int .i64 v.a6, .int .i64 v.a7, .slice sa ns1.length sc, .slice sb ls.length sf] 29]) (fun i _ => ls.length - (intOf i).toNat)
      case atStart => exact ⟨0, by omega, rfl, hL⟩
      case round =>
        clear hL
        obtain ⟨k, hk, rfl, hL⟩ := hrel
        by_cases hlt : k < ls.length
        · obtain ⟨q1, o1, rfl, r1⟩ := hx1 k hlt
          obtain ⟨q2, o2, rfl, r2⟩ := hx2 k hlt
          have hz1 : World.rangeAt _ q1 (o1 + k * 25) (Lnk.cells ls[k]) := range_below r1 hL.below
          have hz2 : World.rangeAt _ q2 (o2 + k * 25) (Lnk.cells ls[k]) := range_below r2 hL.below
          clear r1 r2
          have hne := link_ns ls[k]
          generalize ls[k] = q at *
          go_wp2_with (first | ((with_reducible refine gAlloc rfl rfl ?_); (refine ev_allocL rfl hL rfl (by first | exact CellsC.of | exact cells_one (by assumption) (by assumption) | exact cells_agg _ rfl) ?_; clear hL; intro gq wq hL)) | ((with_reducible refine gBox rfl rfl ?_); (refine ev_boxL rfl hL rfl rfl (by first | exact CellsC.of | exact cells_one (by assumption) (by assumption) | exact cells_agg _ rfl) ?_; clear hL; intro gq wq hL)) | ((with_reducible refine gLoad rfl rfl ?_); (first | (refine ev_load1L rfl hL rfl rfl HasV.mem (by rfl) ?_) | (refine ev_loadAllL rfl hL rfl rfl HasV.mem (by rfl) ?_) | (refine ev_loadL rfl hL rfl rfl HasV.mem SegC.seg ?_))) | ((with_reducible refine gStore rfl rfl ?_); (first | (refine ev_storeC rfl hL rfl rfl rfl (by first | exact CellsC.of | exact cells_one (by assumption) (by assumption) | exact cells_agg _ rfl) (by rfl) ?_) | (refine ev_storeAllC rfl hL rfl rfl rfl (by first | exact CellsC.of | exact cells_one (by assumption) (by assumption) | exact cells_agg _ rfl) (by rfl) (by rfl) ?_)); clear hL; intro wq hL) | ((with_reducible refine gLoadG rfl rfl ?_ ?_); (exact wanted_some rfl rfl rfl (by with_reducible rfl)); (first | (refine ev_load1G (wanted_some rfl rfl rfl rfl) hL rfl rfl HasV.mem (by rfl) ?_) | (refine ev_loadAllG (wanted_some rfl rfl rfl rfl) hL rfl rfl HasV.mem (by rfl) ?_) | (refine ev_loadG_ (wanted_some rfl rfl rfl rfl) hL rfl rfl HasV.mem SegC.seg ?_))))
          refine wp_region_ext (by kernel_rfl) (by kernel_rfl) ?_
          repeat (first
            | (go_big_quiet_want; (first | refine quiet_load1L hL rfl rfl HasV.mem (by rfl) ?_ | refine quiet_loadAllL hL rfl rfl HasV.mem (by rfl) ?_ | refine quiet_loadL hL rfl rfl HasV.mem SegC.seg ?_); go_big_quiet_on; simp only [Act.put, List.setIfInBounds_toArray, List.set_cons_succ, List.set_cons_zero])
            | (go_big_quiet_want; (first | refine quiet_index rfl rfl rfl hlt ?_ | refine quiet_loadR (cs := Lnk.cells q) rfl rfl (range_below hz1 (Below.refl _ _)) (by rfl) ?_ | refine quiet_loadR (cs := Lnk.cells q) rfl rfl (range_below hz2 (Below.refl _ _)) (by rfl) ?_); go_big_quiet_on; simp only [Act.put, List.setIfInBounds_toArray, List.set_cons_succ, List.set_cons_zero])
            | go_big_quiet_step (fail))
          refine wpQuiet_nil ?_
          rintro _ ⟨⟨w2, hb2⟩, rfl⟩
          replace hL := hL.call hb2
          clear hb2
          go_wp2_with (first | ((with_reducible refine gAlloc rfl rfl ?_); (refine ev_allocL rfl hL rfl (by first | exact CellsC.of | exact cells_one (by assumption) (by assumption) | exact cells_agg _ rfl) ?_; clear hL; intro gq wq hL)) | ((with_reducible refine gBox rfl rfl ?_); (refine ev_boxL rfl hL rfl rfl (by first | exact CellsC.of | exact cells_one (by assumption) (by assumption) | exact cells_agg _ rfl) ?_; clear hL; intro gq wq hL)) | ((with_reducible refine gLoad rfl rfl ?_); (first | (refine ev_load1L rfl hL rfl rfl HasV.mem (by rfl) ?_) | (refine ev_loadAllL rfl hL rfl rfl HasV.mem (by rfl) ?_) | (refine ev_loadL rfl hL rfl rfl HasV.mem SegC.seg ?_))) | ((with_reducible refine gStore rfl rfl ?_); (first | (refine ev_storeC rfl hL rfl rfl rfl (by first | exact CellsC.of | exact cells_one (by assumption) (by assumption) | exact cells_agg _ rfl) (by rfl) ?_) | (refine ev_storeAllC rfl hL rfl rfl rfl (by first | exact CellsC.of | exact cells_one (by assumption) (by assumption) | exact cells_agg _ rfl) (by rfl) (by rfl) ?_)); clear hL; intro wq hL) | ((with_reducible refine gLoadG rfl rfl ?_ ?_); (exact wanted_some rfl rfl rfl (by with_reducible rfl)); (first | (refine ev_load1G (wanted_some rfl rfl rfl rfl) hL rfl rfl HasV.mem (by rfl) ?_) | (refine ev_loadAllG (wanted_some rfl rfl rfl rfl) hL rfl rfl HasV.mem (by rfl) ?_) | (refine ev_loadG_ (wanted_some rfl rfl rfl rfl) hL rfl rfl HasV.mem SegC.seg ?_))))
          go_roundw
          case rel => exact ⟨k + 1, by omega, by go_num, hL⟩
          case measure => simp [intOf]; omega
        · obtain rfl : k = ls.length := by omega
          go_wp2_with (first | ((with_reducible refine gAlloc rfl rfl ?_); (refine ev_allocL rfl hL rfl (by first | exact CellsC.of | exact cells_one (by assumption) (by assumption) | exact cells_agg _ rfl) ?_; clear hL; intro gq wq hL)) | ((with_reducible refine gBox rfl rfl ?_); (refine ev_boxL rfl hL rfl rfl (by first | exact CellsC.of | exact cells_one (by assumption) (by assumption) | exact cells_agg _ rfl) ?_; clear hL; intro gq wq hL)) | ((with_reducible refine gLoad rfl rfl ?_); (first | (refine ev_load1L rfl hL rfl rfl HasV.mem (by rfl) ?_) | (refine ev_loadAllL rfl hL rfl rfl HasV.mem (by rfl) ?_) | (refine ev_loadL rfl hL rfl rfl HasV.mem SegC.seg ?_))) | ((with_reducible refine gStore rfl rfl ?_); (first | (refine ev_storeC rfl hL rfl rfl rfl (by first | exact CellsC.of | exact cells_one (by assumption) (by assumption) | exact cells_agg _ rfl) (by rfl) ?_) | (refine ev_storeAllC rfl hL rfl rfl rfl (by first | exact CellsC.of | exact cells_one (by assumption) (by assumption) | exact cells_agg _ rfl) (by rfl) (by rfl) ?_)); clear hL; intro wq hL) | ((with_reducible refine gLoadG rfl rfl ?_ ?_); (exact wanted_some rfl rfl rfl (by with_reducible rfl)); (first | (refine ev_load1G (wanted_some rfl rfl rfl rfl) hL rfl rfl HasV.mem (by rfl) ?_) | (refine ev_loadAllG (wanted_some rfl rfl rfl rfl) hL rfl rfl HasV.mem (by rfl) ?_) | (refine ev_loadG_ (wanted_some rfl rfl rfl rfl) hL rfl rfl HasV.mem SegC.seg ?_))))
          go_ret
          exact ⟨rfl, hL.below⟩
end Go.Proofs.YtebpacmhdkgfeaaDoor

/- crannogref22.Same and Sames, of the same events. -/
namespace Go.Proofs.YtebpacmhdkgfeaaDoor
open Go.RowKit
set_option maxHeartbeats 4000000

theorem same_event (e : Evt) (d : StaD) (w : World) (hO : e.sta.Ok w d) :
    Calls Tryd.prog 35 #[.agg (Evt.cells e).toArray, .agg (Evt.cells e).toArray] w fun en w' => en = .returned (.bool true) ∧ Below w.heap.size w w' := by
  have hL := Loc.nil w NoM
  have n1 := stamp_eq e.at_ e.at_
  rw [decide_eq_true rfl] at n1
  have n2 := vec_es e.knew
  have HO := Lib.hid hO
  clear hO
  have callS : ∀ wx, Below w.heap.size w wx → Hid (Calls Tryd.prog 52 #[.agg (Sta.cells e.sta).toArray, .agg (Sta.cells e.sta).toArray] wx fun e w' => e = .returned (.bool true) ∧ Below wx.heap.size wx w') := fun wx hb => Lib.hid (same_state _ _ d wx (HO.out.below hb) (HO.out.below hb))
  unfold Sta.cells Evt.sta at callS
  unfold Evt.cells
  go_enter Tryd.func35, Tryd.ntmps35
  go_wp2_with (first
    | (go_at_call 52; have hq := (callS _ hL.below).out; (with_reducible refine hq.mono ?_); rintro en w3 ⟨rfl, hb3⟩; have hL := hL.call hb3; clear hb3 hq)
    | ((with_reducible refine gate (N := 2) rfl ?_); (refine ev_boxL rfl hL rfl rfl (by first | exact CellsC.of | exact cells_one (by assumption) (by assumption) | exact cells_agg _ rfl) ?_; clear hL; intro g2 w2 hL)) | ((with_reducible refine gate (N := 3) rfl ?_); (refine ev_boxL rfl hL rfl rfl (by first | exact CellsC.of | exact cells_one (by assumption) (by assumption) | exact cells_agg _ rfl) ?_; clear hL; intro g3 w3 hL)) | ((with_reducible refine gAlloc rfl rfl ?_); (refine ev_allocL rfl hL rfl (by first | exact CellsC.of | exact cells_one (by assumption) (by assumption) | exact cells_agg _ rfl) ?_; clear hL; intro gq wq hL)) | ((with_reducible refine gBox rfl rfl ?_); (refine ev_boxL rfl hL rfl rfl (by first | exact CellsC.of | exact cells_one (by assumption) (by assumption) | exact cells_agg _ rfl) ?_; clear hL; intro gq wq hL)) | ((with_reducible refine gLoad rfl rfl ?_); (first | (refine ev_load1L rfl hL rfl rfl HasV.mem (by rfl) ?_) | (refine ev_loadAllL rfl hL rfl rfl HasV.mem (by rfl) ?_) | (refine ev_loadL rfl hL rfl rfl HasV.mem SegC.seg ?_))) | ((with_reducible refine gStore rfl rfl ?_); (first | (refine ev_storeC rfl hL rfl rfl rfl (by first | exact CellsC.of | exact cells_one (by assumption) (by assumption) | exact cells_agg _ rfl) (by rfl) ?_) | (refine ev_storeAllC rfl hL rfl rfl rfl (by first | exact CellsC.of | exact cells_one (by assumption) (by assumption) | exact cells_agg _ rfl) (by rfl) (by rfl) ?_)); clear hL; intro wq hL) | ((with_reducible refine gLoadG rfl rfl ?_ ?_); (exact wanted_some rfl rfl rfl (by with_reducible rfl)); (first | (refine ev_load1G (wanted_some rfl rfl rfl rfl) hL rfl rfl HasV.mem (by rfl) ?_) | (refine ev_loadAllG (wanted_some rfl rfl rfl rfl) hL rfl rfl HasV.mem (by rfl) ?_) | (refine ev_loadG_ (wanted_some rfl rfl rfl rfl) hL rfl rfl HasV.mem SegC.seg ?_))))
  go_ret
  exact ⟨rfl, hL.below⟩
theorem event_ext {W : World} {x : Ext W} (e : Evt) (d : StaD) (hO : e.sta.Ok W d) : Calls Tryd.prog 35 #[.agg (Evt.cells e).toArray, .agg (Evt.cells e).toArray] x.w fun en w'' => en = .returned (.bool true) ∧ ∃ y : Ext W, w'' = y.w :=
  calls_ext (same_event e d _ (hO.below x.ok))
theorem same_events (v1 v2 : Value) (ps : List Ep) (w : World) (h1 : encEp.R w v1 ps) (h2 : encEp.R w v2 ps) (hO : ∀ p ∈ ps, p.e.sta.Ok w p.d) :
    Calls Tryd.prog 12 #[v1, v2] w fun e w' => e = .returned (.bool true) ∧ Below w.heap.size w w' := by
  have hL := Loc.nil w NoM
  have hm := R_max h1
  obtain ⟨a1, c1, rfl, hp1⟩ := R_elem h1
  obtain ⟨a2, c2, rfl, hp2⟩ := R_elem h2
  have HO := Lib.hid hO
  clear hO h1 h2
  go_enter Tryd.func12, Tryd.ntmps12
  go_wp2_with (first | ((with_reducible refine gAlloc rfl rfl ?_); (refine ev_allocL rfl hL rfl (by first | exact CellsC.of | exact cells_one (by assumption) (by assumption) | exact cells_agg _ rfl) ?_; clear hL; intro gq wq hL)) | ((with_reducible refine gBox rfl rfl ?_); (refine ev_boxL rfl hL rfl rfl (by first | exact CellsC.of | exact cells_one (by assumption) (by assumption) | exact cells_agg _ rfl) ?_; clear hL; intro gq wq hL)) | ((with_reducible refine gLoad rfl rfl ?_); (first | (refine ev_load1L rfl hL rfl rfl HasV.mem (by rfl) ?_) | (refine ev_loadAllL rfl hL rfl rfl HasV.mem (by rfl) ?_) | (refine ev_loadL rfl hL rfl rfl HasV.mem SegC.seg ?_))) | ((with_reducible refine gStore rfl rfl ?_); (first | (refine ev_storeC rfl hL rfl rfl rfl (by first | exact CellsC.of | exact cells_one (by assumption) (by assumption) | exact cells_agg _ rfl) (by rfl) ?_) | (refine ev_storeAllC rfl hL rfl rfl rfl (by first | exact CellsC.of | exact cells_one (by assumption) (by assumption) | exact cells_agg _ rfl) (by rfl) (by rfl) ?_)); clear hL; intro wq hL) | ((with_reducible refine gLoadG rfl rfl ?_ ?_); (exact wanted_some rfl rfl rfl (by with_reducible rfl)); (first | (refine ev_load1G (wanted_some rfl rfl rfl rfl) hL rfl rfl HasV.mem (by rfl) ?_) | (refine ev_loadAllG (wanted_some rfl rfl rfl rfl) hL rfl rfl HasV.mem (by rfl) ?_) | (refine ev_loadG_ (wanted_some rfl rfl rfl rfl) hL rfl rfl HasV.mem SegC.seg ?_))))
  go_loopw [13] (fun i wr => ∃ k : Nat, k ≤ ps.length ∧ i = .int .i64 k ∧ Loc w NoM wr []) (fun i _ => ps.length - (intOf i).toNat)
  case atStart => exact ⟨0, by omega, rfl, hL⟩
  case round =>
    clear hL
    obtain ⟨k, hk, rfl, hL⟩ := hrel
    by_cases hlt : k < ps.length
    · obtain ⟨q1, o1, rfl, r1⟩ := hp1 k hlt
      obtain ⟨q2, o2, rfl, r2⟩ := hp2 k hlt
      have hz1 : World.rangeAt _ q1 (o1 + k * 21) (Evt.cells ps[k].e) := range_below r1 hL.below
      have hz2 : World.rangeAt _ q2 (o2 + k * 21) (Evt.cells ps[k].e) := range_below r2 hL.below
      clear r1 r2
      have HK := Lib.hid ((HO.out _ (List.getElem_mem hlt)).below hL.below)
      generalize ps[k] = q at *
      go_wp2_with (first | ((with_reducible refine gAlloc rfl rfl ?_); (refine ev_allocL rfl hL rfl (by first | exact CellsC.of | exact cells_one (by assumption) (by assumption) | exact cells_agg _ rfl) ?_; clear hL; intro gq wq hL)) | ((with_reducible refine gBox rfl rfl ?_); (refine ev_boxL rfl hL rfl rfl (by first | exact CellsC.of | exact cells_one (by assumption) (by assumption) | exact cells_agg _ rfl) ?_; clear hL; intro gq wq hL)) | ((with_reducible refine gLoad rfl rfl ?_); (first | (refine ev_load1L rfl hL rfl rfl HasV.mem (by rfl) ?_) | (refine ev_loadAllL rfl hL rfl rfl HasV.mem (by rfl) ?_) | (refine ev_loadL rfl hL rfl rfl HasV.mem SegC.seg ?_))) | ((with_reducible refine gStore rfl rfl ?_); (first | (refine ev_storeC rfl hL rfl rfl rfl (by first | exact CellsC.of | exact cells_one (by assumption) (by assumption) | exact cells_agg _ rfl) (by rfl) ?_) | (refine ev_storeAllC rfl hL rfl rfl rfl (by first | exact CellsC.of | exact cells_one (by assumption) (by assumption) | exact cells_agg _ rfl) (by rfl) (by rfl) ?_)); clear hL; intro wq hL) | ((with_reducible refine gLoadG rfl rfl ?_ ?_); (exact wanted_some rfl rfl rfl (by with_reducible rfl)); (first | (refine ev_load1G (wanted_some rfl rfl rfl rfl) hL rfl rfl HasV.mem (by rfl) ?_) | (refine ev_loadAllG (wanted_some rfl rfl rfl rfl) hL rfl rfl HasV.mem (by rfl) ?_) | (refine ev_loadG_ (wanted_some rfl rfl rfl rfl) hL rfl rfl HasV.mem SegC.seg ?_))))
      refine wp_region_ext (by kernel_rfl) (by kernel_rfl) ?_
      repeat (first
        | (go_big_quiet_want; (first | refine quiet_load1L hL rfl rfl HasV.mem (by rfl) ?_ | refine quiet_loadAllL hL rfl rfl HasV.mem (by rfl) ?_ | refine quiet_loadL hL rfl rfl HasV.mem SegC.seg ?_); go_big_quiet_on; simp only [Act.put, List.setIfInBounds_toArray, List.set_cons_succ, List.set_cons_zero])
        | (go_big_quiet_want; (first | refine quiet_index rfl rfl rfl hlt ?_ | refine quiet_loadR (cs := Evt.cells q.e) rfl rfl (range_below hz1 (Below.refl _ _)) (by rfl) ?_ | refine quiet_loadR (cs := Evt.cells q.e) rfl rfl (range_below hz2 (Below.refl _ _)) (by rfl) ?_); go_big_quiet_on; simp only [Act.put, List.setIfInBounds_toArray, List.set_cons_succ, List.set_cons_zero])
        | go_big_quiet_step (first
          | (go_at_call 35; with_reducible exact event_ext q.e q.d HK.out)))
      refine wpQuiet_nil ?_
      rintro _ ⟨⟨w2, hb2⟩, rfl⟩
      replace hL := hL.call hb2
      clear hb2
      go_wp2_with (first | ((with_reducible refine gAlloc rfl rfl ?_); (refine ev_allocL rfl hL rfl (by first | exact CellsC.of | exact cells_one (by assumption) (by assumption) | exact cells_agg _ rfl) ?_; clear hL; intro gq wq hL)) | ((with_reducible refine gBox rfl rfl ?_); (refine ev_boxL rfl hL rfl rfl (by first | exact CellsC.of | exact cells_one (by assumption) (by assumption) | exact cells_agg _ rfl) ?_; clear hL; intro gq wq hL)) | ((with_reducible refine gLoad rfl rfl ?_); (first | (refine ev_load1L rfl hL rfl rfl HasV.mem (by rfl) ?_) | (refine ev_loadAllL rfl hL rfl rfl HasV.mem (by rfl) ?_) | (refine ev_loadL rfl hL rfl rfl HasV.mem SegC.seg ?_))) | ((with_reducible refine gStore rfl rfl ?_); (first | (refine ev_storeC rfl hL rfl rfl rfl (by first | exact CellsC.of | exact cells_one (by assumption) (by assumption) | exact cells_agg _ rfl) (by rfl) ?_) | (refine ev_storeAllC rfl hL rfl rfl rfl (by first | exact CellsC.of | exact cells_one (by assumption) (by assumption) | exact cells_agg _ rfl) (by rfl) (by rfl) ?_)); clear hL; intro wq hL) | ((with_reducible refine gLoadG rfl rfl ?_ ?_); (exact wanted_some rfl rfl rfl (by with_reducible rfl)); (first | (refine ev_load1G (wanted_some rfl rfl rfl rfl) hL rfl rfl HasV.mem (by rfl) ?_) | (refine ev_loadAllG (wanted_some rfl rfl rfl rfl) hL rfl rfl HasV.mem (by rfl) ?_) | (refine ev_loadG_ (wanted_some rfl rfl rfl rfl) hL rfl rfl HasV.mem SegC.seg ?_))))
      go_roundw
      case rel => exact ⟨k + 1, by omega, by go_num, hL⟩
      case measure => simp [intOf]; omega
    · obtain rfl : k = ps.length := by omega
      go_wp2_with (first | ((with_reducible refine gAlloc rfl rfl ?_); (refine ev_allocL rfl hL rfl (by first | exact CellsC.of | exact cells_one (by assumption) (by assumption) | exact cells_agg _ rfl) ?_; clear hL; intro gq wq hL)) | ((with_reducible refine gBox rfl rfl ?_); (refine ev_boxL rfl hL rfl rfl (by first | exact CellsC.of | exact cells_one (by assumption) (by assumption) | exact cells_agg _ rfl) ?_; clear hL; intro gq wq hL)) | ((with_reducible refine gLoad rfl rfl ?_); (first | (refine ev_load1L rfl hL rfl rfl HasV.mem (by rfl) ?_) | (refine ev_loadAllL rfl hL rfl rfl HasV.mem (by rfl) ?_) | (refine ev_loadL rfl hL rfl rfl HasV.mem SegC.seg ?_))) | ((with_reducible refine gStore rfl rfl ?_); (first | (refine ev_storeC rfl hL rfl rfl rfl (by first | exact CellsC.of | exact cells_one (by assumption) (by assumption) | exact cells_agg _ rfl) (by rfl) ?_) | (refine ev_storeAllC rfl hL rfl rfl rfl (by first | exact CellsC.of | exact cells_one (by assumption) (by assumption) | exact cells_agg _ rfl) (by rfl) (by rfl) ?_)); clear hL; intro wq hL) | ((with_reducible refine gLoadG rfl rfl ?_ ?_); (exact wanted_some rfl rfl rfl (by with_reducible rfl)); (first | (refine ev_load1G (wanted_some rfl rfl rfl rfl) hL rfl rfl HasV.mem (by rfl) ?_) | (refine ev_loadAllG (wanted_some rfl rfl rfl rfl) hL rfl rfl HasV.mem (by rfl) ?_) | (refine ev_loadG_ (wanted_some rfl rfl rfl rfl) hL rfl rfl HasV.mem SegC.seg ?_))))
      go_ret
      exact ⟨rfl, hL.below⟩
end Go.Proofs.YtebpacmhdkgfeaaDoor
