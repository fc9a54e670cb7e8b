/- Texts laid together: Stab4, RowEv, SortEv1, SortEv2, SortEv3, SortEv4, SortEv5. -/
import Derived.Test.YtebpacmhdkgfeaaDoorMo3
import Derived.Shelf.Abstract
/- A list cut into blocks of k, each sorted within itself. -/
namespace Go.Proofs.YtebpacmhdkgfeaaDoor.Stab
variable {α : Type} {lt : α → α → Bool} {k : Nat}
theorem Of.join {A A' B B' L : List α} (h1 : Of lt A A') (h2 : Of lt B B') (h3 : Of lt (A' ++ B') L) : Of lt (A ++ B) L :=
  ⟨h3.sorted, h3.perm.trans (h1.perm.append h2.perm), fun z => by rw [h3.cls, List.filter_append, List.filter_append, h1.cls, h2.cls]⟩
inductive Ch (lt : α → α → Bool) (k : Nat) : List α → List α → Prop
  | last {l l' : List α} : l.length ≤ k → Of lt l l' → Ch lt k l l'
  | cons {l l' r r' : List α} : l.length = k → Of lt l l' → Ch lt k r r' → Ch lt k (l ++ r) (l' ++ r')
inductive Full (lt : α → α → Bool) (k : Nat) : List α → List α → Prop
  | nil : Full lt k [] []
  | snoc {d d' l l' : List α} : Full lt k d d' → l.length = k → Of lt l l' → Full lt k (d ++ l) (d' ++ l')
theorem Full.then {d d' : List α} (h : Full lt k d d') : ∀ {r r' : List α}, Ch lt k r r' → Ch lt k (d ++ r) (d' ++ r') := by
  induction h with
  | nil => exact fun h => h
  | snoc h1 h2 h3 ih =>
    intro r r' h
    rw [List.append_assoc, List.append_assoc]
    exact ih (.cons h2 h3 h)
theorem Full.finish {d d' l l' : List α} (h : Full lt k d d') (h1 : l.length ≤ k) (h2 : Of lt l l') : Ch lt k (d ++ l) (d' ++ l') := h.then (.last h1 h2)
theorem Full.len {d d' : List α} (h : Full lt k d d') : d'.length = d.length := by
  induction h with
  | nil => rfl
  | snoc h1 h2 h3 ih => rw [List.length_append, List.length_append, ih, h3.perm.length_eq]
theorem Ch.len {d d' : List α} (h : Ch lt k d d') : d'.length = d.length := by
  induction h with
  | last h1 h2 => exact h2.perm.length_eq
  | cons h1 h2 h3 ih => rw [List.length_append, List.length_append, ih, h2.perm.length_eq]
theorem Ch.one {t t' : List α} (h : Ch lt k t t') (hk : t.length ≤ k) : Of lt t t' := by
  cases h with
  | last h1 h2 => exact h2
  | cons h1 h2 h3 =>
    rename_i l l' r r'
    have hr : r = [] := List.eq_nil_of_length_eq_zero (by rw [List.length_append] at hk; omega)
    have hl := h3.len
    rw [hr] at hl
    have hr' : r' = [] := List.eq_nil_of_length_eq_zero (by rw [hl]; rfl)
    rw [hr, hr', List.append_nil, List.append_nil]
    exact h2
theorem Ch.first {t t' : List α} (h : Ch lt k t t') (hk : k ≤ t.length) : ∃ l l' r r', t = l ++ r ∧ t' = l' ++ r' ∧ l.length = k ∧ Of lt l l' ∧ (Ch lt k r r') := by
  cases h with
  | last h1 h2 => exact ⟨t, t', [], [], by simp, by simp, by omega, h2, .last (by simp) ⟨.nil, .refl _, fun _ => rfl⟩⟩
  | cons h1 h2 h3 => exact ⟨_, _, _, _, rfl, rfl, h1, h2, h3⟩
theorem Ch.two {t t' : List α} (h : Ch lt k t t') (hk : k + k ≤ t.length) : ∃ A B r A' B' r', t = A ++ B ++ r ∧ t' = A' ++ B' ++ r' ∧ A'.length = k ∧ B'.length = k ∧ A.length = k ∧ B.length = k ∧ Sorted lt A' ∧ Sorted lt B' ∧ (∀ L, Of lt (A' ++ B') L → Of lt (A ++ B) L) ∧ Ch lt k r r' := by
  obtain ⟨A, A', q, q', rfl, rfl, h1, h2, h3⟩ := h.first (by omega)
  rw [List.length_append] at hk
  obtain ⟨B, B', r, r', rfl, rfl, h4, h5, h6⟩ := h3.first (by omega)
  exact ⟨A, B, r, A', B', r', by simp, by simp, by rw [h2.perm.length_eq, h1], by rw [h5.perm.length_eq, h4], h1, h4, h2.sorted, h5.sorted, fun L h => h2.join h5 h, h6⟩
theorem Ch.rest {t t' : List α} (h : Ch lt k t t') (hk : k ≤ t.length) (hk2 : t.length ≤ k + k) : ∃ A B A' B', t = A ++ B ∧ t' = A' ++ B' ∧ A'.length = k ∧ A.length = k ∧ B'.length = B.length ∧ Sorted lt A' ∧ Sorted lt B' ∧ (∀ L, Of lt (A' ++ B') L → Of lt (A ++ B) L) := by
  obtain ⟨A, A', q, q', rfl, rfl, h1, h2, h3⟩ := h.first (by omega)
  rw [List.length_append] at hk hk2
  have h4 := h3.one (by omega)
  exact ⟨A, q, A', q', rfl, rfl, by rw [h2.perm.length_eq, h1], h1, h3.len, h2.sorted, h4.sorted, fun L h => h2.join h4 h⟩
end Go.Proofs.YtebpacmhdkgfeaaDoor.Stab

/- Events on the elements of a row: addresses, loads, exchanges. Over any program. -/
namespace Go.Proofs.YtebpacmhdkgfeaaDoor
open Go.RowKit

section
variable {P : Program} {ops : Array Oper} {rest : List Oper} {o : Oper} {a : Act} {Q : Exit → Act → World → Prop} {Qs : Act → Prop} {K : Act → Prop} {C : World → Prop} {W w0 : World} {M : Nat → Prop} {l l' : List Item}
variable {α : Type} {E : Enc α} {T te : TypeId}
theorem run_indexRow {x ix : Operand} {g n c i : Nat} {k : IntKind} [ht : SliceT P te T] [hsz : SizeT P T E.sz] (ho : o.op = .indexAddr te x ix) (hx : a.eval x = .slice (some ⟨g, 0, none⟩) n c) (hix : a.eval ix = .int k i) (hi : i < n) (w : World) :
    (execOp a.eval o).run P w = .ok (.value (.pointer (some ⟨g, i * E.sz, none⟩))) w := by
  have := run_index (P := P) (e := T) (sz := E.sz) ho hx hix hi w
  rwa [Nat.zero_add] at this
theorem quiet_indexRow (E : Enc α) {x ix : Operand} {g n c i : Nat} {k : IntKind} [ht : SliceT P te T] [hsz : SizeT P T E.sz] (ho : o.op = .indexAddr te x ix) (hx : a.eval x = .slice (some ⟨g, 0, none⟩) n c) (hix : a.eval ix = .int k i) (hi : i < n)
    (h : K (a.put o.dst (.pointer (some ⟨g, i * E.sz, none⟩)))) : o.quiet P a C K := by
  refine ⟨_, fun w hw => ?_, h⟩
  unfold Oper.quietAt
  rw [run_indexRow (E := E) ho hx hix hi w]
  exact ⟨rfl, rfl⟩
theorem row_range {w : World} {base g n c i : Nat} {te : TypeId} {xs : List α} {y : α} (h : E.O w base te (.slice (some ⟨g, 0, none⟩) n c) xs) (hy : xs[i]? = some y) : w.rangeAt g (i * E.sz) (E.cells y) := by
  obtain ⟨hi, rfl⟩ := List.getElem?_eq_some_iff.1 hy
  obtain ⟨ao, c', e1, hel⟩ := R_elem h.read
  obtain ⟨g', off, e2, hr⟩ := hel i hi
  injection e1 with e1 _ _
  rw [e2] at e1
  injection e1 with e1
  injection e1 with e3 e4
  subst e3 e4
  rwa [Nat.zero_add] at hr
theorem run_loadRow {x : Operand} {base g n c i : Nat} {te' : TypeId} {xs : List α} {y : α} [ha : AggT P T] [hn : SizeT P T E.sz] (hO : E.O W base te' (.slice (some ⟨g, 0, none⟩) n c) xs) (ho : o.op = .load T x) (hx : a.eval x = .pointer (some ⟨g, i * E.sz, none⟩)) (hy : xs[i]? = some y) :
    (execOp a.eval o).run P W = .ok (.value (.agg (E.cells y).toArray)) W := by
  obtain ⟨d, hu, hd⟩ := isRow_of ha.agg
  unfold execOp
  simp only [ho, hx, Instr.loadAt, Instr.sureAddr, Sem.run_bind, Sem.run_pure, Result.andThen_ok, run_loadVar_mid W g (i * E.sz) T (E.cells y) d (row_range hO hy) hu hd (by rw [E.len]; exact hn.size)]
theorem quiet_loadRow {x : Operand} {base g n c i : Nat} {te' : TypeId} {xs : List α} {y : α} [ha : AggT P T] [hn : SizeT P T E.sz] (hL : Loc w0 M W l) (hm : row E base te' (.slice (some ⟨g, 0, none⟩) n c) xs ∈ l) (ho : o.op = .load T x) (hx : a.eval x = .pointer (some ⟨g, i * E.sz, none⟩)) (hy : xs[i]? = some y)
    (h : K (a.put o.dst (.agg (E.cells y).toArray))) : o.quiet P a (fun w' => ∃ e : Ext W, w' = e.w) K := by
  refine ⟨.agg (E.cells y).toArray, ?_, h⟩
  rintro _ ⟨e, rfl⟩
  unfold Oper.quietAt
  rw [run_loadRow (E := E) ((hL.call e.ok).own hm) ho hx hy]
  exact ⟨rfl, rfl⟩
theorem run_setRow {p x : Operand} {base g n c i : Nat} {te' : TypeId} {xs : List α} {y : α} [hn : SizeT P T E.sz] (hL : Loc w0 M W l) (hs : Swap (row E base te' (.slice (some ⟨g, 0, none⟩) n c) xs) (row E base te' (.slice (some ⟨g, 0, none⟩) n c) (xs.set i y)) l l')
    (ho : o.op = .store T p x) (hp : a.eval p = .pointer (some ⟨g, i * E.sz, none⟩)) (hx : a.eval x = .agg (E.cells y).toArray) (hi : i < xs.length) :
    ∃ w1, (execOp a.eval o).run P W = .ok .skip w1 ∧ Loc w0 M w1 l' := by
  obtain ⟨w1, hst, hO, hm⟩ := O_set (P := P) (hL.own hs.mem) i hi y
  obtain ⟨inf, hii, hsz⟩ := Option.map_eq_some_iff.1 hn.size
  have hst2 : (storeVar T ⟨g, i * E.sz, none⟩ (.agg (E.cells y).toArray)).run P W = .ok () w1 := by
    simp [storeVar, sizeOf, typeInfo, hii, hsz, Value.cells, E.len, hst]
  refine ⟨w1, ?_, hL.swap hs (hm.mono fun k _ hk => ?_) (row_at hO) fun _ hk => .inl hk⟩
  · unfold execOp
    simp only [ho, hp, hx, Instr.storeAt, Instr.sureAddr, Sem.run_bind, Sem.run_pure, Result.andThen_ok, hst2]
  · show (Value.slice (some ⟨g, 0, none⟩) n c).ownBlock = some k
    rw [hk]; rfl
theorem wpOp_skip {i : Nat} {w w' : World} {K : Act → World → Prop} (hi : ops[i]? = some o) (hg : o.guard = none) (hr : (execOp a.eval o).run P w = .ok .skip w') (h : K (a.put o.dst undef) w') : wpOp P ops Q i K a w := by
  have hw : Region.wanted o (yielded ops a.tmps) = true := by simp [Region.wanted, hg]
  unfold wpOp
  simp only [hi, hw, if_true]
  refine .inl ?_
  unfold Oper.wp
  rw [hr]
  exact h
end
section
variable {P : Program} {ops : Array Oper} {o : Oper} {a : Act}
theorem run_addN (t : TypeId) (m n : Nat) (h : m + n ≤ 9223372036854775807) (w : World) : (binOp .add t (.int .i64 m) (.int .i64 n)).run P w = .ok (.int .i64 ((m + n : Nat) : Int)) w := by
  have h1 : ((m : Int) + (n : Int)) ≤ 9223372036854775807 := by omega
  simp [go_sem]
  rw [IntKind.wrap_i64]; omega
theorem run_subN (t : TypeId) (m n : Nat) (h : n ≤ m) (hm : m ≤ 9223372036854775807) (w : World) : (binOp .sub t (.int .i64 m) (.int .i64 n)).run P w = .ok (.int .i64 ((m - n : Nat) : Int)) w := by
  simp [go_sem]
  rw [IntKind.wrap_i64]; omega
theorem y_move {x : Operand} (v : Value) (hg : o.guard = none) (ho : o.op = .move x) (hx : a.eval x = v) : Yields P ops o v a := by
  refine .inl ⟨by simp [Region.wanted, hg], fun w => ?_⟩
  simp [execOp, ho, hx]
theorem y_add {t r : TypeId} {x y : Operand} (m n : Nat) (hg : o.guard = none) (ho : o.op = .binOp .add t x y r) (hx : a.eval x = .int .i64 m) (hy : a.eval y = .int .i64 n) (h : m + n ≤ 9223372036854775807) : Yields P ops o (.int .i64 ((m + n : Nat) : Int)) a := by
  refine .inl ⟨by simp [Region.wanted, hg], fun w => ?_⟩
  simp [execOp, ho, hx, hy, eqGuard, Sem.run_bind, run_addN t m n h w]
theorem y_sub {t r : TypeId} {x y : Operand} (m n : Nat) (hg : o.guard = none) (ho : o.op = .binOp .sub t x y r) (hx : a.eval x = .int .i64 m) (hy : a.eval y = .int .i64 n) (h : n ≤ m) (hm : m ≤ 9223372036854775807) : Yields P ops o (.int .i64 ((m - n : Nat) : Int)) a := by
  refine .inl ⟨by simp [Region.wanted, hg], fun w => ?_⟩
  simp [execOp, ho, hx, hy, eqGuard, Sem.run_bind, run_subN t m n h hm w]
theorem y_index {α : Type} (E : Enc α) {T te : TypeId} {x ix : Operand} {g n c : Nat} {k : IntKind} (i : Nat) [ht : SliceT P te T] [hsz : SizeT P T E.sz] (hg : o.guard = none) (ho : o.op = .indexAddr te x ix) (hx : a.eval x = .slice (some ⟨g, 0, none⟩) n c) (hix : a.eval ix = .int k i) (hi : i < n) :
    Yields P ops o (.pointer (some ⟨g, i * E.sz, none⟩)) a := .inl ⟨by simp [Region.wanted, hg], fun w => run_indexRow ho hx hix hi w⟩
end
/-- Two loads, in whichever order. -/
theorem wpAny_loads {P : Program} {md : Region.Mode} {ol : List Oper} {Q : Exit → Act → World → Prop} {a : Act} {W w0 : World} {M : Nat → Prop} {l : List Item} {α : Type} {E : Enc α} {T : TypeId} {base g n c ix jx : Nat} {te : TypeId} {xs : List α} {x y : α} [ha : AggT P T] [hn : SizeT P T E.sz]
    {f i j : Nat} {oi oj : Oper} {listed : Array Bool} {pi pj di dj : Tmp} (hi : Nth ol i oi) (hj : Nth ol j oj) (gi : oi.guard = none) (gj : oj.guard = none)
    (r1 : Region.ready md ol.toArray listed = [i, j]) (r2 : Region.ready md ol.toArray (listed.setIfInBounds i true) = [j]) (r3 : Region.ready md ol.toArray (listed.setIfInBounds j true) = [i])
    (nij : i ≠ j) (oi1 : oi.op = .load T (.tmp pi)) (oj1 : oj.op = .load T (.tmp pj)) (di1 : oi.dst = some di) (dj1 : oj.dst = some dj)
    (nd : (decide (di ≠ dj ∧ di ≠ pj ∧ dj ≠ pi)) = true)
    (hL : Loc w0 M W l) (hmem : row E base te (.slice (some ⟨g, 0, none⟩) n c) xs ∈ l) (xi : a.eval (.tmp pi) = .pointer (some ⟨g, jx * E.sz, none⟩)) (xj : a.eval (.tmp pj) = .pointer (some ⟨g, ix * E.sz, none⟩)) (hyj : xs[jx]? = some y) (hxi : xs[ix]? = some x)
    (H : wpAny P md ol.toArray Q f ((listed.setIfInBounds i true).setIfInBounds j true) ((a.put (some di) (.agg (E.cells y).toArray)).put (some dj) (.agg (E.cells x).toArray)) W) :
    wpAny P md ol.toArray Q (f + 2) listed a W := by
  simp only [decide_eq_true_eq] at nd
  obtain ⟨n1, n3, n6⟩ := nd
  have ne : ∀ {p q : Tmp}, p ≠ q → (some p : Option Tmp) ≠ some q := fun h e => h (Option.some.inj e)
  have c1 : (a.put (some dj) (.agg (E.cells x).toArray)).put (some di) (.agg (E.cells y).toArray) = (a.put (some di) (.agg (E.cells y).toArray)).put (some dj) (.agg (E.cells x).toArray) :=
    Act.put_comm a _ _ (fun d h1 h2 => n1 (Option.some.inj (h2.trans h1.symm)))
  have l1' : (listed.setIfInBounds j true).setIfInBounds i true = (listed.setIfInBounds i true).setIfInBounds j true := Array.setIfInBounds_comm _ _ nij.symm
  refine wpAny_all r1 (by simp) fun z hz => ?_
  rcases List.mem_cons.1 hz with rfl | hz
  · refine wpOp_run hi.get gi (run_loadRow (hL.own hmem) oi1 xi hyj) (wpAny_all r2 (by simp) fun z hz => ?_)
    obtain rfl := List.mem_singleton.1 hz
    rw [di1]
    refine wpOp_run hj.get gj (run_loadRow (hL.own hmem) oj1 (by rw [eval_put_ne (ne n3)]; exact xj) hxi) ?_
    rw [dj1]
    exact H
  · obtain rfl := List.mem_singleton.1 hz
    refine wpOp_run hj.get gj (run_loadRow (hL.own hmem) oj1 xj hxi) (wpAny_all r3 (by simp) fun z hz => ?_)
    obtain rfl := List.mem_singleton.1 hz
    rw [dj1]
    refine wpOp_run hi.get gi (run_loadRow (hL.own hmem) oi1 (by rw [eval_put_ne (ne n6)]; exact xi) hyj) ?_
    rw [di1, c1, l1']
    exact H
/-- Two stores, one behind the other, and the end. -/
theorem wpAny_stores {P : Program} {md : Region.Mode} {ol : List Oper} {Q : Exit → Act → World → Prop} {a : Act} {W w0 : World} {M : Nat → Prop} {l l1 l2 : List Item} {α : Type} {E : Enc α} {T : TypeId} {base g n c ix jx : Nat} {te : TypeId} {xs : List α} {x y : α} [hn : SizeT P T E.sz]
    {f k m : Nat} {ok om : Oper} {listed : Array Bool} {pk pm di dj : Tmp} (hk : Nth ol k ok) (hm : Nth ol m om) (gk : ok.guard = none) (gm : om.guard = none)
    (r4 : Region.ready md ol.toArray listed = [k]) (r5 : Region.ready md ol.toArray (listed.setIfInBounds k true) = [m]) (r6 : Region.ready md ol.toArray ((listed.setIfInBounds k true).setIfInBounds m true) = [])
    (ok1 : ok.op = .store T (.tmp pk) (.tmp di)) (om1 : om.op = .store T (.tmp pm) (.tmp dj)) (dk1 : ok.dst = none) (dm1 : om.dst = none)
    (hL : Loc w0 M W l) (hli : ix < xs.length) (hlj : jx < xs.length)
    (xk : a.eval (.tmp pk) = .pointer (some ⟨g, ix * E.sz, none⟩)) (xm : a.eval (.tmp pm) = .pointer (some ⟨g, jx * E.sz, none⟩)) (ei : a.eval (.tmp di) = .agg (E.cells y).toArray) (ej : a.eval (.tmp dj) = .agg (E.cells x).toArray)
    (hs1 : Swap (row E base te (.slice (some ⟨g, 0, none⟩) n c) xs) (row E base te (.slice (some ⟨g, 0, none⟩) n c) (xs.set ix y)) l l1) (hs2 : Swap (row E base te (.slice (some ⟨g, 0, none⟩) n c) (xs.set ix y)) (row E base te (.slice (some ⟨g, 0, none⟩) n c) ((xs.set ix y).set jx x)) l1 l2)
    (H : ∀ w1, Loc w0 M w1 l2 → Q .normal ((a.put none undef).put none undef) w1) :
    wpAny P md ol.toArray Q (f + 2) listed a W := by
  obtain ⟨w1, hr1, hL1⟩ := run_setRow (P := P) (a := a) (o := ok) (T := T) (E := E) (y := y) hL hs1 ok1 xk ei hli
  refine wpAny_all r4 (by simp) fun z hz => ?_
  obtain rfl := List.mem_singleton.1 hz
  refine wpOp_skip hk.get gk hr1 (wpAny_all r5 (by simp) fun z hz => ?_)
  obtain rfl := List.mem_singleton.1 hz
  rw [dk1]
  obtain ⟨w2, hr2, hL2⟩ := run_setRow (P := P) (a := a.put none undef) (o := om) (T := T) (E := E) (y := x) hL1 hs2 om1 (show a.eval (.tmp pm) = _ from xm) (show a.eval (.tmp dj) = _ from ej) (by rw [List.length_set]; exact hlj)
  refine wpOp_skip hm.get gm hr2 (wpAny_done r6 ?_ _)
  rw [dm1]
  exact H w2 hL2
/-- A call that turns the row at g, seen from before. -/
theorem Loc.overRow {α : Type} {E : Enc α} {w0 w w1 : World} {base g n c : Nat} {te : TypeId} {xs ys : List α} (h : Loc w0 (· = g) w [row E base te (.slice (some ⟨g, 0, none⟩) n c) xs]) (h2 : Loc w (· = g) w1 [row E base te (.slice (some ⟨g, 0, none⟩) n c) ys]) :
    Loc w0 (· = g) w1 [row E base te (.slice (some ⟨g, 0, none⟩) n c) ys] :=
  ⟨h.mod.trans h2.mod fun _ _ e => e, h2.at_, fun i hi k hk => by
    rcases h2.new i hi k hk with h3 | h3
    · exact .inl (Nat.le_trans h.size h3)
    · exact .inr h3, h2.apart⟩
end Go.Proofs.YtebpacmhdkgfeaaDoor

/- slices.SortStableFunc at []crannog/api.Event: printed by gen_sort.py. -/
namespace Go.Proofs.YtebpacmhdkgfeaaDoor.SortEv
open Go.RowKit

variable {α : Type} (E : Enc α)
abbrev Own (w : World) (base g n c : Nat) (xs : List α) : Prop := E.O w base 31 (.slice (some ⟨g, 0, none⟩) n c) xs
abbrev it (base g n c : Nat) (xs : List α) : Item := row E base 31 (.slice (some ⟨g, 0, none⟩) n c) xs
theorem ofR {w0 w : World} {M : Nat → Prop} {base g n c : Nat} {xs : List α} (h : Loc w0 M w [it E base g n c xs]) : Own E w base g n c xs := h.own (.head _)
theorem openR {w : World} {base g n c : Nat} {xs : List α} (h : Own E w base g n c xs) : Loc w (· = g) w [it E base g n c xs] := by
  refine ⟨.refl _ _, fun i hi => ?_, fun i hi k hk => ?_, .cons (by simp) .nil⟩
  · rw [List.mem_singleton.1 hi]; exact row_at h
  · rw [List.mem_singleton.1 hi] at hk
    have hk' : (Value.slice (some ⟨g, 0, none⟩) n c).ownBlock = some k := hk
    injection hk' with hk'
    exact .inr hk'.symm
variable [hsz : SizeT Tryd.prog 31 E.sz]

set_option maxHeartbeats 8000000 in
theorem swap_range (w : World) (base g n c a b k : Nat) (fv : Value) (P A M B R : List α) (h : Own E w base g n c (P ++ A ++ M ++ B ++ R)) (hn : n = (P ++ A ++ M ++ B ++ R).length) (ha : a = P.length) (hA : A.length = k) (hb : b = a + k + M.length) (hB : B.length = k) (hmax : n ≤ 1000000000) :
    Calls Tryd.prog 79 #[.slice (some ⟨g, 0, none⟩) n c, .int .i64 a, .int .i64 b, .int .i64 k, fv] w fun e w' => e = .returned (.tuple #[]) ∧ Loc w (· = g) w' [it E base g n c (P ++ B ++ M ++ A ++ R)] := by
  have hL := openR E h
  have hlen : P.length + k + M.length + k + R.length = n := by rw [hn]; simp; omega
  clear h
  go_enter Tryd.func79, Tryd.ntmps79
  go_wp2
  go_loopw [10] (fun iv wr => ∃ i : Nat, i ≤ k ∧ iv = .int .i64 i ∧ Loc w (· = g) wr [it E base g n c (P ++ (B.take i ++ A.drop i) ++ M ++ (A.take i ++ B.drop i) ++ R)]) (fun iv _ => k - (intOf iv).toNat)
  case atStart => exact ⟨0, by omega, rfl, by simpa using hL⟩
  case round =>
    clear hL
    obtain ⟨i, hi, rfl, hL⟩ := hrel
    by_cases hlt : i < k
    · have t0 : decide ((i : Int) < (k : Int)) = true := by simp; omega
      obtain ⟨x, hx⟩ : ∃ x, A[i]? = some x := ⟨_, List.getElem?_eq_getElem (by omega)⟩
      obtain ⟨y, hy⟩ : ∃ y, B[i]? = some y := ⟨_, List.getElem?_eq_getElem (by omega)⟩
      obtain ⟨q1, q2, q3⟩ := Stab.swap_step P A M B R i x y hx hy (hA.trans hB.symm)
      have ia1 : a + i = (P ++ B.take i).length := by simp; omega
      have ib1 : b + i = (P ++ B.take i).length + 1 + (A.drop (i + 1) ++ M ++ A.take i).length := by simp; omega
      rw [← ib1] at q2 q3
      rw [← ia1] at q1 q3
      go_wp2
      refine region_any (by kernel_rfl) hL ?_
      clear hL
      intro wR hL _ _
      refine wpAny_takeN (i := 0) (by repeat (first | exact .zero _ _ | with_reducible apply Nth.succ)) (by kernel_rfl) (by kernel_rfl) (by kernel_rfl) (by exact fun _ _ _ h => h) (y_move (.slice (some ⟨g, 0, none⟩) n c) rfl rfl (by rfl)) ?_
      refine wpAny_takeN (i := 1) (by repeat (first | exact .zero _ _ | with_reducible apply Nth.succ)) (by kernel_rfl) (by kernel_rfl) (by kernel_rfl) (by exact fun _ _ _ h => h) (y_move (.int .i64 ((a : Nat) : Int)) rfl rfl (by rfl)) ?_
      refine wpAny_takeN (i := 2) (by repeat (first | exact .zero _ _ | with_reducible apply Nth.succ)) (by kernel_rfl) (by kernel_rfl) (by kernel_rfl) (by exact fun _ _ _ h => h) (y_move (.int .i64 ((i : Nat) : Int)) rfl rfl (by rfl)) ?_
      refine wpAny_takeN (i := 3) (by repeat (first | exact .zero _ _ | with_reducible apply Nth.succ)) (by kernel_rfl) (by kernel_rfl) (by kernel_rfl) (by exact fun _ _ _ h => h) (y_add (a) (i) rfl rfl (by rfl) (by rfl) (by omega)) ?_
      refine wpAny_takeN (i := 4) (by repeat (first | exact .zero _ _ | with_reducible apply Nth.succ)) (by kernel_rfl) (by kernel_rfl) (by kernel_rfl) (by exact fun _ _ _ h => h) (y_move (.slice (some ⟨g, 0, none⟩) n c) rfl rfl (by rfl)) ?_
      refine wpAny_takeN (i := 5) (by repeat (first | exact .zero _ _ | with_reducible apply Nth.succ)) (by kernel_rfl) (by kernel_rfl) (by kernel_rfl) (by exact fun _ _ _ h => h) (y_move (.int .i64 ((b : Nat) : Int)) rfl rfl (by rfl)) ?_
      (try simp only [Act.put, List.setIfInBounds_toArray, List.set_cons_succ, List.set_cons_zero])
      refine wpAny_takeN (i := 6) (by repeat (first | exact .zero _ _ | with_reducible apply Nth.succ)) (by kernel_rfl) (by kernel_rfl) (by kernel_rfl) (by exact fun _ _ _ h => h) (y_move (.int .i64 ((i : Nat) : Int)) rfl rfl (by rfl)) ?_
      refine wpAny_takeN (i := 7) (by repeat (first | exact .zero _ _ | with_reducible apply Nth.succ)) (by kernel_rfl) (by kernel_rfl) (by kernel_rfl) (by exact fun _ _ _ h => h) (y_add (b) (i) rfl rfl (by rfl) (by rfl) (by omega)) ?_
      refine wpAny_takeN (i := 8) (by repeat (first | exact .zero _ _ | with_reducible apply Nth.succ)) (by kernel_rfl) (by kernel_rfl) (by kernel_rfl) (by exact fun _ _ _ h => h) (y_move (.slice (some ⟨g, 0, none⟩) n c) rfl rfl (by rfl)) ?_
      refine wpAny_takeN (i := 9) (by repeat (first | exact .zero _ _ | with_reducible apply Nth.succ)) (by kernel_rfl) (by kernel_rfl) (by kernel_rfl) (by exact fun _ _ _ h => h) (y_move (.int .i64 ((b : Nat) : Int)) rfl rfl (by rfl)) ?_
      refine wpAny_takeN (i := 10) (by repeat (first | exact .zero _ _ | with_reducible apply Nth.succ)) (by kernel_rfl) (by kernel_rfl) (by kernel_rfl) (by exact fun _ _ _ h => h) (y_move (.int .i64 ((i : Nat) : Int)) rfl rfl (by rfl)) ?_
      refine wpAny_takeN (i := 11) (by repeat (first | exact .zero _ _ | with_reducible apply Nth.succ)) (by kernel_rfl) (by kernel_rfl) (by kernel_rfl) (by exact fun _ _ _ h => h) (y_add (b) (i) rfl rfl (by rfl) (by rfl) (by omega)) ?_
      (try simp only [Act.put, List.setIfInBounds_toArray, List.set_cons_succ, List.set_cons_zero])
      refine wpAny_takeN (i := 12) (by repeat (first | exact .zero _ _ | with_reducible apply Nth.succ)) (by kernel_rfl) (by kernel_rfl) (by kernel_rfl) (by exact fun _ _ _ h => h) (y_index E (b + i) rfl rfl (by rfl) (by rfl) (by omega)) ?_
      refine wpAny_takeN (i := 14) (by repeat (first | exact .zero _ _ | with_reducible apply Nth.succ)) (by kernel_rfl) (by kernel_rfl) (by kernel_rfl) (by exact fun _ _ _ h => h) (y_move (.slice (some ⟨g, 0, none⟩) n c) rfl rfl (by rfl)) ?_
      refine wpAny_takeN (i := 15) (by repeat (first | exact .zero _ _ | with_reducible apply Nth.succ)) (by kernel_rfl) (by kernel_rfl) (by kernel_rfl) (by exact fun _ _ _ h => h) (y_move (.int .i64 ((a : Nat) : Int)) rfl rfl (by rfl)) ?_
      refine wpAny_takeN (i := 16) (by repeat (first | exact .zero _ _ | with_reducible apply Nth.succ)) (by kernel_rfl) (by kernel_rfl) (by kernel_rfl) (by exact fun _ _ _ h => h) (y_move (.int .i64 ((i : Nat) : Int)) rfl rfl (by rfl)) ?_
      refine wpAny_takeN (i := 17) (by repeat (first | exact .zero _ _ | with_reducible apply Nth.succ)) (by kernel_rfl) (by kernel_rfl) (by kernel_rfl) (by exact fun _ _ _ h => h) (y_add (a) (i) rfl rfl (by rfl) (by rfl) (by omega)) ?_
      refine wpAny_takeN (i := 18) (by repeat (first | exact .zero _ _ | with_reducible apply Nth.succ)) (by kernel_rfl) (by kernel_rfl) (by kernel_rfl) (by exact fun _ _ _ h => h) (y_index E (a + i) rfl rfl (by rfl) (by rfl) (by omega)) ?_
      (try simp only [Act.put, List.setIfInBounds_toArray, List.set_cons_succ, List.set_cons_zero])
      (try simp only [Act.put, List.setIfInBounds_toArray, List.set_cons_succ, List.set_cons_zero])
      refine wpAny_loads (E := E) (ix := a + i) (jx := b + i) (i := 13) (j := 19) (by repeat (first | exact .zero _ _ | with_reducible apply Nth.succ)) (by repeat (first | exact .zero _ _ | with_reducible apply Nth.succ)) rfl rfl (by kernel_rfl) (by kernel_rfl) (by kernel_rfl) (by decide) rfl rfl rfl rfl (by decide) hL (.head _) (by rfl) (by rfl) q2 q1 ?_
      (try simp only [Act.put, List.setIfInBounds_toArray, List.set_cons_succ, List.set_cons_zero])
      refine wpAny_drop 20 (by rfl) (by kernel_rfl) ?_
      simp only [List.drop_succ_cons, List.drop_zero]
      (try simp only [Act.put, List.setIfInBounds_toArray, List.set_cons_succ, List.set_cons_zero])
      refine event rfl (run_indexRow (E := E) (i := a + i) rfl (by rfl) (by rfl) (by omega) _) ?_
      (try simp only [Act.put, List.setIfInBounds_toArray, List.set_cons_succ, List.set_cons_zero])
      refine ev_setRow (E := E) (a + i) y rfl hL rfl (by rfl) rfl (by rfl) ⟨rfl, E.one _⟩ (List.getElem?_eq_some_iff.1 q1).1 (.here _) ?_
      clear hL
      intro wS hL
      (try simp only [Act.put, List.setIfInBounds_toArray, List.set_cons_succ, List.set_cons_zero])
      refine event rfl (run_indexRow (E := E) (i := b + i) rfl (by rfl) (by rfl) (by omega) _) ?_
      (try simp only [Act.put, List.setIfInBounds_toArray, List.set_cons_succ, List.set_cons_zero])
      refine ev_setRow (E := E) (b + i) x rfl hL rfl (by rfl) rfl (by rfl) ⟨rfl, E.one _⟩ (by rw [List.length_set]; exact (List.getElem?_eq_some_iff.1 q2).1) (.here _) ?_
      clear hL
      intro wS hL
      (try simp only [Act.put, List.setIfInBounds_toArray, List.set_cons_succ, List.set_cons_zero])
      rw [q3] at hL
      go_wp2
      go_roundw
      case rel => exact ⟨i + 1, by omega, by go_num, hL⟩
      case measure => simp [intOf]; omega
    · obtain rfl : i = k := by omega
      have t0 : decide ((i : Int) < (i : Int)) = false := by simp
      go_wp2
      go_end0
      rw [List.take_of_length_le (l := A) (by omega), List.take_of_length_le (l := B) (by omega), List.drop_of_length_le (l := A) (by omega), List.drop_of_length_le (l := B) (by omega), List.append_nil, List.append_nil] at hL
      exact ⟨rfl, hL⟩
end Go.Proofs.YtebpacmhdkgfeaaDoor.SortEv

/- slices.SortStableFunc at []crannog/api.Event: printed by gen_sort.py. -/
namespace Go.Proofs.YtebpacmhdkgfeaaDoor.SortEv
open Go.RowKit

variable {α : Type} (E : Enc α) [hsz : SizeT Tryd.prog 31 E.sz]
set_option maxHeartbeats 2000000 in
theorem rotate (w : World) (base g n c a m b : Nat) (fv : Value) (P A B R : List α) (h : Own E w base g n c (P ++ A ++ B ++ R)) (hn : n = (P ++ A ++ B ++ R).length) (ha : a = P.length) (hm : m = a + A.length) (hb : b = m + B.length) (hA : A ≠ []) (hB : B ≠ []) (hmax : n ≤ 1000000000) :
    Calls Tryd.prog 71 #[.slice (some ⟨g, 0, none⟩) n c, .int .i64 a, .int .i64 m, .int .i64 b, fv] w fun e w' => e = .returned (.tuple #[]) ∧ Loc w (· = g) w' [it E base g n c (P ++ B ++ A ++ R)] := by
  have hL := openR E h
  have hlen : P.length + A.length + B.length + R.length = n := by rw [hn]; simp; omega
  have hA0 : 0 < A.length := List.length_pos_iff.2 hA
  have hB0 : 0 < B.length := List.length_pos_iff.2 hB
  have HM := Lib.hid (show m ≤ n ∧ m = P.length + A.length ∧ P.length + A.length + B.length + R.length = n from ⟨by omega, by omega, hlen⟩)
  have e1 : (m : Int) - (a : Int) = (A.length : Int) := by omega
  have e2 : (b : Int) - (m : Int) = (B.length : Int) := by omega
  have hm9 : m ≤ 1000000000 := by omega
  have hA9 : A.length ≤ 1000000000 := by omega
  have hB9 : B.length ≤ 1000000000 := by omega
  clear h hn ha hm hb hlen hA hB
  go_enter Tryd.func71, Tryd.ntmps71
  go_wp2
  clear e1 e2
  go_loopw [10, 11] (fun iv jv wr => ∃ (X U V Y : List α), iv = .int .i64 U.length ∧ jv = .int .i64 V.length ∧ Hid (0 < U.length ∧ 0 < V.length ∧ P.length + X.length + U.length = m ∧ X ++ V ++ U ++ Y = B ++ A) ∧ Loc w (· = g) wr [it E base g n c (P ++ X ++ U ++ V ++ Y ++ R)]) (fun iv jv _ => (intOf iv).toNat + (intOf jv).toNat)
  case atStart => exact ⟨[], A, B, [], rfl, rfl, Lib.hid ⟨hA0, hB0, by have := HM.out; simp; omega, by simp⟩, by simpa using hL⟩
  case round =>
    clear hL
    obtain ⟨X, U, V, Y, rfl, rfl, HI, hL⟩ := hrel
    have HJ : Hid (P.length + X.length + U.length + V.length + Y.length + R.length = n) := Lib.hid (by
      have h1 := HM.out
      have h2 := congrArg List.length HI.out.2.2.2
      simp only [List.length_append] at h2
      omega)
    have hUm : U.length ≤ m := by have := HI.out; omega
    have hV9 : V.length ≤ 1000000000 := by have := HJ.out; omega
    by_cases heq : U.length = V.length
    · have t0 : ((U.length : Int) != (V.length : Int)) = false := by simp [heq]
      have HE := Lib.hid heq
      have hq : ∀ w, Own E w base g n c (P ++ X ++ U ++ V ++ Y ++ R) → Hid (Calls Tryd.prog 79 #[.slice (some ⟨g, 0, none⟩) n c, .int .i64 ((m : Int) - (U.length : Int)), .int .i64 m, .int .i64 U.length, fv] w fun e w' => e = .returned (.tuple #[]) ∧ Loc w (· = g) w' [it E base g n c (P ++ B ++ A ++ R)]) := fun w h => hide (by
        have h1 := HI.out; have h2 := HM.out; have h3 := HJ.out
        have q := swap_range E w base g n c (m - U.length) m U.length fv (P ++ X) U [] V (Y ++ R) (by simpa using h) (by simp; omega) (by simp; omega) rfl (by simp; omega) heq.symm hmax
        rw [show ((m - U.length : Nat) : Int) = (m : Int) - (U.length : Int) from by omega, show P ++ X ++ V ++ [] ++ U ++ (Y ++ R) = P ++ B ++ A ++ R from by rw [List.append_assoc P B, ← h1.2.2.2]; simp] at q
        exact q)
      clear heq HI HJ HM HE
      go_wp2_with (go_at_call 79; (with_reducible refine (unhide (hq _ (ofR E hL))).mono ?_); rintro e w2 ⟨rfl, hL2⟩; have hL := hL.overRow hL2; clear hL2)
      go_end0
      exact ⟨rfl, hL⟩
    · have t0 : ((U.length : Int) != (V.length : Int)) = true := by simp; omega
      by_cases hgt : V.length < U.length
      · have t1 : decide ((V.length : Int) < (U.length : Int)) = true := by simp; omega
        obtain ⟨U1, U2, HU⟩ : ∃ U1 U2, Hid (U = U1 ++ U2 ∧ U1.length = V.length ∧ U2.length = U.length - V.length) := ⟨U.take V.length, U.drop V.length, Lib.hid ⟨(List.take_append_drop _ _).symm, by rw [List.length_take]; omega, List.length_drop⟩⟩
        have hq : ∀ w, Own E w base g n c (P ++ X ++ U ++ V ++ Y ++ R) → Hid (Calls Tryd.prog 79 #[.slice (some ⟨g, 0, none⟩) n c, .int .i64 ((m : Int) - (U.length : Int)), .int .i64 m, .int .i64 V.length, fv] w fun e w' => e = .returned (.tuple #[]) ∧ Loc w (· = g) w' [it E base g n c (P ++ (X ++ V) ++ U2 ++ U1 ++ Y ++ R)]) := fun w h => hide (by
          have h1 := HI.out; have h2 := HM.out; have h3 := HJ.out; have h4 := HU.out
          have q := swap_range E w base g n c (m - U.length) m V.length fv (P ++ X) U1 U2 V (Y ++ R) (by rw [h4.1] at h; simpa using h) (by simp; omega) (by simp; omega) h4.2.1 (by omega) rfl hmax
          rw [show ((m - U.length : Nat) : Int) = (m : Int) - (U.length : Int) from by omega, show P ++ X ++ V ++ U2 ++ U1 ++ (Y ++ R) = P ++ (X ++ V) ++ U2 ++ U1 ++ Y ++ R from by simp] at q
          exact q)
        have HR : Hid ((U2.length : Int) = (U.length : Int) - (V.length : Int) ∧ U1.length = V.length ∧ 0 < U2.length ∧ 0 < U1.length ∧ P.length + (X ++ V).length + U2.length = m ∧ (X ++ V) ++ U1 ++ U2 ++ Y = B ++ A) := Lib.hid (by
          have h1 := HI.out; have h4 := HU.out
          refine ⟨by omega, h4.2.1, by omega, by omega, by simp; omega, ?_⟩
          rw [← h1.2.2.2, h4.1]; simp)
        have hV := HI.out.2.1
        clear HI HJ HU heq
        go_wp2_with (go_at_call 79; (with_reducible refine (unhide (hq _ (ofR E hL))).mono ?_); rintro e w2 ⟨rfl, hL2⟩; have hL := hL.overRow hL2; clear hL2)
        go_roundw
        case rel => exact ⟨X ++ V, U2, U1, Y, by rw [HR.out.1], by rw [HR.out.2.1], Lib.hid HR.out.2.2, hL⟩
        case measure => simp [intOf]; omega
      · have t1 : decide ((V.length : Int) < (U.length : Int)) = false := by simp; omega
        obtain ⟨V1, V2, HU⟩ : ∃ V1 V2, Hid (V = V1 ++ V2 ∧ V1.length = V.length - U.length ∧ V2.length = U.length) := ⟨V.take (V.length - U.length), V.drop (V.length - U.length), Lib.hid ⟨(List.take_append_drop _ _).symm, by rw [List.length_take]; omega, by rw [List.length_drop]; omega⟩⟩
        have hq : ∀ w, Own E w base g n c (P ++ X ++ U ++ V ++ Y ++ R) → Hid (Calls Tryd.prog 79 #[.slice (some ⟨g, 0, none⟩) n c, .int .i64 ((m : Int) - (U.length : Int)), .int .i64 ((m : Int) + (V.length : Int) - (U.length : Int)), .int .i64 U.length, fv] w fun e w' => e = .returned (.tuple #[]) ∧ Loc w (· = g) w' [it E base g n c (P ++ X ++ V2 ++ V1 ++ (U ++ Y) ++ R)]) := fun w h => hide (by
          have h1 := HI.out; have h2 := HM.out; have h3 := HJ.out; have h4 := HU.out
          have q := swap_range E w base g n c (m - U.length) (m + V.length - U.length) U.length fv (P ++ X) U V1 V2 (Y ++ R) (by rw [h4.1] at h; simpa using h) (by simp; omega) (by simp; omega) rfl (by omega) h4.2.2 hmax
          rw [show ((m - U.length : Nat) : Int) = (m : Int) - (U.length : Int) from by omega, show ((m + V.length - U.length : Nat) : Int) = (m : Int) + (V.length : Int) - (U.length : Int) from by omega, show P ++ X ++ V2 ++ V1 ++ U ++ (Y ++ R) = P ++ X ++ V2 ++ V1 ++ (U ++ Y) ++ R from by simp] at q
          exact q)
        have HR : Hid (V2.length = U.length ∧ (V1.length : Int) = (V.length : Int) - (U.length : Int) ∧ 0 < V2.length ∧ 0 < V1.length ∧ P.length + X.length + V2.length = m ∧ X ++ V1 ++ V2 ++ (U ++ Y) = B ++ A) := Lib.hid (by
          have h1 := HI.out; have h4 := HU.out
          refine ⟨h4.2.2, by omega, by omega, by omega, by omega, ?_⟩
          rw [← h1.2.2.2, h4.1]; simp)
        have hU := HI.out.1
        clear HI HJ HU
        go_wp2_with (go_at_call 79; (with_reducible refine (unhide (hq _ (ofR E hL))).mono ?_); rintro e w2 ⟨rfl, hL2⟩; have hL := hL.overRow hL2; clear hL2)
        go_roundw
        case rel => exact ⟨X, V2, V1, U ++ Y, by rw [HR.out.1], by rw [HR.out.2.1], Lib.hid HR.out.2.2, hL⟩
        case measure => simp [intOf]; omega
end Go.Proofs.YtebpacmhdkgfeaaDoor.SortEv

/- slices.SortStableFunc at []crannog/api.Event: printed by gen_sort.py. -/
namespace Go.Proofs.YtebpacmhdkgfeaaDoor.SortEv
open Go.RowKit

variable {α : Type} (E : Enc α) [hsz : SizeT Tryd.prog 31 E.sz]

/-- What is asked of cmp: in every world that the sort comes to. -/
def CmpOk (f : Nat) (cb : Array Value) (cf : α → α → Int) (w0 : World) (g : Nat) : Prop := ∀ x y w, Mod (· = g) w0 w → Calls Tryd.prog f (#[.agg (E.cells x).toArray, .agg (E.cells y).toArray] ++ cb) w fun e w' => e = .returned (.int .i64 (cf x y)) ∧ Below w.heap.size w w'
abbrev ltf (cf : α → α → Int) (x y : α) : Bool := decide (cf x y < 0)
set_option maxHeartbeats 8000000 in
theorem insertion (f : Nat) (cb : Array Value) (cf : α → α → Int) (eg : ∀ args w, (callFunc f args).run Tryd.prog w = .ok (.enter f args) w) (ho : Stab.Ord (ltf cf)) (w : World) (base g n c a b : Nat) (P L R : List α) (hcmp : CmpOk E f cb cf w g) (h : Own E w base g n c (P ++ L ++ R)) (hn : n = (P ++ L ++ R).length) (ha : a = P.length) (hb : b = a + L.length) (hmax : n ≤ 1000000000) :
    Calls Tryd.prog 62 #[.slice (some ⟨g, 0, none⟩) n c, .int .i64 a, .int .i64 b, .func (.func f) #[] cb] w fun e w' => e = .returned (.tuple #[]) ∧ Loc w (· = g) w' [it E base g n c (P ++ Stab.isort (ltf cf) L ++ R)] := by
  have hL := openR E h
  have HN := Lib.hid (show n = P.length + L.length + R.length ∧ a = P.length ∧ b = a + L.length from ⟨by rw [hn]; simp; omega, ha, hb⟩)
  have ha9 : a ≤ 1000000000 := by have := HN.out; omega
  have hb9 : b ≤ 1000000000 := by have := HN.out; omega
  have HC := hide hcmp
  clear h hn ha hb hcmp
  go_enter Tryd.func62, Tryd.ntmps62
  go_wp2
  go_loopw [8] (fun iv wr => ∃ k : Nat, iv = .int .i64 ((a + k : Nat) : Int) ∧ Hid (1 ≤ k ∧ (k ≤ L.length ∨ k = 1)) ∧ Loc w (· = g) wr [it E base g n c (P ++ (Stab.isort (ltf cf) (L.take k) ++ L.drop k) ++ R)]) (fun iv _ => b + 1 - (intOf iv).toNat)
  case atStart =>
    refine ⟨1, rfl, Lib.hid ⟨by omega, .inr rfl⟩, ?_⟩
    have e : Stab.isort (ltf cf) (L.take 1) ++ L.drop 1 = L := by cases L <;> rfl
    rw [e]; exact hL
  case round =>
    clear hL
    obtain ⟨k, rfl, HK, hL⟩ := hrel
    by_cases hlt : a + k < b
    · have t0 : decide (((a + k : Nat) : Int) < (b : Int)) = true := by simp; omega
      have hk : k < L.length := by have := HN.out; omega
      obtain ⟨x, hx⟩ : ∃ x, L[k]? = some x := ⟨_, List.getElem?_eq_getElem hk⟩
      have hdr := Stab.drop_cons' hx
      have HS : Hid (Stab.isort (ltf cf) (L.take (k + 1)) = Stab.ins (ltf cf) x (Stab.isort (ltf cf) (L.take k)) ∧ Stab.Of (ltf cf) (L.take k) (Stab.isort (ltf cf) (L.take k)) ∧ (Stab.isort (ltf cf) (L.take k)).length = k ∧ k < L.length) := Lib.hid (by
        refine ⟨by rw [Stab.take_snoc' hx, Stab.isort_snoc], Stab.isort_of ho _, ?_, hk⟩
        rw [(Stab.isort_of ho _).len, List.length_take]; omega)
      rw [hdr] at hL
      clear hdr hx hk
      go_wp2
      go_loopw [9] (fun jv wr2 => ∃ (L1 L2 : List α), jv = .int .i64 ((a + L1.length : Nat) : Int) ∧ Hid (L1 ++ L2 = Stab.isort (ltf cf) (L.take k) ∧ ∀ y ∈ L2, ltf cf x y = true) ∧ Loc w (· = g) wr2 [it E base g n c (P ++ (L1 ++ x :: L2 ++ L.drop (k + 1)) ++ R)]) (fun jv _ => (intOf jv).toNat)
      case atStart =>
        refine ⟨Stab.isort (ltf cf) (L.take k), [], by rw [HS.out.2.2.1], Lib.hid ⟨by simp, by simp⟩, ?_⟩
        have e : Stab.isort (ltf cf) (L.take k) ++ [x] ++ L.drop (k + 1) = Stab.isort (ltf cf) (L.take k) ++ x :: L.drop (k + 1) := by simp
        rw [e]; exact hL
      case round =>
        clear hL
        obtain ⟨L1, L2, rfl, HI, hL⟩ := hrel
        have hfin : (∀ y ∈ L1, ltf cf x y = false) → Hid (P ++ (L1 ++ x :: L2 ++ L.drop (k + 1)) ++ R = P ++ (Stab.isort (ltf cf) (L.take (k + 1)) ++ L.drop (k + 1)) ++ R) := fun hh => Lib.hid (by
          rw [HS.out.1, ← HI.out.1, Stab.ins_split x L1 L2 hh (fun y hy => HI.out.2 y (List.mem_of_mem_head? hy))])
        have hlen : Hid (n = a + L1.length + 1 + L2.length + (L.length - (k + 1)) + R.length ∧ L1.length ≤ k) := Lib.hid (by
          have h1 := congrArg List.length HI.out.1
          have h2 := HS.out
          have h3 := HN.out
          rw [List.length_append] at h1
          omega)
        rcases Stab.nil_or_snoc L1 with rfl | ⟨L1', y, rfl⟩
        · have t1 : decide ((a : Int) < (a : Int)) = false := by simp
          have HF := hfin (by simp)
          clear hfin
          simp only [List.length_nil, Nat.add_zero]
          go_wp2_with fail
          (try simp only [Act.put, List.setIfInBounds_toArray, List.set_cons_succ, List.set_cons_zero])
          refine wp_region_ext (by kernel_rfl) (by kernel_rfl) ?_
          repeat (go_big_quiet_step (fail))
          refine wpQuiet_nil ?_
          rintro _ ⟨⟨wC, hbC⟩, rfl⟩
          have hL := hL.call hbC
          clear hbC
          rw [HF.out] at hL
          go_wp2
          go_roundw
          case rel => exact ⟨k + 1, by go_num, Lib.hid ⟨by omega, .inl (by have := HS.out; omega)⟩, hL⟩
          case measure => have := HN.out; have := HS.out; simp [intOf]; omega
        · obtain ⟨jp, HP⟩ : ∃ jp, Hid (jp = a + L1'.length ∧ a + (L1' ++ [y]).length = jp + 1) := ⟨_, Lib.hid ⟨rfl, by simp; omega⟩⟩
          have hjp9 : jp + 1 < n := by have h1 := hlen.out; have h2 := HP.out; simp only [List.length_append, List.length_singleton] at h1 h2; omega
          have hajp : a ≤ jp := by have := HP.out; omega
          have t1 : decide ((a : Int) < (jp : Int) + 1) = true := by simp; omega
          obtain ⟨q1, q2, -⟩ := Stab.exch_at (P ++ L1') [] (L2 ++ L.drop (k + 1) ++ R) y x
          have q3 := Stab.exch_at' (P ++ L1') [] (L2 ++ L.drop (k + 1) ++ R) y x
          have hpl : (P ++ L1').length = jp := by have := HP.out; have := HN.out; simp; omega
          simp only [List.nil_append, List.length_nil, Nat.add_zero, hpl] at q1 q2 q3
          have e0 : P ++ (L1' ++ [y] ++ x :: L2 ++ L.drop (k + 1)) ++ R = P ++ L1' ++ y :: x :: (L2 ++ L.drop (k + 1) ++ R) := by simp
          rw [e0] at hL hfin
          rw [HP.out.2]
          have e9 : P ++ L1' ++ x :: y :: (L2 ++ L.drop (k + 1) ++ R) = P ++ (L1' ++ x :: (y :: L2) ++ L.drop (k + 1)) ++ R := by simp
          have HE9 := Lib.hid e9
          clear hpl e0 e9 hlen
          generalize P ++ L1' ++ y :: x :: (L2 ++ L.drop (k + 1) ++ R) = xs at *
          have hy1 := q1
          have hy2 := q2
          have hcq := fun w (hb : Below _ _ w) => unhide HC x y w (hL.mod.trans (Mod.of_below (M := NoM) hb) fun _ _ e => e.elim)
          by_cases hc : cf x y < 0
          · have t2 : decide (cf x y < 0) = true := by simpa using hc
            clear hfin
            go_wp2_with fail
            (try simp only [Act.put, List.setIfInBounds_toArray, List.set_cons_succ, List.set_cons_zero])
            refine wp_region_ext (by kernel_rfl) (by kernel_rfl) ?_
            repeat (first
                    | (go_big_quiet_want; (first | refine quiet_indexRow E rfl (by rfl) (by rfl) (by omega) ?_ | refine quiet_loadRow (E := E) hL (.head _) rfl (by rfl) hy1 ?_ | refine quiet_loadRow (E := E) hL (.head _) rfl (by rfl) hy2 ?_); go_big_quiet_on; simp only [Act.put, List.setIfInBounds_toArray, List.set_cons_succ, List.set_cons_zero])
                    | go_big_quiet_step (first | (go_at_fn f; exact calls_ext (hcq _ (Ext.ok _)))))
            refine wpQuiet_nil ?_
            rintro _ ⟨⟨wC, hbC⟩, rfl⟩
            have hL := hL.call hbC
            clear hbC hcq
            go_wp2_with fail
            clear hy1 hy2
            refine region_any (by kernel_rfl) hL ?_
            clear hL
            intro wR hL _ _
            refine wpAny_takeN (i := 0) (by repeat (first | exact .zero _ _ | with_reducible apply Nth.succ)) (by kernel_rfl) (by kernel_rfl) (by kernel_rfl) (by exact fun _ _ _ h => h) (y_move (.slice (some ⟨g, 0, none⟩) n c) rfl rfl (by rfl)) ?_
            refine wpAny_takeN (i := 1) (by repeat (first | exact .zero _ _ | with_reducible apply Nth.succ)) (by kernel_rfl) (by kernel_rfl) (by kernel_rfl) (by exact fun _ _ _ h => h) (y_move (.int .i64 ((jp + 1 : Nat) : Int)) rfl rfl (by rfl)) ?_
            refine wpAny_takeN (i := 2) (by repeat (first | exact .zero _ _ | with_reducible apply Nth.succ)) (by kernel_rfl) (by kernel_rfl) (by kernel_rfl) (by exact fun _ _ _ h => h) (y_move (.slice (some ⟨g, 0, none⟩) n c) rfl rfl (by rfl)) ?_
            refine wpAny_takeN (i := 3) (by repeat (first | exact .zero _ _ | with_reducible apply Nth.succ)) (by kernel_rfl) (by kernel_rfl) (by kernel_rfl) (by exact fun _ _ _ h => h) (y_move (.int .i64 ((jp + 1 : Nat) : Int)) rfl rfl (by rfl)) ?_
            refine wpAny_takeN (i := 4) (by repeat (first | exact .zero _ _ | with_reducible apply Nth.succ)) (by kernel_rfl) (by kernel_rfl) (by kernel_rfl) (by exact fun _ _ _ h => h) (y_sub (jp + 1) (1) rfl rfl (by rfl) (by rfl) (by omega) (by omega)) ?_
            refine wpAny_takeN (i := 5) (by repeat (first | exact .zero _ _ | with_reducible apply Nth.succ)) (by kernel_rfl) (by kernel_rfl) (by kernel_rfl) (by exact fun _ _ _ h => h) (y_move (.slice (some ⟨g, 0, none⟩) n c) rfl rfl (by rfl)) ?_
            (try simp only [Act.put, List.setIfInBounds_toArray, List.set_cons_succ, List.set_cons_zero])
            refine wpAny_takeN (i := 6) (by repeat (first | exact .zero _ _ | with_reducible apply Nth.succ)) (by kernel_rfl) (by kernel_rfl) (by kernel_rfl) (by exact fun _ _ _ h => h) (y_move (.int .i64 ((jp + 1 : Nat) : Int)) rfl rfl (by rfl)) ?_
            refine wpAny_takeN (i := 7) (by repeat (first | exact .zero _ _ | with_reducible apply Nth.succ)) (by kernel_rfl) (by kernel_rfl) (by kernel_rfl) (by exact fun _ _ _ h => h) (y_sub (jp + 1) (1) rfl rfl (by rfl) (by rfl) (by omega) (by omega)) ?_
            refine wpAny_takeN (i := 8) (by repeat (first | exact .zero _ _ | with_reducible apply Nth.succ)) (by kernel_rfl) (by kernel_rfl) (by kernel_rfl) (by exact fun _ _ _ h => h) (y_index E (jp) rfl rfl (by rfl) (by rfl) (by omega)) ?_
            refine wpAny_takeN (i := 10) (by repeat (first | exact .zero _ _ | with_reducible apply Nth.succ)) (by kernel_rfl) (by kernel_rfl) (by kernel_rfl) (by exact fun _ _ _ h => h) (y_move (.slice (some ⟨g, 0, none⟩) n c) rfl rfl (by rfl)) ?_
            refine wpAny_takeN (i := 11) (by repeat (first | exact .zero _ _ | with_reducible apply Nth.succ)) (by kernel_rfl) (by kernel_rfl) (by kernel_rfl) (by exact fun _ _ _ h => h) (y_move (.int .i64 ((jp + 1 : Nat) : Int)) rfl rfl (by rfl)) ?_
            refine wpAny_takeN (i := 12) (by repeat (first | exact .zero _ _ | with_reducible apply Nth.succ)) (by kernel_rfl) (by kernel_rfl) (by kernel_rfl) (by exact fun _ _ _ h => h) (y_index E (jp + 1) rfl rfl (by rfl) (by rfl) (by omega)) ?_
            (try simp only [Act.put, List.setIfInBounds_toArray, List.set_cons_succ, List.set_cons_zero])
            (try simp only [Act.put, List.setIfInBounds_toArray, List.set_cons_succ, List.set_cons_zero])
            refine wpAny_loads (E := E) (ix := jp + 1) (jx := jp) (i := 9) (j := 13) (by repeat (first | exact .zero _ _ | with_reducible apply Nth.succ)) (by repeat (first | exact .zero _ _ | with_reducible apply Nth.succ)) rfl rfl (by kernel_rfl) (by kernel_rfl) (by kernel_rfl) (by decide) rfl rfl rfl rfl (by decide) hL (.head _) (by rfl) (by rfl) q1 q2 ?_
            (try simp only [Act.put, List.setIfInBounds_toArray, List.set_cons_succ, List.set_cons_zero])
            refine wpAny_drop 14 (by rfl) (by kernel_rfl) ?_
            simp only [List.drop_succ_cons, List.drop_zero]
            (try simp only [Act.put, List.setIfInBounds_toArray, List.set_cons_succ, List.set_cons_zero])
            refine event rfl (run_indexRow (E := E) (i := jp + 1) rfl (by rfl) (by rfl) (by omega) _) ?_
            (try simp only [Act.put, List.setIfInBounds_toArray, List.set_cons_succ, List.set_cons_zero])
            refine ev_setRow (E := E) (jp + 1) y rfl hL rfl (by rfl) rfl (by rfl) ⟨rfl, E.one _⟩ (List.getElem?_eq_some_iff.1 q2).1 (.here _) ?_
            clear hL
            intro wS hL
            (try simp only [Act.put, List.setIfInBounds_toArray, List.set_cons_succ, List.set_cons_zero])
            refine event rfl (run_indexRow (E := E) (i := jp) rfl (by rfl) (by rfl) (by omega) _) ?_
            (try simp only [Act.put, List.setIfInBounds_toArray, List.set_cons_succ, List.set_cons_zero])
            refine ev_setRow (E := E) (jp) x rfl hL rfl (by rfl) rfl (by rfl) ⟨rfl, E.one _⟩ (by rw [List.length_set]; exact (List.getElem?_eq_some_iff.1 q1).1) (.here _) ?_
            clear hL
            intro wS hL
            (try simp only [Act.put, List.setIfInBounds_toArray, List.set_cons_succ, List.set_cons_zero])
            rw [q3, HE9.out] at hL
            go_wp2
            go_roundw
            case rel =>
              refine ⟨L1', y :: L2, by rw [← HP.out.1], Lib.hid ⟨?_, fun z hz => ?_⟩, hL⟩
              · have := HI.out.1; rw [← this]; simp
              · rcases List.mem_cons.1 hz with rfl | hz
                · exact t2
                · exact HI.out.2 z hz
            case measure => simp [intOf]
          · have t2 : decide (cf x y < 0) = false := by simpa using hc
            have HF := hfin (fun z hz => by
              rcases List.mem_append.1 hz with hz | hz
              · have hs := HS.out.2.1.sorted
                rw [← HI.out.1] at hs
                have h1 := List.pairwise_append.1 hs
                have h2 := List.pairwise_append.1 h1.1
                exact ho.le_trans (h2.2.2 z hz y (.head _)) t2
              · rw [List.mem_singleton.1 hz]; exact t2)
            clear hfin
            go_wp2_with fail
            (try simp only [Act.put, List.setIfInBounds_toArray, List.set_cons_succ, List.set_cons_zero])
            refine wp_region_ext (by kernel_rfl) (by kernel_rfl) ?_
            repeat (first
                    | (go_big_quiet_want; (first | refine quiet_indexRow E rfl (by rfl) (by rfl) (by omega) ?_ | refine quiet_loadRow (E := E) hL (.head _) rfl (by rfl) hy1 ?_ | refine quiet_loadRow (E := E) hL (.head _) rfl (by rfl) hy2 ?_); go_big_quiet_on; simp only [Act.put, List.setIfInBounds_toArray, List.set_cons_succ, List.set_cons_zero])
                    | go_big_quiet_step (first | (go_at_fn f; exact calls_ext (hcq _ (Ext.ok _)))))
            refine wpQuiet_nil ?_
            rintro _ ⟨⟨wC, hbC⟩, rfl⟩
            have hL := hL.call hbC
            clear hbC hcq
            rw [HF.out] at hL
            go_wp2
            go_roundw
            case rel => exact ⟨k + 1, by go_num, Lib.hid ⟨by omega, .inl (by have := HS.out; omega)⟩, hL⟩
            case measure => have := HN.out; have := HS.out; simp [intOf]; omega
    · have t0 : decide (((a + k : Nat) : Int) < (b : Int)) = false := by simp; omega
      have HF : Hid (P ++ (Stab.isort (ltf cf) (L.take k) ++ L.drop k) ++ R = P ++ Stab.isort (ltf cf) L ++ R) := Lib.hid (by
        have := HN.out
        rw [List.take_of_length_le (by omega), List.drop_of_length_le (by omega), List.append_nil])
      rw [HF.out] at hL
      go_wp2
      go_end0
      exact ⟨rfl, hL⟩
end Go.Proofs.YtebpacmhdkgfeaaDoor.SortEv

/- slices.SortStableFunc at []crannog/api.Event: printed by gen_sort.py. -/
namespace Go.Proofs.YtebpacmhdkgfeaaDoor.SortEv
open Go.RowKit

variable {α : Type} (E : Enc α) [hsz : SizeT Tryd.prog 31 E.sz]

theorem CmpOk.next {α : Type} {E : Enc α} {f : Nat} {cb : Array Value} {cf : α → α → Int} {w w1 : World} {g : Nat} (h : CmpOk E f cb cf w g) (hm : Mod (· = g) w w1) : CmpOk E f cb cf w1 g := fun x y w2 h2 => h x y w2 (hm.trans h2 fun _ _ e => e)
/-- What a merge comes to. -/
def Merged (lt : α → α → Bool) (w : World) (base g n c : Nat) (P A B R : List α) (e : Ending) (w' : World) : Prop := e = .returned (.tuple #[]) ∧ ∃ L, Stab.Of lt (A ++ B) L ∧ Loc w (· = g) w' [it E base g n c (P ++ L ++ R)]

set_option maxRecDepth 100000 in
set_option maxHeartbeats 8000000 in
theorem sym_left (f : Nat) (cb : Array Value) (cf : α → α → Int) (eg : ∀ args w, (callFunc f args).run Tryd.prog w = .ok (.enter f args) w) (ho : Stab.Ord (ltf cf)) (w : World) (base g n c a b : Nat) (x : α) (P B R : List α) (hcmp : CmpOk E f cb cf w g) (h : Own E w base g n c (P ++ [x] ++ B ++ R)) (hn : n = (P ++ [x] ++ B ++ R).length) (ha : a = P.length) (hb : b = a + 1 + B.length) (hsB : Stab.Sorted (ltf cf) B) (hmax : n ≤ 1000000000) :
    Calls Tryd.prog 63 #[.slice (some ⟨g, 0, none⟩) n c, .int .i64 a, .int .i64 ((a + 1 : Nat) : Int), .int .i64 b, .func (.func f) #[] cb] w (Merged E (ltf cf) w base g n c P [x] B R) := by
  have hL := openR E h
  have HN := Lib.hid (show n = P.length + 1 + B.length + R.length ∧ a = P.length ∧ b = a + 1 + B.length from ⟨by rw [hn]; simp; omega, ha, hb⟩)
  have HS := Lib.hid hsB
  have ha9 : a + 1 ≤ 1000000000 := by have := HN.out; omega
  have hb9 : b ≤ 1000000000 := by have := HN.out; omega
  have HC := hide hcmp
  have tA : ((a : Int) + 1 - (a : Int) == 1) = true := by simp; omega
  clear h hn ha hb hcmp hsB
  go_enter Tryd.func63, Tryd.ntmps63
  go_wp2
  go_loopw [10, 11, 12] (fun iv jv hv wr => ∃ (B1 B2 B3 : List α) (i j : Nat), iv = .int .i64 i ∧ jv = .int .i64 j ∧ Hid (B = B1 ++ B2 ++ B3 ∧ i = a + 1 + B1.length ∧ j = i + B2.length ∧ (∀ y ∈ B1, ltf cf y x = true) ∧ ∀ y ∈ B3, ltf cf y x = false) ∧ Loc w (· = g) wr [it E base g n c (P ++ [x] ++ B ++ R)]) (fun iv jv _ _ => (intOf jv).toNat - (intOf iv).toNat)
  case atStart => exact ⟨[], B, [], a + 1, b, by go_num, rfl, Lib.hid ⟨by simp, by simp, by have := HN.out; omega, by simp, by simp⟩, hL⟩
  case round =>
    clear hL
    obtain ⟨B1, B2, B3, i, j, rfl, rfl, HI, hL⟩ := hrel
    by_cases hlt : i < j
    · have t0 : decide ((i : Int) < (j : Int)) = true := by simp; omega
      have hj9 : j ≤ n := by have h1 := HI.out; have h2 := HN.out; have h3 := congrArg List.length h1.1; simp at h3; omega
      obtain ⟨hm, hhm, hb1, hb2⟩ : ∃ hm : Nat, ((i : Int) + (j : Int)) / 2 = (hm : Int) ∧ i ≤ hm ∧ hm < j := ⟨(i + j) / 2, by omega, by omega, by omega⟩
      obtain ⟨B2a, y, B2b, H2⟩ : ∃ B2a y B2b, Hid (B2 = B2a ++ y :: B2b ∧ B2a.length = hm - i) := by
        obtain ⟨y, hy⟩ : ∃ y, B2[hm - i]? = some y := ⟨_, List.getElem?_eq_getElem (by have := HI.out; omega)⟩
        exact ⟨B2.take (hm - i), y, B2.drop (hm - i + 1), Lib.hid ⟨by rw [← Stab.drop_cons' hy, List.take_append_drop], by rw [List.length_take]; have := HI.out; omega⟩⟩
      have HX : Hid (B = B1 ++ B2a ++ y :: (B2b ++ B3)) := Lib.hid (by rw [HI.out.1, H2.out.1]; simp)
      have hy2 : (P ++ [x] ++ B ++ R)[a]? = some x := by have := HN.out; rw [List.append_assoc, List.append_assoc, this.2.1, List.getElem?_append_right (Nat.le_refl _), Nat.sub_self]; rfl
      have hy1 : (P ++ [x] ++ B ++ R)[hm]? = some y := by
        have h1 := HN.out; have h2 := HI.out; have h3 := H2.out
        rw [HX.out, show P ++ [x] ++ (B1 ++ B2a ++ y :: (B2b ++ B3)) ++ R = (P ++ [x] ++ B1 ++ B2a) ++ y :: (B2b ++ B3 ++ R) from by simp]
        have hl : hm = (P ++ [x] ++ B1 ++ B2a).length := by simp; omega
        rw [hl]
        exact (Stab.exch_at (P ++ [x] ++ B1 ++ B2a) [] (B2b ++ B3 ++ R) y y).1 |> fun _ => by simp
      have hsrt : (∀ z ∈ B1 ++ B2a, ltf cf y z = false) ∧ (∀ z ∈ B2b ++ B3, ltf cf z y = false) := by
        have h1 := HS.out
        rw [HX.out] at h1
        have h2 := List.pairwise_append.1 h1
        exact ⟨fun z hz => h2.2.2 z hz y (.head _), fun z hz => (List.pairwise_cons.1 h2.2.1).1 z hz⟩
      have han : a < n := by have := HN.out; omega
      have hmn : hm < n := by omega
      have hcq := fun w (hb : Below _ _ w) => unhide HC y x w (hL.mod.trans (Mod.of_below (M := NoM) hb) fun _ _ e => e.elim)
      have HXS := Lib.hid (Eq.refl (P ++ [x] ++ B ++ R))
      generalize P ++ [x] ++ B ++ R = xs at *
      by_cases hc : cf y x < 0
      · have t2 : decide (cf y x < 0) = true := by simpa using hc
        go_wp2_with fail
        (try simp only [Act.put, List.setIfInBounds_toArray, List.set_cons_succ, List.set_cons_zero])
        refine wp_region_ext (by kernel_rfl) (by kernel_rfl) ?_
        repeat (first
                | (go_big_quiet_want; (first | refine quiet_indexRow E rfl (by rfl) (by rfl) (by omega) ?_ | refine quiet_loadRow (E := E) hL (.head _) rfl (by rfl) hy1 ?_ | refine quiet_loadRow (E := E) hL (.head _) rfl (by rfl) hy2 ?_); go_big_quiet_on; simp only [Act.put, List.setIfInBounds_toArray, List.set_cons_succ, List.set_cons_zero])
                | go_big_quiet_step (first | (go_at_fn f; exact calls_ext (hcq _ (Ext.ok _)))))
        refine wpQuiet_nil ?_
        rintro _ ⟨⟨wC, hbC⟩, rfl⟩
        have hL := hL.call hbC
        clear hbC hcq
        go_wp2
        refine ⟨?_, ?measure⟩
        iterate 26 (apply Exists.intro)
        refine ⟨?rel, rfl⟩
        case rel =>
          refine ⟨B1 ++ B2a ++ [y], B2b, B3, hm + 1, j, by go_num, rfl, Lib.hid ⟨by rw [HX.out]; simp, ?_, ?_, fun z hz => ?_, HI.out.2.2.2.2⟩, hL⟩
          · have h2 := HI.out; have h3 := H2.out; simp; omega
          · have h2 := HI.out; have h3 := H2.out; have h4 := congrArg List.length h3.1; simp at h4; omega
          · rcases List.mem_append.1 hz with hz | hz
            · exact ho.le_lt (hsrt.1 z hz) t2
            · rw [List.mem_singleton.1 hz]; exact t2
        case measure => simp [intOf]; omega
      · have t2 : decide (cf y x < 0) = false := by simpa using hc
        go_wp2_with fail
        (try simp only [Act.put, List.setIfInBounds_toArray, List.set_cons_succ, List.set_cons_zero])
        refine wp_region_ext (by kernel_rfl) (by kernel_rfl) ?_
        repeat (first
                | (go_big_quiet_want; (first | refine quiet_indexRow E rfl (by rfl) (by rfl) (by omega) ?_ | refine quiet_loadRow (E := E) hL (.head _) rfl (by rfl) hy1 ?_ | refine quiet_loadRow (E := E) hL (.head _) rfl (by rfl) hy2 ?_); go_big_quiet_on; simp only [Act.put, List.setIfInBounds_toArray, List.set_cons_succ, List.set_cons_zero])
                | go_big_quiet_step (first | (go_at_fn f; exact calls_ext (hcq _ (Ext.ok _)))))
        refine wpQuiet_nil ?_
        rintro _ ⟨⟨wC, hbC⟩, rfl⟩
        have hL := hL.call hbC
        clear hbC hcq
        go_wp2
        refine ⟨?_, ?measure⟩
        iterate 26 (apply Exists.intro)
        refine ⟨?rel, rfl⟩
        case rel =>
          refine ⟨B1, B2a, y :: (B2b ++ B3), i, hm, rfl, rfl, Lib.hid ⟨by first | (rw [HX.out]; done) | (rw [HX.out]; simp), HI.out.2.1, ?_, HI.out.2.2.2.1, fun z hz => ?_⟩, hL⟩
          · have h3 := H2.out; omega
          · rcases List.mem_cons.1 hz with rfl | hz
            · exact t2
            · exact ho.le_trans t2 (hsrt.2 z hz)
        case measure => simp [intOf]; omega
    · have hij : j = i := by have := HI.out; omega
      subst hij
      have t0 : decide ((j : Int) < (j : Int)) = false := by simp
      have HB : Hid (B = B1 ++ B3 ∧ j = a + 1 + B1.length ∧ Stab.Of (ltf cf) ([x] ++ B) (B1 ++ x :: B3)) := Lib.hid (by
        have h1 := HI.out
        have h2 : B2 = [] := List.eq_nil_of_length_eq_zero (by omega)
        have h3 : B = B1 ++ B3 := by rw [h1.1, h2]; simp
        refine ⟨h3, h1.2.1, ?_⟩
        have h4 := HS.out
        rw [h3] at h4 ⊢
        exact Stab.one_left ho h4 h1.2.2.2.1 h1.2.2.2.2)
      have hj1 : 1 ≤ j := by have := HB.out; omega
      have hj9 : j ≤ n := by have h1 := HB.out; have h2 := HN.out; have h3 := congrArg List.length h1.1; simp at h3; omega
      rw [show P ++ [x] ++ B ++ R = P ++ ([] ++ x :: B1 ++ B3) ++ R from by rw [HB.out.1]; simp] at hL
      clear HI
      go_wp2
      go_loopw [13] (fun kv wr => ∃ (C1 C2 : List α) (k : Nat), kv = .int .i64 k ∧ Hid (B1 = C1 ++ C2 ∧ k = a + C1.length) ∧ Loc w (· = g) wr [it E base g n c (P ++ (C1 ++ x :: C2 ++ B3) ++ R)]) (fun kv _ => j - (intOf kv).toNat)
      case atStart => exact ⟨[], B1, a, rfl, Lib.hid ⟨rfl, by simp⟩, hL⟩
      case round =>
        clear hL
        obtain ⟨C1, C2, k, rfl, HI, hL⟩ := hrel
        by_cases hk : k + 1 < j
        · have t1 : decide ((k : Int) < (j : Int) - 1) = true := by simp; omega
          obtain ⟨y, C2', H2⟩ : ∃ y C2', Hid (C2 = y :: C2') := by
            cases h : C2 with
            | nil => have h1 := HI.out; have h2 := HB.out; rw [h, List.append_nil] at h1; rw [h1.1] at h2; omega
            | cons y C2' => exact ⟨y, C2', Lib.hid rfl⟩
          rw [H2.out] at hL HI
          obtain ⟨q1, q2, q3⟩ := Stab.exch_at (P ++ C1) [] (C2' ++ B3 ++ R) x y
          have hpl : (P ++ C1).length = k := by have h1 := HI.out; have h2 := HN.out; simp; omega
          simp only [List.nil_append, List.length_nil, Nat.add_zero, hpl] at q1 q2 q3
          have e0 : P ++ (C1 ++ x :: y :: C2' ++ B3) ++ R = P ++ C1 ++ x :: y :: (C2' ++ B3 ++ R) := by simp
          rw [e0] at hL
          have HE9 := Lib.hid (show P ++ C1 ++ y :: x :: (C2' ++ B3 ++ R) = P ++ (C1 ++ [y] ++ x :: C2' ++ B3) ++ R from by simp)
          clear hpl e0
          generalize P ++ C1 ++ x :: y :: (C2' ++ B3 ++ R) = xs at *
          go_wp2_with fail
          refine region_any (by kernel_rfl) hL ?_
          clear hL
          intro wR hL _ _
          refine wpAny_takeN (i := 0) (by repeat (first | exact .zero _ _ | with_reducible apply Nth.succ)) (by kernel_rfl) (by kernel_rfl) (by kernel_rfl) (by exact fun _ _ _ h => h) (y_move (.slice (some ⟨g, 0, none⟩) n c) rfl rfl (by rfl)) ?_
          refine wpAny_takeN (i := 1) (by repeat (first | exact .zero _ _ | with_reducible apply Nth.succ)) (by kernel_rfl) (by kernel_rfl) (by kernel_rfl) (by exact fun _ _ _ h => h) (y_move (.int .i64 ((k : Nat) : Int)) rfl rfl (by rfl)) ?_
          refine wpAny_takeN (i := 2) (by repeat (first | exact .zero _ _ | with_reducible apply Nth.succ)) (by kernel_rfl) (by kernel_rfl) (by kernel_rfl) (by exact fun _ _ _ h => h) (y_move (.slice (some ⟨g, 0, none⟩) n c) rfl rfl (by rfl)) ?_
          refine wpAny_takeN (i := 3) (by repeat (first | exact .zero _ _ | with_reducible apply Nth.succ)) (by kernel_rfl) (by kernel_rfl) (by kernel_rfl) (by exact fun _ _ _ h => h) (y_move (.int .i64 ((k : Nat) : Int)) rfl rfl (by rfl)) ?_
          refine wpAny_takeN (i := 4) (by repeat (first | exact .zero _ _ | with_reducible apply Nth.succ)) (by kernel_rfl) (by kernel_rfl) (by kernel_rfl) (by exact fun _ _ _ h => h) (y_add (k) (1) rfl rfl (by rfl) (by rfl) (by omega)) ?_
          refine wpAny_takeN (i := 5) (by repeat (first | exact .zero _ _ | with_reducible apply Nth.succ)) (by kernel_rfl) (by kernel_rfl) (by kernel_rfl) (by exact fun _ _ _ h => h) (y_move (.slice (some ⟨g, 0, none⟩) n c) rfl rfl (by rfl)) ?_
          (try simp only [Act.put, List.setIfInBounds_toArray, List.set_cons_succ, List.set_cons_zero])
          refine wpAny_takeN (i := 6) (by repeat (first | exact .zero _ _ | with_reducible apply Nth.succ)) (by kernel_rfl) (by kernel_rfl) (by kernel_rfl) (by exact fun _ _ _ h => h) (y_move (.int .i64 ((k : Nat) : Int)) rfl rfl (by rfl)) ?_
          refine wpAny_takeN (i := 7) (by repeat (first | exact .zero _ _ | with_reducible apply Nth.succ)) (by kernel_rfl) (by kernel_rfl) (by kernel_rfl) (by exact fun _ _ _ h => h) (y_add (k) (1) rfl rfl (by rfl) (by rfl) (by omega)) ?_
          refine wpAny_takeN (i := 8) (by repeat (first | exact .zero _ _ | with_reducible apply Nth.succ)) (by kernel_rfl) (by kernel_rfl) (by kernel_rfl) (by exact fun _ _ _ h => h) (y_index E (k + 1) rfl rfl (by rfl) (by rfl) (by omega)) ?_
          refine wpAny_takeN (i := 10) (by repeat (first | exact .zero _ _ | with_reducible apply Nth.succ)) (by kernel_rfl) (by kernel_rfl) (by kernel_rfl) (by exact fun _ _ _ h => h) (y_move (.slice (some ⟨g, 0, none⟩) n c) rfl rfl (by rfl)) ?_
          refine wpAny_takeN (i := 11) (by repeat (first | exact .zero _ _ | with_reducible apply Nth.succ)) (by kernel_rfl) (by kernel_rfl) (by kernel_rfl) (by exact fun _ _ _ h => h) (y_move (.int .i64 ((k : Nat) : Int)) rfl rfl (by rfl)) ?_
          refine wpAny_takeN (i := 12) (by repeat (first | exact .zero _ _ | with_reducible apply Nth.succ)) (by kernel_rfl) (by kernel_rfl) (by kernel_rfl) (by exact fun _ _ _ h => h) (y_index E (k) rfl rfl (by rfl) (by rfl) (by omega)) ?_
          (try simp only [Act.put, List.setIfInBounds_toArray, List.set_cons_succ, List.set_cons_zero])
          (try simp only [Act.put, List.setIfInBounds_toArray, List.set_cons_succ, List.set_cons_zero])
          refine wpAny_loads (E := E) (ix := k) (jx := k + 1) (i := 9) (j := 13) (by repeat (first | exact .zero _ _ | with_reducible apply Nth.succ)) (by repeat (first | exact .zero _ _ | with_reducible apply Nth.succ)) rfl rfl (by kernel_rfl) (by kernel_rfl) (by kernel_rfl) (by decide) rfl rfl rfl rfl (by decide) hL (.head _) (by rfl) (by rfl) q2 q1 ?_
          (try simp only [Act.put, List.setIfInBounds_toArray, List.set_cons_succ, List.set_cons_zero])
          refine wpAny_drop 14 (by rfl) (by kernel_rfl) ?_
          simp only [List.drop_succ_cons, List.drop_zero]
          (try simp only [Act.put, List.setIfInBounds_toArray, List.set_cons_succ, List.set_cons_zero])
          refine event rfl (run_indexRow (E := E) (i := k) rfl (by rfl) (by rfl) (by omega) _) ?_
          (try simp only [Act.put, List.setIfInBounds_toArray, List.set_cons_succ, List.set_cons_zero])
          refine ev_setRow (E := E) (k) y rfl hL rfl (by rfl) rfl (by rfl) ⟨rfl, E.one _⟩ (List.getElem?_eq_some_iff.1 q1).1 (.here _) ?_
          clear hL
          intro wS hL
          (try simp only [Act.put, List.setIfInBounds_toArray, List.set_cons_succ, List.set_cons_zero])
          refine event rfl (run_indexRow (E := E) (i := k + 1) rfl (by rfl) (by rfl) (by omega) _) ?_
          (try simp only [Act.put, List.setIfInBounds_toArray, List.set_cons_succ, List.set_cons_zero])
          refine ev_setRow (E := E) (k + 1) x rfl hL rfl (by rfl) rfl (by rfl) ⟨rfl, E.one _⟩ (by rw [List.length_set]; exact (List.getElem?_eq_some_iff.1 q2).1) (.here _) ?_
          clear hL
          intro wS hL
          (try simp only [Act.put, List.setIfInBounds_toArray, List.set_cons_succ, List.set_cons_zero])
          rw [q3, HE9.out] at hL
          go_wp2
          go_roundw
          case rel => exact ⟨C1 ++ [y], C2', k + 1, by go_num, Lib.hid ⟨by rw [HI.out.1]; simp, by have := HI.out; simp; omega⟩, hL⟩
          case measure => simp [intOf]; omega
        · have t1 : decide ((k : Int) < (j : Int) - 1) = false := by simp; omega
          have HF : Hid (C1 = B1 ∧ C2 = []) := Lib.hid (by
            have h1 := HI.out; have h2 := HB.out
            have h3 := congrArg List.length h1.1
            simp only [List.length_append] at h3
            have h4 : C2 = [] := List.eq_nil_of_length_eq_zero (by omega)
            exact ⟨by rw [h1.1, h4, List.append_nil], h4⟩)
          rw [HF.out.1, HF.out.2] at hL
          go_wp2
          go_end0
          refine ⟨rfl, _, HB.out.2.2, ?_⟩
          have e : P ++ (B1 ++ [x] ++ B3) ++ R = P ++ (B1 ++ x :: B3) ++ R := by simp
          rw [← e]
          exact hL
end Go.Proofs.YtebpacmhdkgfeaaDoor.SortEv

/- slices.SortStableFunc at []crannog/api.Event: printed by gen_sort.py. -/
namespace Go.Proofs.YtebpacmhdkgfeaaDoor.SortEv
open Go.RowKit

variable {α : Type} (E : Enc α) [hsz : SizeT Tryd.prog 31 E.sz]

set_option maxRecDepth 100000 in
set_option maxHeartbeats 8000000 in
theorem sym_right (f : Nat) (cb : Array Value) (cf : α → α → Int) (eg : ∀ args w, (callFunc f args).run Tryd.prog w = .ok (.enter f args) w) (ho : Stab.Ord (ltf cf)) (w : World) (base g n c a m : Nat) (y : α) (P A R : List α) (hcmp : CmpOk E f cb cf w g) (h : Own E w base g n c (P ++ A ++ [y] ++ R)) (hn : n = (P ++ A ++ [y] ++ R).length) (ha : a = P.length) (hm : m = a + A.length) (hA1 : A.length ≠ 1) (hsA : Stab.Sorted (ltf cf) A) (hmax : n ≤ 1000000000) :
    Calls Tryd.prog 63 #[.slice (some ⟨g, 0, none⟩) n c, .int .i64 a, .int .i64 m, .int .i64 ((m + 1 : Nat) : Int), .func (.func f) #[] cb] w (Merged E (ltf cf) w base g n c P A [y] R) := by
  have hL := openR E h
  have HN := Lib.hid (show n = P.length + A.length + 1 + R.length ∧ a = P.length ∧ m = a + A.length from ⟨by rw [hn]; simp; omega, ha, hm⟩)
  have HS := Lib.hid hsA
  have ha9 : a ≤ m := by have := HN.out; omega
  have hm9 : m + 1 ≤ n := by have := HN.out; omega
  have HC := hide hcmp
  have tA : ((m : Int) - (a : Int) == 1) = false := by rw [beq_eq_false_iff_ne]; omega
  have tB : ((m : Int) + 1 - (m : Int) == 1) = true := by simp; omega
  clear h hn ha hm hcmp hsA hA1
  go_enter Tryd.func63, Tryd.ntmps63
  go_wp2
  go_loopw [14, 15, 16] (fun iv jv hv wr => ∃ (A1 A2 A3 : List α) (i j : Nat), iv = .int .i64 i ∧ jv = .int .i64 j ∧ Hid (A = A1 ++ A2 ++ A3 ∧ i = a + A1.length ∧ j = i + A2.length ∧ (∀ z ∈ A1, ltf cf y z = false) ∧ ∀ z ∈ A3, ltf cf y z = true) ∧ Loc w (· = g) wr [it E base g n c (P ++ A ++ [y] ++ R)]) (fun iv jv _ _ => (intOf jv).toNat - (intOf iv).toNat)
  case atStart => exact ⟨[], A, [], a, m, rfl, rfl, Lib.hid ⟨by simp, by simp, by have := HN.out; omega, by simp, by simp⟩, hL⟩
  case round =>
    clear hL
    obtain ⟨A1, A2, A3, i, j, rfl, rfl, HI, hL⟩ := hrel
    have hjm : j ≤ m := by have h1 := HI.out; have h2 := HN.out; have h3 := congrArg List.length h1.1; simp at h3; omega
    by_cases hlt : i < j
    · have t0 : decide ((i : Int) < (j : Int)) = true := by simp; omega
      obtain ⟨hm, hhm, hb1, hb2⟩ : ∃ hm : Nat, ((i : Int) + (j : Int)) / 2 = (hm : Int) ∧ i ≤ hm ∧ hm < j := ⟨(i + j) / 2, by omega, by omega, by omega⟩
      obtain ⟨A2a, z, A2b, H2⟩ : ∃ A2a z A2b, Hid (A2 = A2a ++ z :: A2b ∧ A2a.length = hm - i) := by
        obtain ⟨z, hz⟩ : ∃ z, A2[hm - i]? = some z := ⟨_, List.getElem?_eq_getElem (by have := HI.out; omega)⟩
        exact ⟨A2.take (hm - i), z, A2.drop (hm - i + 1), Lib.hid ⟨by rw [← Stab.drop_cons' hz, List.take_append_drop], by rw [List.length_take]; have := HI.out; omega⟩⟩
      have HX : Hid (A = A1 ++ A2a ++ z :: (A2b ++ A3)) := Lib.hid (by rw [HI.out.1, H2.out.1]; simp)
      have hy1 : (P ++ A ++ [y] ++ R)[m]? = some y := by
        have h1 := HN.out
        have hl : m = (P ++ A).length := by simp; omega
        rw [List.append_assoc, hl, List.getElem?_append_right (Nat.le_refl _), Nat.sub_self]; rfl
      have hy2 : (P ++ A ++ [y] ++ R)[hm]? = some z := by
        have h1 := HN.out; have h2 := HI.out; have h3 := H2.out
        rw [HX.out, show P ++ (A1 ++ A2a ++ z :: (A2b ++ A3)) ++ [y] ++ R = (P ++ A1 ++ A2a) ++ z :: (A2b ++ A3 ++ [y] ++ R) from by simp]
        have hl : hm = (P ++ A1 ++ A2a).length := by simp; omega
        rw [hl]; simp
      have hsrt : (∀ u ∈ A1 ++ A2a, ltf cf z u = false) ∧ (∀ u ∈ A2b ++ A3, ltf cf u z = false) := by
        have h1 := HS.out
        rw [HX.out] at h1
        have h2 := List.pairwise_append.1 h1
        exact ⟨fun u hu => h2.2.2 u hu z (.head _), fun u hu => (List.pairwise_cons.1 h2.2.1).1 u hu⟩
      have hmn : hm < n := by omega
      have hcq := fun w (hb : Below _ _ w) => unhide HC y z w (hL.mod.trans (Mod.of_below (M := NoM) hb) fun _ _ e => e.elim)
      generalize P ++ A ++ [y] ++ R = xs at *
      by_cases hc : cf y z < 0
      · have t2 : decide (cf y z < 0) = true := by simpa using hc
        go_wp2_with fail
        (try simp only [Act.put, List.setIfInBounds_toArray, List.set_cons_succ, List.set_cons_zero])
        refine wp_region_ext (by kernel_rfl) (by kernel_rfl) ?_
        repeat (first
                | (go_big_quiet_want; (first | refine quiet_indexRow E rfl (by rfl) (by rfl) (by omega) ?_ | refine quiet_loadRow (E := E) hL (.head _) rfl (by rfl) hy1 ?_ | refine quiet_loadRow (E := E) hL (.head _) rfl (by rfl) hy2 ?_); go_big_quiet_on; simp only [Act.put, List.setIfInBounds_toArray, List.set_cons_succ, List.set_cons_zero])
                | go_big_quiet_step (first | (go_at_fn f; exact calls_ext (hcq _ (Ext.ok _)))))
        refine wpQuiet_nil ?_
        rintro _ ⟨⟨wC, hbC⟩, rfl⟩
        have hL := hL.call hbC
        clear hbC hcq
        go_wp2
        go_roundw
        case rel =>
          refine ⟨A1, A2a, z :: (A2b ++ A3), i, hm, rfl, rfl, Lib.hid ⟨by first | (rw [HX.out]; done) | (rw [HX.out]; simp), HI.out.2.1, ?_, HI.out.2.2.2.1, fun u hu => ?_⟩, hL⟩
          · have h3 := H2.out; omega
          · rcases List.mem_cons.1 hu with rfl | hu
            · exact t2
            · exact ho.lt_le t2 (hsrt.2 u hu)
        case measure => simp [intOf]; omega
      · have t2 : decide (cf y z < 0) = false := by simpa using hc
        go_wp2_with fail
        (try simp only [Act.put, List.setIfInBounds_toArray, List.set_cons_succ, List.set_cons_zero])
        refine wp_region_ext (by kernel_rfl) (by kernel_rfl) ?_
        repeat (first
                | (go_big_quiet_want; (first | refine quiet_indexRow E rfl (by rfl) (by rfl) (by omega) ?_ | refine quiet_loadRow (E := E) hL (.head _) rfl (by rfl) hy1 ?_ | refine quiet_loadRow (E := E) hL (.head _) rfl (by rfl) hy2 ?_); go_big_quiet_on; simp only [Act.put, List.setIfInBounds_toArray, List.set_cons_succ, List.set_cons_zero])
                | go_big_quiet_step (first | (go_at_fn f; exact calls_ext (hcq _ (Ext.ok _)))))
        refine wpQuiet_nil ?_
        rintro _ ⟨⟨wC, hbC⟩, rfl⟩
        have hL := hL.call hbC
        clear hbC hcq
        go_wp2
        refine ⟨?_, ?measure⟩
        iterate 27 (apply Exists.intro)
        refine ⟨?rel, rfl⟩
        case rel =>
          refine ⟨A1 ++ A2a ++ [z], A2b, A3, hm + 1, j, by go_num, rfl, Lib.hid ⟨by rw [HX.out]; simp, ?_, ?_, fun u hu => ?_, HI.out.2.2.2.2⟩, hL⟩
          · have h2 := HI.out; have h3 := H2.out; simp; omega
          · have h2 := HI.out; have h3 := H2.out; have h4 := congrArg List.length h3.1; simp at h4; omega
          · rcases List.mem_append.1 hu with hu | hu
            · exact ho.le_trans (hsrt.1 u hu) t2
            · rw [List.mem_singleton.1 hu]; exact t2
        case measure => simp [intOf]; omega
    · have hij : j = i := by have := HI.out; omega
      subst hij
      have t0 : decide ((j : Int) < (j : Int)) = false := by simp
      have HB : Hid (A = A1 ++ A3 ∧ j = a + A1.length ∧ Stab.Of (ltf cf) (A ++ [y]) (A1 ++ y :: A3)) := Lib.hid (by
        have h1 := HI.out
        have h2 : A2 = [] := List.eq_nil_of_length_eq_zero (by omega)
        have h3 : A = A1 ++ A3 := by rw [h1.1, h2]; simp
        refine ⟨h3, h1.2.1, ?_⟩
        have h4 := HS.out
        rw [h3] at h4 ⊢
        exact Stab.one_right ho h4 h1.2.2.2.1 h1.2.2.2.2)
      rw [show P ++ A ++ [y] ++ R = P ++ (A1 ++ A3 ++ y :: []) ++ R from by rw [HB.out.1]; simp] at hL
      have HM0 : Hid (m = j + A3.length) := Lib.hid (by have h1 := HB.out; have h2 := HN.out; have h3 := congrArg List.length h1.1; simp at h3; omega)
      clear HI
      go_wp2
      go_loopw [17] (fun kv wr => ∃ (C1 C2 : List α) (k : Nat), kv = .int .i64 k ∧ Hid (A3 = C1 ++ C2 ∧ k = j + C1.length) ∧ Loc w (· = g) wr [it E base g n c (P ++ (A1 ++ C1 ++ y :: C2) ++ R)]) (fun kv _ => (intOf kv).toNat)
      case atStart => exact ⟨A3, [], m, rfl, Lib.hid ⟨by simp, HM0.out⟩, hL⟩
      case round =>
        clear hL
        obtain ⟨C1, C2, k, rfl, HI, hL⟩ := hrel
        rcases Stab.nil_or_snoc C1 with rfl | ⟨C1', z, rfl⟩
        · have hkj : k = j := by have := HI.out; simp at this; omega
          subst hkj
          have t1 : decide ((k : Int) < (k : Int)) = false := by simp
          have HF : Hid (C2 = A3) := Lib.hid (by have := HI.out; simpa using this.1.symm)
          rw [HF.out] at hL
          go_wp2
          go_end0
          refine ⟨rfl, _, HB.out.2.2, ?_⟩
          have e : P ++ (A1 ++ [] ++ y :: A3) ++ R = P ++ (A1 ++ y :: A3) ++ R := by simp
          rw [← e]
          exact hL
        · obtain ⟨jp, rfl⟩ : ∃ jp, k = jp + 1 := ⟨k - 1, by have := HI.out; simp at this; omega⟩
          have hjp : j ≤ jp ∧ jp + 1 < n := by
            have h1 := HI.out; have h5 := HM0.out; have h3 := congrArg List.length h1.1
            simp at h1 h3; omega
          obtain ⟨hj1, hj2⟩ := hjp
          have t1 : decide ((j : Int) < (jp : Int) + 1) = true := by simp; omega
          obtain ⟨q1, q2, -⟩ := Stab.exch_at (P ++ A1 ++ C1') [] (C2 ++ R) z y
          have q3 := Stab.exch_at' (P ++ A1 ++ C1') [] (C2 ++ R) z y
          have hpl : (P ++ A1 ++ C1').length = jp := by have h1 := HI.out; have h2 := HN.out; have h3 := HB.out; simp at h1 ⊢; omega
          simp only [List.nil_append, List.length_nil, Nat.add_zero, hpl] at q1 q2 q3
          have e0 : P ++ (A1 ++ (C1' ++ [z]) ++ y :: C2) ++ R = P ++ A1 ++ C1' ++ z :: y :: (C2 ++ R) := by simp
          rw [e0] at hL
          have HE9 := Lib.hid (show P ++ A1 ++ C1' ++ y :: z :: (C2 ++ R) = P ++ (A1 ++ C1' ++ y :: (z :: C2)) ++ R from by simp)
          clear hpl e0
          generalize P ++ A1 ++ C1' ++ z :: y :: (C2 ++ R) = xs at *
          go_wp2_with fail
          refine region_any (by kernel_rfl) hL ?_
          clear hL
          intro wR hL _ _
          refine wpAny_takeN (i := 0) (by repeat (first | exact .zero _ _ | with_reducible apply Nth.succ)) (by kernel_rfl) (by kernel_rfl) (by kernel_rfl) (by exact fun _ _ _ h => h) (y_move (.slice (some ⟨g, 0, none⟩) n c) rfl rfl (by rfl)) ?_
          refine wpAny_takeN (i := 1) (by repeat (first | exact .zero _ _ | with_reducible apply Nth.succ)) (by kernel_rfl) (by kernel_rfl) (by kernel_rfl) (by exact fun _ _ _ h => h) (y_move (.int .i64 ((jp + 1 : Nat) : Int)) rfl rfl (by rfl)) ?_
          refine wpAny_takeN (i := 2) (by repeat (first | exact .zero _ _ | with_reducible apply Nth.succ)) (by kernel_rfl) (by kernel_rfl) (by kernel_rfl) (by exact fun _ _ _ h => h) (y_move (.slice (some ⟨g, 0, none⟩) n c) rfl rfl (by rfl)) ?_
          refine wpAny_takeN (i := 3) (by repeat (first | exact .zero _ _ | with_reducible apply Nth.succ)) (by kernel_rfl) (by kernel_rfl) (by kernel_rfl) (by exact fun _ _ _ h => h) (y_move (.int .i64 ((jp + 1 : Nat) : Int)) rfl rfl (by rfl)) ?_
          refine wpAny_takeN (i := 4) (by repeat (first | exact .zero _ _ | with_reducible apply Nth.succ)) (by kernel_rfl) (by kernel_rfl) (by kernel_rfl) (by exact fun _ _ _ h => h) (y_sub (jp + 1) (1) rfl rfl (by rfl) (by rfl) (by omega) (by omega)) ?_
          refine wpAny_takeN (i := 5) (by repeat (first | exact .zero _ _ | with_reducible apply Nth.succ)) (by kernel_rfl) (by kernel_rfl) (by kernel_rfl) (by exact fun _ _ _ h => h) (y_move (.slice (some ⟨g, 0, none⟩) n c) rfl rfl (by rfl)) ?_
          (try simp only [Act.put, List.setIfInBounds_toArray, List.set_cons_succ, List.set_cons_zero])
          refine wpAny_takeN (i := 6) (by repeat (first | exact .zero _ _ | with_reducible apply Nth.succ)) (by kernel_rfl) (by kernel_rfl) (by kernel_rfl) (by exact fun _ _ _ h => h) (y_move (.int .i64 ((jp + 1 : Nat) : Int)) rfl rfl (by rfl)) ?_
          refine wpAny_takeN (i := 7) (by repeat (first | exact .zero _ _ | with_reducible apply Nth.succ)) (by kernel_rfl) (by kernel_rfl) (by kernel_rfl) (by exact fun _ _ _ h => h) (y_sub (jp + 1) (1) rfl rfl (by rfl) (by rfl) (by omega) (by omega)) ?_
          refine wpAny_takeN (i := 8) (by repeat (first | exact .zero _ _ | with_reducible apply Nth.succ)) (by kernel_rfl) (by kernel_rfl) (by kernel_rfl) (by exact fun _ _ _ h => h) (y_index E (jp) rfl rfl (by rfl) (by rfl) (by omega)) ?_
          refine wpAny_takeN (i := 10) (by repeat (first | exact .zero _ _ | with_reducible apply Nth.succ)) (by kernel_rfl) (by kernel_rfl) (by kernel_rfl) (by exact fun _ _ _ h => h) (y_move (.slice (some ⟨g, 0, none⟩) n c) rfl rfl (by rfl)) ?_
          refine wpAny_takeN (i := 11) (by repeat (first | exact .zero _ _ | with_reducible apply Nth.succ)) (by kernel_rfl) (by kernel_rfl) (by kernel_rfl) (by exact fun _ _ _ h => h) (y_move (.int .i64 ((jp + 1 : Nat) : Int)) rfl rfl (by rfl)) ?_
          refine wpAny_takeN (i := 12) (by repeat (first | exact .zero _ _ | with_reducible apply Nth.succ)) (by kernel_rfl) (by kernel_rfl) (by kernel_rfl) (by exact fun _ _ _ h => h) (y_index E (jp + 1) rfl rfl (by rfl) (by rfl) (by omega)) ?_
          (try simp only [Act.put, List.setIfInBounds_toArray, List.set_cons_succ, List.set_cons_zero])
          (try simp only [Act.put, List.setIfInBounds_toArray, List.set_cons_succ, List.set_cons_zero])
          refine wpAny_loads (E := E) (ix := jp + 1) (jx := jp) (i := 9) (j := 13) (by repeat (first | exact .zero _ _ | with_reducible apply Nth.succ)) (by repeat (first | exact .zero _ _ | with_reducible apply Nth.succ)) rfl rfl (by kernel_rfl) (by kernel_rfl) (by kernel_rfl) (by decide) rfl rfl rfl rfl (by decide) hL (.head _) (by rfl) (by rfl) q1 q2 ?_
          (try simp only [Act.put, List.setIfInBounds_toArray, List.set_cons_succ, List.set_cons_zero])
          refine wpAny_drop 14 (by rfl) (by kernel_rfl) ?_
          simp only [List.drop_succ_cons, List.drop_zero]
          (try simp only [Act.put, List.setIfInBounds_toArray, List.set_cons_succ, List.set_cons_zero])
          refine event rfl (run_indexRow (E := E) (i := jp + 1) rfl (by rfl) (by rfl) (by omega) _) ?_
          (try simp only [Act.put, List.setIfInBounds_toArray, List.set_cons_succ, List.set_cons_zero])
          refine ev_setRow (E := E) (jp + 1) z rfl hL rfl (by rfl) rfl (by rfl) ⟨rfl, E.one _⟩ (List.getElem?_eq_some_iff.1 q2).1 (.here _) ?_
          clear hL
          intro wS hL
          (try simp only [Act.put, List.setIfInBounds_toArray, List.set_cons_succ, List.set_cons_zero])
          refine event rfl (run_indexRow (E := E) (i := jp) rfl (by rfl) (by rfl) (by omega) _) ?_
          (try simp only [Act.put, List.setIfInBounds_toArray, List.set_cons_succ, List.set_cons_zero])
          refine ev_setRow (E := E) (jp) y rfl hL rfl (by rfl) rfl (by rfl) ⟨rfl, E.one _⟩ (by rw [List.length_set]; exact (List.getElem?_eq_some_iff.1 q1).1) (.here _) ?_
          clear hL
          intro wS hL
          (try simp only [Act.put, List.setIfInBounds_toArray, List.set_cons_succ, List.set_cons_zero])
          rw [q3, HE9.out] at hL
          go_wp2
          go_roundw
          case rel => exact ⟨C1', z :: C2, jp, rfl, Lib.hid ⟨by rw [HI.out.1]; simp, by have := HI.out; simp at this; omega⟩, hL⟩
          case measure => simp [intOf]
end Go.Proofs.YtebpacmhdkgfeaaDoor.SortEv
