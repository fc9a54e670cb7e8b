/- Events on the elements of a row: addresses, loads, exchanges. Over any program. -/
import Derived.Test.YtebpacmhdkgfeaaDoorLoc6
import Derived.Shelf.Abstract
namespace Go.Proofs.YtebpacmhdkgfeaaDoor
open Go.RowKit

section
variable {P : Program} {ops : Array Oper} {rest : List Oper} {o : Oper} {a : Act} {Q : Exit → Act → World → Prop} {Qs : Act → Prop} {K : Act → Prop} {C : World → Prop} {W w0 : World} {M : Nat → Prop} {l l' : List Item}
variable {α : Type} {E : Enc α} {T te : TypeId}
theorem run_indexRow {x ix : Operand} {g n c i : Nat} {k : IntKind} [ht : SliceT P te T] [hsz : SizeT P T E.sz] (ho : o.op = .indexAddr te x ix) (hx : a.eval x = .slice (some ⟨g, 0, none⟩) n c) (hix : a.eval ix = .int k i) (hi : i < n) (w : World) :
    (execOp a.eval o).run P w = .ok (.value (.pointer (some ⟨g, i * E.sz, none⟩))) w := by
  have := run_index (P := P) (e := T) (sz := E.sz) ho hx hix hi w
  rwa [Nat.zero_add] at this
theorem quiet_indexRow (E : Enc α) {x ix : Operand} {g n c i : Nat} {k : IntKind} [ht : SliceT P te T] [hsz : SizeT P T E.sz] (ho : o.op = .indexAddr te x ix) (hx : a.eval x = .slice (some ⟨g, 0, none⟩) n c) (hix : a.eval ix = .int k i) (hi : i < n)
    (h : K (a.put o.dst (.pointer (some ⟨g, i * E.sz, none⟩)))) : o.quiet P a C K := by
  refine ⟨_, fun w hw => ?_, h⟩
  unfold Oper.quietAt
  rw [run_indexRow (E := E) ho hx hix hi w]
  exact ⟨rfl, rfl⟩
theorem row_range {w : World} {base g n c i : Nat} {te : TypeId} {xs : List α} {y : α} (h : E.O w base te (.slice (some ⟨g, 0, none⟩) n c) xs) (hy : xs[i]? = some y) : w.rangeAt g (i * E.sz) (E.cells y) := by
  obtain ⟨hi, rfl⟩ := List.getElem?_eq_some_iff.1 hy
  obtain ⟨ao, c', e1, hel⟩ := R_elem h.read
  obtain ⟨g', off, e2, hr⟩ := hel i hi
  injection e1 with e1 _ _
  rw [e2] at e1
  injection e1 with e1
  injection e1 with e3 e4
  subst e3 e4
  rwa [Nat.zero_add] at hr
theorem run_loadRow {x : Operand} {base g n c i : Nat} {te' : TypeId} {xs : List α} {y : α} [ha : AggT P T] [hn : SizeT P T E.sz] (hO : E.O W base te' (.slice (some ⟨g, 0, none⟩) n c) xs) (ho : o.op = .load T x) (hx : a.eval x = .pointer (some ⟨g, i * E.sz, none⟩)) (hy : xs[i]? = some y) :
    (execOp a.eval o).run P W = .ok (.value (.agg (E.cells y).toArray)) W := by
  obtain ⟨d, hu, hd⟩ := isRow_of ha.agg
  unfold execOp
  simp only [ho, hx, Instr.loadAt, Instr.sureAddr, Sem.run_bind, Sem.run_pure, Result.andThen_ok, run_loadVar_mid W g (i * E.sz) T (E.cells y) d (row_range hO hy) hu hd (by rw [E.len]; exact hn.size)]
theorem quiet_loadRow {x : Operand} {base g n c i : Nat} {te' : TypeId} {xs : List α} {y : α} [ha : AggT P T] [hn : SizeT P T E.sz] (hL : Loc w0 M W l) (hm : row E base te' (.slice (some ⟨g, 0, none⟩) n c) xs ∈ l) (ho : o.op = .load T x) (hx : a.eval x = .pointer (some ⟨g, i * E.sz, none⟩)) (hy : xs[i]? = some y)
    (h : K (a.put o.dst (.agg (E.cells y).toArray))) : o.quiet P a (fun w' => ∃ e : Ext W, w' = e.w) K := by
  refine ⟨.agg (E.cells y).toArray, ?_, h⟩
  rintro _ ⟨e, rfl⟩
  unfold Oper.quietAt
  rw [run_loadRow (E := E) ((hL.call e.ok).own hm) ho hx hy]
  exact ⟨rfl, rfl⟩
theorem run_setRow {p x : Operand} {base g n c i : Nat} {te' : TypeId} {xs : List α} {y : α} [hn : SizeT P T E.sz] (hL : Loc w0 M W l) (hs : Swap (row E base te' (.slice (some ⟨g, 0, none⟩) n c) xs) (row E base te' (.slice (some ⟨g, 0, none⟩) n c) (xs.set i y)) l l')
    (ho : o.op = .store T p x) (hp : a.eval p = .pointer (some ⟨g, i * E.sz, none⟩)) (hx : a.eval x = .agg (E.cells y).toArray) (hi : i < xs.length) :
    ∃ w1, (execOp a.eval o).run P W = .ok .skip w1 ∧ Loc w0 M w1 l' := by
  obtain ⟨w1, hst, hO, hm⟩ := O_set (P := P) (hL.own hs.mem) i hi y
  obtain ⟨inf, hii, hsz⟩ := Option.map_eq_some_iff.1 hn.size
  have hst2 : (storeVar T ⟨g, i * E.sz, none⟩ (.agg (E.cells y).toArray)).run P W = .ok () w1 := by
    simp [storeVar, sizeOf, typeInfo, hii, hsz, Value.cells, E.len, hst]
  refine ⟨w1, ?_, hL.swap hs (hm.mono fun k _ hk => ?_) (row_at hO) fun _ hk => .inl hk⟩
  · unfold execOp
    simp only [ho, hp, hx, Instr.storeAt, Instr.sureAddr, Sem.run_bind, Sem.run_pure, Result.andThen_ok, hst2]
  · show (Value.slice (some ⟨g, 0, none⟩) n c).ownBlock = some k
    rw [hk]; rfl
theorem wpOp_skip {i : Nat} {w w' : World} {K : Act → World → Prop} (hi : ops[i]? = some o) (hg : o.guard = none) (hr : (execOp a.eval o).run P w = .ok .skip w') (h : K (a.put o.dst undef) w') : wpOp P ops Q i K a w := by
  have hw : Region.wanted o (yielded ops a.tmps) = true := by simp [Region.wanted, hg]
  unfold wpOp
  simp only [hi, hw, if_true]
  refine .inl ?_
  unfold Oper.wp
  rw [hr]
  exact h
end
section
variable {P : Program} {ops : Array Oper} {o : Oper} {a : Act}
theorem run_addN (t : TypeId) (m n : Nat) (h : m + n ≤ 9223372036854775807) (w : World) : (binOp .add t (.int .i64 m) (.int .i64 n)).run P w = .ok (.int .i64 ((m + n : Nat) : Int)) w := by
  have h1 : ((m : Int) + (n : Int)) ≤ 9223372036854775807 := by omega
  simp [go_sem]
  rw [IntKind.wrap_i64]; omega
theorem run_subN (t : TypeId) (m n : Nat) (h : n ≤ m) (hm : m ≤ 9223372036854775807) (w : World) : (binOp .sub t (.int .i64 m) (.int .i64 n)).run P w = .ok (.int .i64 ((m - n : Nat) : Int)) w := by
  simp [go_sem]
  rw [IntKind.wrap_i64]; omega
theorem y_move {x : Operand} (v : Value) (hg : o.guard = none) (ho : o.op = .move x) (hx : a.eval x = v) : Yields P ops o v a := by
  refine .inl ⟨by simp [Region.wanted, hg], fun w => ?_⟩
  simp [execOp, ho, hx]
theorem y_add {t r : TypeId} {x y : Operand} (m n : Nat) (hg : o.guard = none) (ho : o.op = .binOp .add t x y r) (hx : a.eval x = .int .i64 m) (hy : a.eval y = .int .i64 n) (h : m + n ≤ 9223372036854775807) : Yields P ops o (.int .i64 ((m + n : Nat) : Int)) a := by
  refine .inl ⟨by simp [Region.wanted, hg], fun w => ?_⟩
  simp [execOp, ho, hx, hy, eqGuard, Sem.run_bind, run_addN t m n h w]
theorem y_sub {t r : TypeId} {x y : Operand} (m n : Nat) (hg : o.guard = none) (ho : o.op = .binOp .sub t x y r) (hx : a.eval x = .int .i64 m) (hy : a.eval y = .int .i64 n) (h : n ≤ m) (hm : m ≤ 9223372036854775807) : Yields P ops o (.int .i64 ((m - n : Nat) : Int)) a := by
  refine .inl ⟨by simp [Region.wanted, hg], fun w => ?_⟩
  simp [execOp, ho, hx, hy, eqGuard, Sem.run_bind, run_subN t m n h hm w]
theorem y_index {α : Type} (E : Enc α) {T te : TypeId} {x ix : Operand} {g n c : Nat} {k : IntKind} (i : Nat) [ht : SliceT P te T] [hsz : SizeT P T E.sz] (hg : o.guard = none) (ho : o.op = .indexAddr te x ix) (hx : a.eval x = .slice (some ⟨g, 0, none⟩) n c) (hix : a.eval ix = .int k i) (hi : i < n) :
    Yields P ops o (.pointer (some ⟨g, i * E.sz, none⟩)) a := .inl ⟨by simp [Region.wanted, hg], fun w => run_indexRow ho hx hix hi w⟩
end
/-- Two loads, in whichever order. -/
theorem wpAny_loads {P : Program} {md : Region.Mode} {ol : List Oper} {Q : Exit → Act → World → Prop} {a : Act} {W w0 : World} {M : Nat → Prop} {l : List Item} {α : Type} {E : Enc α} {T : TypeId} {base g n c ix jx : Nat} {te : TypeId} {xs : List α} {x y : α} [ha : AggT P T] [hn : SizeT P T E.sz]
    {f i j : Nat} {oi oj : Oper} {listed : Array Bool} {pi pj di dj : Tmp} (hi : Nth ol i oi) (hj : Nth ol j oj) (gi : oi.guard = none) (gj : oj.guard = none)
    (r1 : Region.ready md ol.toArray listed = [i, j]) (r2 : Region.ready md ol.toArray (listed.setIfInBounds i true) = [j]) (r3 : Region.ready md ol.toArray (listed.setIfInBounds j true) = [i])
    (nij : i ≠ j) (oi1 : oi.op = .load T (.tmp pi)) (oj1 : oj.op = .load T (.tmp pj)) (di1 : oi.dst = some di) (dj1 : oj.dst = some dj)
    (nd : (decide (di ≠ dj ∧ di ≠ pj ∧ dj ≠ pi)) = true)
    (hL : Loc w0 M W l) (hmem : row E base te (.slice (some ⟨g, 0, none⟩) n c) xs ∈ l) (xi : a.eval (.tmp pi) = .pointer (some ⟨g, jx * E.sz, none⟩)) (xj : a.eval (.tmp pj) = .pointer (some ⟨g, ix * E.sz, none⟩)) (hyj : xs[jx]? = some y) (hxi : xs[ix]? = some x)
    (H : wpAny P md ol.toArray Q f ((listed.setIfInBounds i true).setIfInBounds j true) ((a.put (some di) (.agg (E.cells y).toArray)).put (some dj) (.agg (E.cells x).toArray)) W) :
    wpAny P md ol.toArray Q (f + 2) listed a W := by
  simp only [decide_eq_true_eq] at nd
  obtain ⟨n1, n3, n6⟩ := nd
  have ne : ∀ {p q : Tmp}, p ≠ q → (some p : Option Tmp) ≠ some q := fun h e => h (Option.some.inj e)
  have c1 : (a.put (some dj) (.agg (E.cells x).toArray)).put (some di) (.agg (E.cells y).toArray) = (a.put (some di) (.agg (E.cells y).toArray)).put (some dj) (.agg (E.cells x).toArray) :=
    Act.put_comm a _ _ (fun d h1 h2 => n1 (Option.some.inj (h2.trans h1.symm)))
  have l1' : (listed.setIfInBounds j true).setIfInBounds i true = (listed.setIfInBounds i true).setIfInBounds j true := Array.setIfInBounds_comm _ _ nij.symm
  refine wpAny_all r1 (by simp) fun z hz => ?_
  rcases List.mem_cons.1 hz with rfl | hz
  · refine wpOp_run hi.get gi (run_loadRow (hL.own hmem) oi1 xi hyj) (wpAny_all r2 (by simp) fun z hz => ?_)
    obtain rfl := List.mem_singleton.1 hz
    rw [di1]
    refine wpOp_run hj.get gj (run_loadRow (hL.own hmem) oj1 (by rw [eval_put_ne (ne n3)]; exact xj) hxi) ?_
    rw [dj1]
    exact H
  · obtain rfl := List.mem_singleton.1 hz
    refine wpOp_run hj.get gj (run_loadRow (hL.own hmem) oj1 xj hxi) (wpAny_all r3 (by simp) fun z hz => ?_)
    obtain rfl := List.mem_singleton.1 hz
    rw [dj1]
    refine wpOp_run hi.get gi (run_loadRow (hL.own hmem) oi1 (by rw [eval_put_ne (ne n6)]; exact xi) hyj) ?_
    rw [di1, c1, l1']
    exact H
/-- Two stores, one behind the other, and the end. -/
theorem wpAny_stores {P : Program} {md : Region.Mode} {ol : List Oper} {Q : Exit → Act → World → Prop} {a : Act} {W w0 : World} {M : Nat → Prop} {l l1 l2 : List Item} {α : Type} {E : Enc α} {T : TypeId} {base g n c ix jx : Nat} {te : TypeId} {xs : List α} {x y : α} [hn : SizeT P T E.sz]
    {f k m : Nat} {ok om : Oper} {listed : Array Bool} {pk pm di dj : Tmp} (hk : Nth ol k ok) (hm : Nth ol m om) (gk : ok.guard = none) (gm : om.guard = none)
    (r4 : Region.ready md ol.toArray listed = [k]) (r5 : Region.ready md ol.toArray (listed.setIfInBounds k true) = [m]) (r6 : Region.ready md ol.toArray ((listed.setIfInBounds k true).setIfInBounds m true) = [])
    (ok1 : ok.op = .store T (.tmp pk) (.tmp di)) (om1 : om.op = .store T (.tmp pm) (.tmp dj)) (dk1 : ok.dst = none) (dm1 : om.dst = none)
    (hL : Loc w0 M W l) (hli : ix < xs.length) (hlj : jx < xs.length)
    (xk : a.eval (.tmp pk) = .pointer (some ⟨g, ix * E.sz, none⟩)) (xm : a.eval (.tmp pm) = .pointer (some ⟨g, jx * E.sz, none⟩)) (ei : a.eval (.tmp di) = .agg (E.cells y).toArray) (ej : a.eval (.tmp dj) = .agg (E.cells x).toArray)
    (hs1 : Swap (row E base te (.slice (some ⟨g, 0, none⟩) n c) xs) (row E base te (.slice (some ⟨g, 0, none⟩) n c) (xs.set ix y)) l l1) (hs2 : Swap (row E base te (.slice (some ⟨g, 0, none⟩) n c) (xs.set ix y)) (row E base te (.slice (some ⟨g, 0, none⟩) n c) ((xs.set ix y).set jx x)) l1 l2)
    (H : ∀ w1, Loc w0 M w1 l2 → Q .normal ((a.put none undef).put none undef) w1) :
    wpAny P md ol.toArray Q (f + 2) listed a W := by
  obtain ⟨w1, hr1, hL1⟩ := run_setRow (P := P) (a := a) (o := ok) (T := T) (E := E) (y := y) hL hs1 ok1 xk ei hli
  refine wpAny_all r4 (by simp) fun z hz => ?_
  obtain rfl := List.mem_singleton.1 hz
  refine wpOp_skip hk.get gk hr1 (wpAny_all r5 (by simp) fun z hz => ?_)
  obtain rfl := List.mem_singleton.1 hz
  rw [dk1]
  obtain ⟨w2, hr2, hL2⟩ := run_setRow (P := P) (a := a.put none undef) (o := om) (T := T) (E := E) (y := x) hL1 hs2 om1 (show a.eval (.tmp pm) = _ from xm) (show a.eval (.tmp dj) = _ from ej) (by rw [List.length_set]; exact hlj)
  refine wpOp_skip hm.get gm hr2 (wpAny_done r6 ?_ _)
  rw [dm1]
  exact H w2 hL2
/-- A call that turns the row at g, seen from before. -/
theorem Loc.overRow {α : Type} {E : Enc α} {w0 w w1 : World} {base g n c : Nat} {te : TypeId} {xs ys : List α} (h : Loc w0 (· = g) w [row E base te (.slice (some ⟨g, 0, none⟩) n c) xs]) (h2 : Loc w (· = g) w1 [row E base te (.slice (some ⟨g, 0, none⟩) n c) ys]) :
    Loc w0 (· = g) w1 [row E base te (.slice (some ⟨g, 0, none⟩) n c) ys] :=
  ⟨h.mod.trans h2.mod fun _ _ e => e, h2.at_, fun i hi k hk => by
    rcases h2.new i hi k hk with h3 | h3
    · exact .inl (Nat.le_trans h.size h3)
    · exact .inr h3, h2.apart⟩
end Go.Proofs.YtebpacmhdkgfeaaDoor
