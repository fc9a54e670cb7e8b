/- Regions that draw their order: reads first, then a chain that writes. Over any program. -/
import Derived.Test.YtebpacmhdkgfeaaDoorLoc3
import Derived.StillTailTactics
namespace Go.Proofs.YtebpacmhdkgfeaaDoor
open Go.RowKit
section
variable {P : Program} {ops : Array Oper} {rest : List Oper} {o : Oper} {a : Act} {Qs : Act → Prop} {Q : Exit → Act → World → Prop} {W w0 : World} {M : Nat → Prop} {l : List Item}
theorem region_tail {id : Nat} {ol : List Oper} (n : Nat) (hm : P.follows .mixedOrders = true) (hB : Region.lexTailB .any ol.toArray n = true) (hL : Loc w0 M W l)
    (h : ∀ w1, Loc w0 M w1 l → Below W.heap.size W w1 → w1.heap.size = W.heap.size → wpStill P ol.toArray w1 (fun a' => wpList P ol.toArray Q (ol.drop n) a' w1) (ol.take n) a) : (Code.region id ol.toArray true).wp P Q a W :=
  wp_region_still_tail n hm hB (h { W with drawn := W.drawn + 1 } ⟨⟨hL.mod.os, hL.mod.tape, hL.mod.output, hL.mod.size, hL.mod.block⟩, fun i hi => (hL.at_ i hi).keep (w' := { W with drawn := W.drawn + 1 }) (Nat.le_refl _) fun _ _ => rfl, hL.new, hL.apart⟩ ⟨rfl, rfl, rfl, Nat.le_refl _, fun _ _ => rfl⟩ rfl)
theorem still_ev (hgd : o.guard = none) {v : Value} (hrun : (execOp a.eval o).run P W = .ok (.value v) W) (h : wpStill P ops W Qs rest (a.put o.dst v)) : wpStill P ops W Qs (o :: rest) a :=
  wpStill_step fun K hK => by
    have hw : Region.wanted o (yielded ops a.tmps) = true := by simp [Region.wanted, hgd]
    rw [if_pos hw]
    unfold Oper.still
    rw [hrun]
    exact ⟨rfl, hK _ h⟩
theorem sLoad {t : TypeId} {x : Operand} (_hg : o.guard = none) (_ho : o.op = .load t x) (h : wpStill P ops W Qs (o :: rest) a) : wpStill P ops W Qs (o :: rest) a := h
theorem still_load1L {ty : TypeId} {x : Operand} {g j : Nat} {cs : List Value} {v : Value} {t : TypeId} [ha : OneT P ty] (hgd : o.guard = none) (hL : Loc w0 M W l) (ho : o.op = .load ty x) (hx : a.eval x = .pointer (some ⟨g, j, none⟩))
    (hm : var g cs t ∈ l) (hv : cs[j]? = some v) (h : wpStill P ops W Qs rest (a.put o.dst v)) : wpStill P ops W Qs (o :: rest) a := by
  have hc : W.cell? ⟨g, j, none⟩ = some v := by rw [(hL.box hm).cell j]; simpa using hv
  refine still_ev hgd (v := v) ?_ h
  unfold execOp
  simp only [ho, hx, Instr.loadAt, Instr.sureAddr, Sem.run_bind, Sem.run_pure, Result.andThen_ok, run_loadVar_cell ha W _ v hc]
theorem still_loadAllL {ty : TypeId} {x : Operand} {n g : Nat} {cs : List Value} {t : TypeId} [ha : AggT P ty] [hn : SizeT P ty n] (hgd : o.guard = none) (hL : Loc w0 M W l) (ho : o.op = .load ty x) (hx : a.eval x = .pointer (some ⟨g, 0, none⟩))
    (hm : var g cs t ∈ l) (hs : cs.length = n) (h : wpStill P ops W Qs rest (a.put o.dst (.agg cs.toArray))) : wpStill P ops W Qs (o :: rest) a := by
  obtain ⟨d, hu, hd⟩ := isRow_of ha.agg
  have hr : W.rangeAt g 0 cs := fun k v hv => by rw [(hL.box hm).cell (0 + k)]; simpa using hv
  refine still_ev hgd (v := .agg cs.toArray) ?_ h
  unfold execOp
  simp only [ho, hx, Instr.loadAt, Instr.sureAddr, Sem.run_bind, Sem.run_pure, Result.andThen_ok, run_loadVar_mid W g 0 ty cs d hr hu hd (by rw [hs]; exact hn.size)]
theorem still_loadL {ty : TypeId} {x : Operand} {n g j : Nat} {cs vs : List Value} {t : TypeId} [ha : AggT P ty] [hn : SizeT P ty n] (hgd : o.guard = none) (hL : Loc w0 M W l) (ho : o.op = .load ty x) (hx : a.eval x = .pointer (some ⟨g, j, none⟩))
    (hm : var g cs t ∈ l) (hs : Seg cs j n vs) (h : wpStill P ops W Qs rest (a.put o.dst (.agg vs.toArray))) : wpStill P ops W Qs (o :: rest) a := by
  obtain ⟨d, hu, hd⟩ := isRow_of ha.agg
  refine still_ev hgd (v := .agg vs.toArray) ?_ h
  unfold execOp
  simp only [ho, hx, Instr.loadAt, Instr.sureAddr, Sem.run_bind, Sem.run_pure, Result.andThen_ok, run_loadVar_mid W g j ty vs d (range_of_box (hL.box hm) hs) hu hd (by rw [hs.len]; exact hn.size)]
end

/-! ### 'x.f = append(x.f, y)': two loads, a literal, and the chain behind them -/
section
variable {P : Program} {md : Region.Mode} {ops : Array Oper} {Q : Exit → Act → World → Prop}
theorem region_any {id : Nat} {ol : List Oper} {Q : Exit → Act → World → Prop} {a : Act} {W w0 : World} {M : Nat → Prop} {l : List Item} (hm : P.follows .mixedOrders = true) (hL : Loc w0 M W l)
    (h : ∀ w1, Loc w0 M w1 l → Below W.heap.size W w1 → w1.heap.size = W.heap.size → wpAny P .any ol.toArray Q ol.toArray.size (Array.replicate ol.toArray.size false) a w1) : (Code.region id ol.toArray true).wp P Q a W :=
  wp_region_any hm (h { W with drawn := W.drawn + 1 } ⟨⟨hL.mod.os, hL.mod.tape, hL.mod.output, hL.mod.size, hL.mod.block⟩, fun i hi => (hL.at_ i hi).keep (w' := { W with drawn := W.drawn + 1 }) (Nat.le_refl _) fun _ _ => rfl, hL.new, hL.apart⟩ ⟨rfl, rfl, rfl, Nat.le_refl _, fun _ _ => rfl⟩ rfl)
theorem wpAny_drop {ol : List Oper} {f : Nat} {listed : Array Bool} {a : Act} {w : World} (k : Nat) (hf : (ol.drop k).length = f) (hB : Region.seqB md ol.toArray f k listed = true) (h : wpList P ol.toArray Q (ol.drop k) a w) : wpAny P md ol.toArray Q f listed a w := by
  subst hf
  exact wpAny_of_seq _ k listed a w (fun j => by simp [List.getElem?_drop]) hB h
theorem wpOp_run {i : Nat} {o : Oper} {a : Act} {w w' : World} {v : Value} {K : Act → World → Prop} (hi : ops[i]? = some o) (hg : o.guard = none) (hr : (execOp a.eval o).run P w = .ok (.value v) w') (h : K (a.put o.dst v) w') : wpOp P ops Q i K a w := by
  have hw : Region.wanted o (yielded ops a.tmps) = true := by simp [Region.wanted, hg]
  unfold wpOp
  simp only [hi, hw, if_true]
  refine .inl ?_
  unfold Oper.wp
  rw [hr]
  exact h
theorem wpAny_fork {f i j k : Nat} {oi oj ok : Oper} {listed : Array Bool} {a : Act} {w w' : World} {vi vj vk : Value} (hi : ops[i]? = some oi) (hj : ops[j]? = some oj) (hk : ops[k]? = some ok) (gi : oi.guard = none) (gj : oj.guard = none) (gk : ok.guard = none)
    (r1 : Region.ready md ops listed = [i, j]) (r2 : Region.ready md ops (listed.setIfInBounds i true) = [j]) (r3 : Region.ready md ops (listed.setIfInBounds j true) = [i, k])
    (r4 : Region.ready md ops ((listed.setIfInBounds i true).setIfInBounds j true) = [k]) (r6 : Region.ready md ops ((listed.setIfInBounds j true).setIfInBounds k true) = [i])
    (nij : i ≠ j) (nik : i ≠ k) (dij : oi.dst ≠ oj.dst) (dik : oi.dst ≠ ok.dst)
    (hvi : (execOp a.eval oi).run P w = .ok (.value vi) w) (hvi2 : (execOp (a.put oj.dst vj).eval oi).run P w = .ok (.value vi) w) (hvi3 : (execOp ((a.put oj.dst vj).put ok.dst vk).eval oi).run P w' = .ok (.value vi) w')
    (hvj : (execOp a.eval oj).run P w = .ok (.value vj) w) (hvj2 : (execOp (a.put oi.dst vi).eval oj).run P w = .ok (.value vj) w)
    (hvk : (execOp ((a.put oi.dst vi).put oj.dst vj).eval ok).run P w = .ok (.value vk) w') (hvk2 : (execOp (a.put oj.dst vj).eval ok).run P w = .ok (.value vk) w')
    (H : wpAny P md ops Q f (((listed.setIfInBounds i true).setIfInBounds j true).setIfInBounds k true) (((a.put oi.dst vi).put oj.dst vj).put ok.dst vk) w') : wpAny P md ops Q (f + 3) listed a w := by
  have c1 : (a.put oj.dst vj).put oi.dst vi = (a.put oi.dst vi).put oj.dst vj := Act.put_comm a vj vi (fun d h1 h2 => dij (h2.trans h1.symm))
  have c2 : ((a.put oj.dst vj).put ok.dst vk).put oi.dst vi = ((a.put oi.dst vi).put oj.dst vj).put ok.dst vk := by
    rw [Act.put_comm _ vk vi (fun d h1 h2 => dik (h2.trans h1.symm)), c1]
  have l1 : (listed.setIfInBounds j true).setIfInBounds i true = (listed.setIfInBounds i true).setIfInBounds j true := Array.setIfInBounds_comm _ _ nij.symm
  have l2 : ((listed.setIfInBounds j true).setIfInBounds k true).setIfInBounds i true = ((listed.setIfInBounds i true).setIfInBounds j true).setIfInBounds k true := by
    rw [Array.setIfInBounds_comm _ _ nik.symm, l1]
  refine wpAny_all r1 (by simp) fun x hx => ?_
  rcases List.mem_cons.1 hx with rfl | hx
  · refine wpOp_run hi gi hvi (wpAny_all r2 (by simp) fun y hy => ?_)
    obtain rfl := List.mem_singleton.1 hy
    refine wpOp_run hj gj hvj2 (wpAny_all r4 (by simp) fun z hz => ?_)
    obtain rfl := List.mem_singleton.1 hz
    exact wpOp_run hk gk hvk H
  · obtain rfl := List.mem_singleton.1 hx
    refine wpOp_run hj gj hvj (wpAny_all r3 (by simp) fun y hy => ?_)
    rcases List.mem_cons.1 hy with rfl | hy
    · refine wpOp_run hi gi hvi2 ?_
      rw [c1, l1]
      refine wpAny_all r4 (by simp) fun z hz => ?_
      obtain rfl := List.mem_singleton.1 hz
      exact wpOp_run hk gk hvk H
    · obtain rfl := List.mem_singleton.1 hy
      refine wpOp_run hk gk hvk2 (wpAny_all r6 (by simp) fun z hz => ?_)
      obtain rfl := List.mem_singleton.1 hz
      refine wpOp_run hi gi hvi3 ?_
      rw [c2, l2]
      exact H
end
section
variable {P : Program} {o : Oper} {a : Act} {W w0 : World} {M : Nat → Prop} {l : List Item}
theorem Loc.allocd {cs : List Value} {t : TypeId} (hL : Loc w0 M W l) : Loc w0 M (W.alloc (.cells cs.toArray t)) (var W.heap.size cs t :: l) := hL.callVar (bl_alloc (Below.refl _ _) _) (Box.new W _ t) (Nat.le_refl _)
theorem run_load1L {ty : TypeId} {x : Operand} {g j : Nat} {cs : List Value} {v : Value} {t : TypeId} (ha : OneT P ty) (hL : Loc w0 M W l) (ho : o.op = .load ty x) (hx : a.eval x = .pointer (some ⟨g, j, none⟩))
    (hm : var g cs t ∈ l) (hv : cs[j]? = some v) : (execOp a.eval o).run P W = .ok (.value v) W := by
  have hc : W.cell? ⟨g, j, none⟩ = some v := by rw [(hL.box hm).cell j]; simpa using hv
  unfold execOp
  simp only [ho, hx, Instr.loadAt, Instr.sureAddr, Sem.run_bind, Sem.run_pure, Result.andThen_ok, run_loadVar_cell ha W _ v hc]
theorem run_loadAllL {ty : TypeId} {x : Operand} {n g : Nat} {cs : List Value} {t : TypeId} (ha : AggT P ty) (hn : SizeT P ty n) (hL : Loc w0 M W l) (ho : o.op = .load ty x) (hx : a.eval x = .pointer (some ⟨g, 0, none⟩))
    (hm : var g cs t ∈ l) (hs : cs.length = n) : (execOp a.eval o).run P W = .ok (.value (.agg cs.toArray)) W := by
  obtain ⟨d, hu, hd⟩ := isRow_of ha.agg
  have hr : W.rangeAt g 0 cs := fun k v hv => by rw [(hL.box hm).cell (0 + k)]; simpa using hv
  unfold execOp
  simp only [ho, hx, Instr.loadAt, Instr.sureAddr, Sem.run_bind, Sem.run_pure, Result.andThen_ok, run_loadVar_mid W g 0 ty cs d hr hu hd (by rw [hs]; exact hn.size)]
theorem eval_put_ne {p : Tmp} {d : Option Tmp} {v : Value} (h : d ≠ some p) : (a.put d v).eval (.tmp p) = a.eval (.tmp p) := by
  cases d with
  | none => rfl
  | some d =>
    have hne : d ≠ p := fun e => h (by rw [e])
    simp [Act.put, Act.eval, Array.getElem?_setIfInBounds, hne]
theorem eval_put_self {p : Tmp} {v : Value} (h : p < a.tmps.size) : (a.put (some p) v).eval (.tmp p) = v := by
  simp [Act.put, Act.eval, h]
theorem size_put {d : Option Tmp} {v : Value} : (a.put d v).tmps.size = a.tmps.size := by
  cases d <;> simp [Act.put]
inductive Nth : List Oper → Nat → Oper → Prop where
  | zero (o : Oper) (l : List Oper) : Nth (o :: l) 0 o
  | succ {x o : Oper} {l : List Oper} {i : Nat} : Nth l i o → Nth (x :: l) (i + 1) o
theorem Nth.get {l : List Oper} {i : Nat} {o : Oper} (h : Nth l i o) : l.toArray[i]? = some o := by
  have : l[i]? = some o := by
    induction h with
    | zero o l => rfl
    | succ _ ih => simpa using ih
  simpa using this
theorem wpAny_takeN {md : Region.Mode} {ol : List Oper} {Q : Exit → Act → World → Prop} {i : Nat} {oi : Oper} {v : Value} {fuel : Nat} {listed : Array Bool} (hi : Nth ol i oi)
    (hs : Region.noSelect ol.toArray = true) (hf : Region.free md ol.toArray listed i = true) (hr : (Region.ready md ol.toArray listed).contains i = true)
    (hQ : ∀ c a w, Q (.panic c) (a.put oi.dst v) w → Q (.panic c) a w) (hy : Yields P ol.toArray oi v a)
    (h : wpAny P md ol.toArray Q fuel (listed.setIfInBounds i true) (a.put oi.dst v) W) : wpAny P md ol.toArray Q (fuel + 1) listed a W := wpAny_take hi.get hs hf hr hQ hy h
/-- 'x.f = append(x.f, y)': the field's value and y's whole are loaded, y is laid into a literal, in whichever order. -/
theorem wpAny_app {md : Region.Mode} {ol : List Oper} {Q : Exit → Act → World → Prop} {f i j k : Nat} {oi oj ok : Oper} {listed : Array Bool} {ti tj tl e : TypeId} {pi pj dj : Tmp} {gi ji gj n : Nat} {ci cs : List Value} {vi z : Value} {T1 T2 : TypeId}
    (hi : Nth ol i oi) (hj : Nth ol j oj) (hk : Nth ol k ok) (ngi : oi.guard = none) (ngj : oj.guard = none) (ngk : ok.guard = none)
    (r1 : Region.ready md ol.toArray listed = [i, j]) (r2 : Region.ready md ol.toArray (listed.setIfInBounds i true) = [j]) (r3 : Region.ready md ol.toArray (listed.setIfInBounds j true) = [i, k])
    (r4 : Region.ready md ol.toArray ((listed.setIfInBounds i true).setIfInBounds j true) = [k]) (r6 : Region.ready md ol.toArray ((listed.setIfInBounds j true).setIfInBounds k true) = [i])
    (nij : i ≠ j) (nik : i ≠ k) (oi1 : oi.op = .load ti (.tmp pi)) (oj1 : oj.op = .load tj (.tmp pj)) (ok1 : ok.op = .buildSlice tl 1 #[(0, .tmp dj)]) (dj1 : oj.dst = some dj)
    (dij : oi.dst ≠ oj.dst) (dik : oi.dst ≠ ok.dst) (e1 : oj.dst ≠ some pi) (e2 : ok.dst ≠ some pi) (e3 : oi.dst ≠ some pj) (hsz : dj < a.tmps.size)
    (hti : OneT P ti) (htj : AggT P tj) (hnj : SizeT P tj n) (htl : SliceT P tl e) (hz : ZeroT P e z) (hse : SizeT P e n) (hL : Loc w0 M W l)
    (xi : a.eval (.tmp pi) = .pointer (some ⟨gi, ji, none⟩)) (xj : a.eval (.tmp pj) = .pointer (some ⟨gj, 0, none⟩)) (mi : var gi ci T1 ∈ l) (mj : var gj cs T2 ∈ l) (vi1 : ci[ji]? = some vi) (hs : cs.length = n)
    (hn : decide (1 * n ≤ 16777216) = true) (h0 : decide (0 < 1 * n) = true) (hfill : Instr.fill (fun i => some (i * n, n)) ((Array.range (1 * n)).map fun j => z.cells[j % z.cells.size]!) [(0, Value.agg cs.toArray)] = some cs.toArray)
    (H : ∀ g w1, Loc w0 M w1 (var g cs e :: l) → wpAny P md ol.toArray Q f (((listed.setIfInBounds i true).setIfInBounds j true).setIfInBounds k true) (((a.put oi.dst vi).put oj.dst (.agg cs.toArray)).put ok.dst (.slice (some ⟨g, 0, none⟩) 1 1)) w1) : wpAny P md ol.toArray Q (f + 3) listed a W := by
  have lit : ∀ b : Act, b.eval (.tmp dj) = .agg cs.toArray → (execOp b.eval ok).run P W = .ok (.value (.slice (some ⟨W.heap.size, 0, none⟩) 1 1)) (W.alloc (.cells cs.toArray e)) := fun b hb => by
    obtain ⟨inf, hinf, hzz⟩ := Option.map_eq_some_iff.1 hz.zero
    have hsz : inf.size = n := by have := hse.size; simpa [hinf] using this
    have h1 : ¬ n > 2 ^ 24 := by have := of_decide_eq_true hn; omega
    have h2 : ¬ n = 0 := by have := of_decide_eq_true h0; omega
    simp only [Nat.one_mul] at hfill
    simp [execOp, ok1, hb, Instr.buildSlice, run_underlying htl.slice, sizeOf, typeInfo, hinf, hsz, zeroValue, hzz, h1, h2, hfill, newRow]
  refine wpAny_fork hi.get hj.get hk.get ngi ngj ngk r1 r2 r3 r4 r6 nij nik dij dik (vi := vi) (vj := .agg cs.toArray) (run_load1L hti hL oi1 xi mi vi1) (run_load1L hti hL oi1 (by rw [eval_put_ne e1]; exact xi) mi vi1)
    (run_load1L hti hL.allocd oi1 (by rw [eval_put_ne e2, eval_put_ne e1]; exact xi) (.tail _ mi) vi1) (run_loadAllL htj hnj hL oj1 xj mj hs) (run_loadAllL htj hnj hL oj1 (by rw [eval_put_ne e3]; exact xj) mj hs)
    (lit _ (by rw [dj1]; exact eval_put_self (by rw [size_put]; exact hsz))) (lit _ (by rw [dj1]; exact eval_put_self hsz)) (H _ _ hL.allocd)
end
end Go.Proofs.YtebpacmhdkgfeaaDoor
