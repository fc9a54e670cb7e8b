/- Texts laid together: MTail, Hld, Mrg0, ConcatPc, ConcatXt, Nest, ConcatN, JoLk, ConcatK, Has, JoW, CloJ, MapO, Pru1, Pru2, Pru3, EqJ, Fsm. -/
import Derived.Test.YtebpacmhdkgfeaaGreatJm2
import Derived.Lib.SliceRun
import Derived.Maps.Keyed
import Derived.DeepKeys4
import Derived.Deep.OwnRows
import Derived.StillTailTactics
set_option linter.unusedSimpArgs false
set_option linter.unusedVariables false
namespace Go.Proofs.YtebpacmhdkgfeaaGreat
open Go.RowKit
section
variable {P : Program} {ops : Array Oper} {md : Region.Mode} {C : World → Prop}
def headM (P : Program) (md : Region.Mode) (ops : Array Oper) (C : World → Prop) (hd : Nat → Bool) (L : Array Bool → Act → Prop) : Nat → Array Bool → Act → Prop
 | 0, done, a => L done a
 | f + 1, done, a => Region.ready md ops done ≠ [] ∧ ∀ i ∈ Region.ready md ops done, hd i = true ∧ qOp P ops C i (headM P md ops C hd L f (done.setIfInBounds i true)) a
theorem wpAny_headM {g : Nat} {hd : Nat → Bool} {L : Array Bool → Act → Prop} {Q : Exit → Act → World → Prop} (hL : ∀ done a w, C w → L done a → wpAny P md ops Q g done a w) (f : Nat) :
  ∀ (done : Array Bool) (a : Act) (w : World), C w → headM P md ops C hd L f done a → wpAny P md ops Q (f + g) done a w := by
 induction f with
 | zero => intro done a w hw h; rw [Nat.zero_add]; exact hL _ _ _ hw h
 | succ f ih =>
  intro done a w hw h
  rw [Nat.succ_add]
  exact ⟨fun h0 => absurd h0 h.1, fun i hi => wpOp_of_qOp hw (fun a' w' hw' h' => ih _ a' w' hw' h') (h.2 i hi).2⟩
structure MInv (md : Region.Mode) (ops : Array Oper) (hd tl : Nat → Bool) (done : Array Bool) : Prop where
 size : done.size = ops.size
 closed : ∀ j oj, ops[j]? = some oj → done.getD j false = true → ∀ e ∈ oj.after, Region.binds md e = true → done.getD e.on false = true
 rest : ∀ t, t < ops.size → hd t = false → tl t = false → done.getD t false = true
 tail : ∀ t, t < ops.size → tl t = true → done.getD t true = false
def sinkM (md : Region.Mode) (ops : Array Oper) (hd tl : Nat → Bool) : Bool :=
 (List.range ops.size).all fun i => !hd i || ((List.range ops.size).any fun j => decide (i < j) && (hd j && Region.waitsFor md ops j i)) || (List.range ops.size).all fun t => !tl t || Region.waitsFor md ops t i || (List.range ops.size).any fun u => tl u && Region.waitsFor md ops t u
theorem waitsM {hd tl : Nat → Bool} {done : Array Bool} (hs : sinkM md ops hd tl = true) (inv : MInv md ops hd tl done) (d : Nat) :
  ∀ i, ops.size - i = d → i < ops.size → hd i = true → done.getD i true = false → ∀ t, tl t = true → t ∉ Region.ready md ops done := by
 induction d using Nat.strongRecOn with
 | _ d ih =>
  intro i hdd hin hi hun t ht hr
  obtain ⟨_, ot, hot, hall⟩ := mem_ready.1 hr
  have htlt : t < ops.size := (Array.getElem?_eq_some_iff.1 hot).1
  have h1 := List.all_eq_true.1 hs i (List.mem_range.2 hin)
  rw [hi] at h1
  simp only [Bool.not_true, Bool.false_or, Bool.or_eq_true] at h1
  rcases h1 with h1 | h1
  ·obtain ⟨j, hj, hj2⟩ := List.any_eq_true.1 h1
   simp only [Bool.and_eq_true, decide_eq_true_eq] at hj2
   obtain ⟨oj, hoj, e, he, hb, hon⟩ := Region.waitsFor_spec hj2.2.2
   have hjlt := List.mem_range.1 hj
   cases hl : done.getD j false with
   | true =>
    have h2 := inv.closed j oj hoj hl e he hb
    rw [hon, getD_both hun] at h2
    cases h2
   | false => exact ih (ops.size - j) (by omega) j rfl hjlt hj2.2.1 (getD_in (by rw [inv.size]; omega) hl) t ht hr
  ·have h2 := List.all_eq_true.1 h1 t (List.mem_range.2 htlt)
   rw [ht] at h2
   simp only [Bool.not_true, Bool.false_or, Bool.or_eq_true] at h2
   rcases h2 with h2 | h2
   ·obtain ⟨o', ho', e, he, hb, hon⟩ := Region.waitsFor_spec h2
    obtain rfl : o' = ot := Option.some.inj (ho'.symm.trans hot)
    have h3 := hall e he hb
    rw [hon, getD_both hun] at h3
    cases h3
   ·obtain ⟨u, hu, hu2⟩ := List.any_eq_true.1 h2
    simp only [Bool.and_eq_true] at hu2
    obtain ⟨o', ho', e, he, hb, hon⟩ := Region.waitsFor_spec hu2.2
    obtain rfl : o' = ot := Option.some.inj (ho'.symm.trans hot)
    have h3 := hall e he hb
    rw [hon, getD_both (inv.tail u (List.mem_range.1 hu) hu2.1)] at h3
    cases h3
theorem MInv.ready {hd tl : Nat → Bool} {done : Array Bool} (hs : sinkM md ops hd tl = true) (inv : MInv md ops hd tl done) {i : Nat} (hi : hd i = true) (hr : i ∈ Region.ready md ops done) : ∀ j ∈ Region.ready md ops done, hd j = true := fun j hj => by
 obtain ⟨hju, oj, hoj, -⟩ := mem_ready.1 hj
 obtain ⟨hiu, oi, hoi, -⟩ := mem_ready.1 hr
 have hjlt : j < ops.size := (Array.getElem?_eq_some_iff.1 hoj).1
 have hilt : i < ops.size := (Array.getElem?_eq_some_iff.1 hoi).1
 cases h1 : hd j
 ·cases h2 : tl j
  ·have := inv.rest j hjlt h1 h2
   rw [getD_both hju] at this; cases this
  ·exact absurd hj (waitsM hs inv _ i rfl hilt hi hiu j h2)
 ·rfl
theorem MInv.set {hd tl : Nat → Bool} {done : Array Bool} (inv : MInv md ops hd tl done) {i : Nat} (hi : i ∈ Region.ready md ops done) (ht : tl i = false) : MInv md ops hd tl (done.setIfInBounds i true) := by
 obtain ⟨_, oi, hoi, hall⟩ := mem_ready.1 hi
 refine ⟨by simp [inv.size], fun j oj hj hl e he hb => ?_, fun t ht1 h1 h2 => getD_set_true (inv.rest t ht1 h1 h2), fun t ht1 h1 => ?_⟩
 ·by_cases hij : i = j
  ·subst hij
   obtain rfl : oi = oj := Option.some.inj (hoi.symm.trans hj)
   exact getD_set_true (hall e he hb)
  ·rw [getD_set_ne false hij] at hl
   exact getD_set_true (inv.closed j oj hj hl e he hb)
 ·have hne : i ≠ t := fun e => by subst e; rw [ht] at h1; cases h1
  rw [getD_set_ne true hne]
  exact inv.tail t ht1 h1
theorem headM_take {hd tl : Nat → Bool} {i : Nat} {oi : Oper} {v : Value} {L : Array Bool → Act → Prop} (hi : ops[i]? = some oi) (hsel : ∀ (j : Nat) (o : Oper) cs b, ops[j]? = some o → o.op ≠ .select cs b)
  (hs : sinkM md ops hd tl = true) (hdt : ∀ j, hd j = true → tl j = false) (hih : hd i = true) (hend : ∀ done a, L done a → ∀ j ∈ Region.ready md ops done, hd j = false) (f : Nat) :
  ∀ (done : Array Bool) (a : Act), MInv md ops hd tl done →
   (∀ j oj, ops[j]? = some oj → j ≠ i → done.getD j true = false → (∀ e ∈ oj.after, Region.binds md e = true → e.on ≠ i) → oi.apart ops oj = true) →
   i ∈ Region.ready md ops done → YieldsIn P ops C oi v a → headM P md ops C hd L f (done.setIfInBounds i true) (a.put oi.dst v) → headM P md ops C hd L (f + 1) done a := by
 induction f with
 | zero =>
  intro done a inv _ hr hy H
  refine ⟨fun h => (by rw [h] at hr; cases hr), fun j hj => ⟨inv.ready hs hih hr j hj, ?_⟩⟩
  by_cases hji : j = i
  ·subst hji; exact hy.qOp hi H
  ·have h1 := hend _ _ H j (ready_mono hj hji)
   rw [inv.ready hs hih hr j hj] at h1
   cases h1
 | succ f ih =>
  intro done a inv hfree hr hy H
  refine ⟨fun h => (by rw [h] at hr; cases hr), fun j hj => ⟨inv.ready hs hih hr j hj, ?_⟩⟩
  by_cases hji : j = i
  ·subst hji; exact hy.qOp hi H
  ·obtain ⟨hjun, oj, hoj, hall⟩ := mem_ready.1 hj
   have hnot : ∀ e ∈ oj.after, Region.binds md e = true → e.on ≠ i := fun e he hb heq => by
    have h1 := hall e he hb
    rw [heq, getD_both (mem_ready.1 hr).1] at h1
    cases h1
   have h2 := qOp_put hoj (hfree j oj hoj hji hjun hnot) (fun cs b => hsel i oi cs b hi) (fun cs b => hsel j oj cs b hoj) hy (H.2 j (ready_mono hj hji)).2
   refine qOp_mono (fun a' h3 => ih (done.setIfInBounds j true) a' (inv.set hj (hdt j (inv.ready hs hih hr j hj))) (fun q oq hq hqi hun hno => hfree q oq hq hqi ?_ hno) (ready_mono hr (Ne.symm hji)) h3.1 ?_) h2
   ·by_cases hjk : j = q
    ·subst hjk; exact hjun
    ·rw [getD_set_ne true hjk] at hun; exact hun
   ·rw [Array.setIfInBounds_comm _ _ hji]
    exact h3.2
def pickL (o : Oper) (ol : List Oper) (hs : List Nat) : List Oper := hs.map fun i => ol.getD i o
def fin (hs : List Nat) (done : Array Bool) : Array Bool := hs.foldl (fun d i => d.setIfInBounds i true) done
def lexM (md : Region.Mode) (ops : Array Oper) : List Nat → Array Bool → Bool
 | [], _ => true
 | i :: hs, done => decide (i < ops.size) && (Region.ready md ops done).contains i && Region.free md ops done i && lexM md ops hs (done.setIfInBounds i true)
def closedM (md : Region.Mode) (ops : Array Oper) (hd tl : Nat → Bool) (done : Array Bool) : Bool :=
 decide (done.size = ops.size) && ((List.range ops.size).all fun j => !(done.getD j false) || (match ops[j]? with | some oj => oj.after.all fun e => !(Region.binds md e) || done.getD e.on false | none => true)) &&
  ((List.range ops.size).all fun t => hd t || tl t || done.getD t false) && (List.range ops.size).all fun t => !tl t || !(done.getD t true)
theorem closedM_spec {hd tl : Nat → Bool} {done : Array Bool} (h : closedM md ops hd tl done = true) : MInv md ops hd tl done := by
 simp only [closedM, Bool.and_eq_true, decide_eq_true_eq] at h
 obtain ⟨⟨⟨h1, h2⟩, h3⟩, h4⟩ := h
 refine ⟨h1, fun j oj hj hl e he hb => ?_, fun t ht a b => ?_, fun t ht a => ?_⟩
 ·have h4 := List.all_eq_true.1 h2 j (List.mem_range.2 (Array.getElem?_eq_some_iff.1 hj).1)
  rw [hl, hj] at h4
  simp only [Bool.not_true, Bool.false_or] at h4
  have h5 := Array.all_eq_true'.1 h4 e he
  rw [hb] at h5
  simpa using h5
 ·have h5 := List.all_eq_true.1 h3 t (List.mem_range.2 ht)
  rw [a, b] at h5
  simpa using h5
 ·have h5 := List.all_eq_true.1 h4 t (List.mem_range.2 ht)
  rw [a] at h5
  simpa using h5
theorem headM_lex {ol : List Oper} {o0 : Oper} {hd tl : Nat → Bool} {dn : Array Bool} {L : Act → Prop} (hsel : Region.noSelect ol.toArray = true) (hs : sinkM md ol.toArray hd tl = true) (hdt : ∀ j, hd j = true → tl j = false) (hend : ∀ j ∈ Region.ready md ol.toArray dn, hd j = false) (hl : List Nat) :
  ∀ (done : Array Bool) (a : Act), (∀ i ∈ hl, hd i = true) → fin hl done = dn → MInv md ol.toArray hd tl done → lexM md ol.toArray hl done = true → wpQuiet P ol.toArray C L (pickL o0 ol hl) a →
  headM P md ol.toArray C hd (fun done' a' => done' = dn ∧ L a') hl.length done a := by
 induction hl with
 | nil => intro done a _ hf _ _ h; exact ⟨hf, h⟩
 | cons i hl ih =>
  intro done a hh hf inv hB h
  simp only [lexM, Bool.and_eq_true, decide_eq_true_eq] at hB
  obtain ⟨⟨⟨hlt, hr⟩, hfr⟩, hB'⟩ := hB
  have hlt' : i < ol.length := by simpa using hlt
  have h0 : ol.toArray[i]? = some (ol.getD i o0) := by simp [List.getD, hlt']
  have hr' : i ∈ Region.ready md ol.toArray done := by simpa using hr
  have hst : qOp P ol.toArray C i (wpQuiet P ol.toArray C L (pickL o0 ol hl)) a := by unfold qOp; simp only [h0]; exact h
  obtain ⟨v, hy, hK⟩ := yieldsIn_of_qOp h0 hst
  have hih := hh i (.head _)
  exact headM_take h0 (Region.noSelect_spec hsel) hs hdt hih (fun done' a' hL j hj => by rw [hL.1] at hj; exact hend j hj) hl.length done a inv (Region.free_spec h0 hfr) hr' hy
   (ih _ _ (fun j hj => hh j (.tail _ hj)) hf (inv.set hr' (hdt i hih)) hB' hK)
def mtailB (ops : Array Oper) (hl tl : List Nat) (done : Array Bool) : Bool :=
 Region.noSelect ops && sinkM .any ops (fun i => hl.contains i) (fun i => tl.contains i) && (hl.all fun i => !tl.contains i) && closedM .any ops (fun i => hl.contains i) (fun i => tl.contains i) done && ((Region.ready .any ops (fin hl done)).all fun j => !hl.contains j) && lexM .any ops hl done
theorem any_mtail {Q : Exit → Act → World → Prop} {a : Act} {w : World} {o0 : Oper} {ol : List Oper} {done : Array Bool} {f : Nat} (hl tl : List Nat) (g : Nat) (hf : hl.length + g = f) (hB : mtailB ol.toArray hl tl done = true)
  (h : wpQuiet P ol.toArray (fun w' => ∃ e : Ext w, w' = e.w) (fun a' => ∀ w', (∃ e : Ext w, w' = e.w) → wpAny P .any ol.toArray Q g (fin hl done) a' w') (pickL o0 ol hl) a) : wpAny P .any ol.toArray Q f done a w := by
 simp only [mtailB, Bool.and_eq_true] at hB
 obtain ⟨⟨⟨⟨⟨hsel, hs⟩, hdt⟩, hcl⟩, hend⟩, hlex⟩ := hB
 have H := headM_lex (P := P) (C := fun w' => ∃ e : Ext w, w' = e.w) (o0 := o0) (dn := fin hl done) hsel hs (fun j hj => by
  have := List.all_eq_true.1 hdt j (by simpa using hj)
  simpa using this) (fun j hj => by
  have := List.all_eq_true.1 hend j hj
  simpa using this) hl done a (fun i hi => by simpa using hi) rfl (closedM_spec hcl) hlex h
 have := wpAny_headM (Q := Q) (g := g) (fun done' a' w' hw' hL => by rw [hL.1]; exact hL.2 w' hw') _ _ _ w ⟨⟨w, Below.refl _ _⟩, rfl⟩ H
 rwa [hf] at this
end
section
variable {P : Program} {md : Region.Mode} {ol : List Oper} {o : Oper} {a : Act} {Q : Exit → Act → World → Prop} {W w0 : World} {M : Nat → Prop} {l l' : List Item}
theorem run_storeL {ty : TypeId} {p x : Operand} {n g j : Nat} {cs cs' vs : List Value} {v : Value} {t : TypeId} [hn : SizeT P ty n] (hL : Loc w0 M W l) (ho : o.op = .store ty p x) (hp : a.eval p = .pointer (some ⟨g, j, none⟩)) (hx : a.eval x = v)
  (hc : CellsOf v vs) (hl : vs.length = n) (hs : Swap (var g cs t) (var g cs' t) l l') (hcs : SetAt cs j vs cs') : ∃ w1, (execOp a.eval o).run P W = .ok .skip w1 ∧ Loc w0 M w1 l' := by
 obtain ⟨e1, e2⟩ := hcs.eq
 have hB := hL.box hs.mem
 have hcl : v.cells.toList = vs := by rw [hc.eq]
 have hst := run_storeCells_at P g j t v.cells.toList 0 cs.toArray W hB (by rw [hcl]; simpa using e2) (by rw [hcl]; exact hc.one)
 simp only [Nat.add_zero] at hst
 obtain ⟨i, hii, hsz⟩ := Option.map_eq_some_iff.1 hn.size
 have hvs : v.cells.size = n := by rw [hc.eq]; simpa using hl
 have hst2 : (storeVar ty ⟨g, j, none⟩ v).run P W = .ok () (W.setRow g cs'.toArray) := by
  rw [← e1]
  have e3 : (cs.toArray.toList.take j ++ v.cells.toList ++ cs.toArray.toList.drop (j + v.cells.toList.length)) = cs.take j ++ vs ++ cs.drop (j + vs.length) := by rw [hcl]
  rw [e3] at hst
  simp [storeVar, sizeOf, typeInfo, hii, hsz, hvs, hst]
 refine ⟨W.setRow g cs'.toArray, ?_, hL.put hs ⟨rfl, rfl, rfl, by simp, fun k _ hk => setRow_other W g k _ hk⟩ (setRow_heap W g cs.toArray cs'.toArray t (0, 0) hB)⟩
 unfold execOp
 simp only [ho, hp, hx, Instr.storeAt, Instr.sureAddr, Sem.run_bind, Sem.run_pure, Result.andThen_ok, hst2]
theorem wpAny_store {f i : Nat} {done : Array Bool} {ty : TypeId} {p x : Operand} {n g j : Nat} {cs cs' vs : List Value} {v : Value} {t : TypeId} [hn : SizeT P ty n] (hi : Nth ol i o) (r : Region.ready md ol.toArray done = [i]) (hg : o.guard = none) (hL : Loc w0 M W l) (ho : o.op = .store ty p x) (hp : a.eval p = .pointer (some ⟨g, j, none⟩)) (hx : a.eval x = v)
  (hc : CellsOf v vs) [hs : StoreC g l j vs cs cs' t l'] (hl : vs.length = n) (H : ∀ w1, Loc w0 M w1 l' → wpAny P md ol.toArray Q f (done.setIfInBounds i true) (a.put o.dst undef) w1) : wpAny P md ol.toArray Q (f + 1) done a W := by
 obtain ⟨w1, h1, h2⟩ := run_storeL (P := P) (a := a) (o := o) hL ho hp hx hc hl hs.swp hs.set
 exact wpAny_one r (wpOp_skip hi.get hg h1 (H w1 h2))
end
end Go.Proofs.YtebpacmhdkgfeaaGreat

namespace Go.Proofs.YtebpacmhdkgfeaaGreat
open Go.RowKit
section
variable {P : Program} {md : Region.Mode} {ops : Array Oper} {ol : List Oper} {o : Oper} {a : Act} {Q : Exit → Act → World → Prop} {S : World → Prop} {W w0 : World} {M : Nat → Prop} {l l' : List Item}
theorem run_loadSegB {ty : TypeId} {x : Operand} {n g j : Nat} {cs vs : List Value} {t : TypeId} (ha : AggT P ty) (hn : SizeT P ty n) (hB : Box W g cs.toArray t) (ho : o.op = .load ty x) (hx : a.eval x = .pointer (some ⟨g, j, none⟩)) (hs : Seg cs j n vs) :
  (execOp a.eval o).run P W = .ok (.value (.agg vs.toArray)) W := by
 obtain ⟨d, hu, hd⟩ := isRow_of ha.agg
 unfold execOp
 simp only [ho, hx, Instr.loadAt, Instr.sureAddr, Sem.run_bind, Sem.run_pure, Result.andThen_ok, run_loadVar_mid W g j ty vs d (range_of_box hB hs) hu hd (by rw [hs.len]; exact hn.size)]
theorem run_loadCellB {ty : TypeId} {x : Operand} {g j : Nat} {cs : List Value} {v : Value} {t : TypeId} (hB : Box W g cs.toArray t) (ho : o.op = .load ty x) (hx : a.eval x = .pointer (some ⟨g, j, none⟩)) (ha : OneT P ty) (hv : cs[j]? = some v) :
  (execOp a.eval o).run P W = .ok (.value v) W := by
 have hc : W.cell? ⟨g, j, none⟩ = some v := by rw [hB.cell j]; simpa using hv
 unfold execOp
 simp only [ho, hx, Instr.loadAt, Instr.sureAddr, Sem.run_bind, Sem.run_pure, Result.andThen_ok, run_loadVar_cell ha W _ v hc]
theorem y_loadSeg {ty : TypeId} {x : Operand} {n g j : Nat} {cs vs : List Value} {t : TypeId} (hB : ∀ w, S w → Box w g cs.toArray t) (hw : Region.wanted o (yielded ops a.tmps) = true) (ho : o.op = .load ty x) (hx : a.eval x = .pointer (some ⟨g, j, none⟩)) (ha : AggT P ty) (hn : SizeT P ty n) (hs : Seg cs j n vs) :
  YieldsIf P ops S o (.agg vs.toArray) a := .inl ⟨hw, fun _ hS => run_loadSegB ha hn (hB _ hS) ho hx hs⟩
theorem y_loadCell {ty : TypeId} {x : Operand} {g j : Nat} {cs : List Value} {v : Value} {t : TypeId} (hB : ∀ w, S w → Box w g cs.toArray t) (hw : Region.wanted o (yielded ops a.tmps) = true) (ho : o.op = .load ty x) (hx : a.eval x = .pointer (some ⟨g, j, none⟩)) (ha : OneT P ty) (hv : cs[j]? = some v) :
  YieldsIf P ops S o v a := .inl ⟨hw, fun _ hS => run_loadCellB (hB _ hS) ho hx ha hv⟩
theorem y_loadAll {ty : TypeId} {x : Operand} {n g : Nat} {cs : List Value} {t : TypeId} (hB : ∀ w, S w → Box w g cs.toArray t) (hw : Region.wanted o (yielded ops a.tmps) = true) (ho : o.op = .load ty x) (hx : a.eval x = .pointer (some ⟨g, 0, none⟩)) (ha : AggT P ty) (hn : SizeT P ty n) (hs : cs.length = n) :
  YieldsIf P ops S o (.agg cs.toArray) a := y_loadG ha hn hB hw ho hx hs
theorem y_pure {v : Value} (hw : Region.wanted o (yielded ops a.tmps) = true) (hr : ∀ w, (execOp a.eval o).run P w = .ok (.value v) w) : YieldsIf P ops S o v a := .inl ⟨hw, fun w _ => hr w⟩
theorem heldStore {f i : Nat} {done : Array Bool} {ty : TypeId} {p x : Operand} {n g j : Nat} {cs cs' vs : List Value} {v : Value} {t : TypeId} [hn : SizeT P ty n] (hi : Nth ol i o) (r : Region.ready md ol.toArray done = [i]) (hg : o.guard = none) (hL : Loc w0 M W l) (ho : o.op = .store ty p x) (hp : a.eval p = .pointer (some ⟨g, j, none⟩)) (hx : a.eval x = v)
  (hc : CellsOf v vs) [hs : StoreC g l j vs cs cs' t l'] (hl : vs.length = n) (H : ∀ w1, Loc w0 M w1 l' → S w1 ∧ wpAnyH P md ol.toArray Q S f (done.setIfInBounds i true) (a.put o.dst undef) w1) : wpAnyH P md ol.toArray Q S (f + 1) done a W := by
 obtain ⟨w1, h1, h2⟩ := run_storeL (P := P) (a := a) (o := o) hL ho hp hx hc hl hs.swp hs.set
 exact heldOne r (wpOp_skip hi.get hg h1 (H w1 h2))
theorem heldStoreRow {α : Type} {E : Enc α} {T te' : TypeId} {f i k : Nat} {done : Array Bool} {p x : Operand} {base g n c : Nat} {xs : List α} {y : α} [hn : SizeT P T E.sz] (hi : Nth ol i o) (r : Region.ready md ol.toArray done = [i]) (hg : o.guard = none) (hL : Loc w0 M W l)
  (hs : Swap (row E base te' (.slice (some ⟨g, 0, none⟩) n c) xs) (row E base te' (.slice (some ⟨g, 0, none⟩) n c) (xs.set k y)) l l') (ho : o.op = .store T p x) (hp : a.eval p = .pointer (some ⟨g, k * E.sz, none⟩)) (hx : a.eval x = .agg (E.cells y).toArray) (hk : k < xs.length)
  (H : ∀ w1, Loc w0 M w1 l' → S w1 ∧ wpAnyH P md ol.toArray Q S f (done.setIfInBounds i true) (a.put o.dst undef) w1) : wpAnyH P md ol.toArray Q S (f + 1) done a W := by
 obtain ⟨w1, h1, h2⟩ := run_setRow (P := P) (a := a) (o := o) hL hs ho hp hx hk
 exact heldOne r (wpOp_skip hi.get hg h1 (H w1 h2))
theorem Enc.all_part {α : Type} (E : Enc α) (xs : List α) (i : Nat) {x : α} (hx : xs[i]? = some x) (y : α) (j : Nat) (v : Value) (hj : j < E.sz) (hy : E.cells y = (E.cells x).set j v) : E.all (xs.set i y) = (E.all xs).set (i * E.sz + j) v := by
 obtain ⟨hi, hxe⟩ := List.getElem?_eq_some_iff.1 hx
 have h1 := E.all_set xs i hi y
 have h2 := E.all_set xs i hi x
 rw [show xs.set i x = xs from by rw [← hxe]; exact List.set_getElem_self _] at h2
 have hlen : ((E.all xs).take (i * E.sz)).length = i * E.sz := by
  rw [List.length_take, E.all_length]
  have : (i + 1) * E.sz ≤ xs.length * E.sz := Nat.mul_le_mul_right _ hi
  rw [Nat.add_mul] at this; omega
 rw [h1, hy]
 conv => rhs; rw [h2]
 rw [List.append_assoc, List.append_assoc, List.set_append_right _ _ (by rw [hlen]; omega), hlen, Nat.add_sub_cancel_left, List.set_append_left _ _ (by rw [E.len]; exact hj)]
theorem O_part {α : Type} {E : Enc α} {w : World} {base g n c : Nat} {e : TypeId} {xs : List α} (h : E.O w base e (.slice (some ⟨g, 0, none⟩) n c) xs) (i : Nat) {x : α} (hx : xs[i]? = some x) (y : α) (j : Nat) (v : Value) (hj : j < E.sz) (hy : E.cells y = (E.cells x).set j v) (hv : v.oneCell' = true) :
  ∃ w1, (storeCells ⟨g, i * E.sz + j, none⟩ [v] 0).run P w = .ok () w1 ∧ E.O w1 base e (.slice (some ⟨g, 0, none⟩) n c) (xs.set i y) ∧ Mod (· = g) w w1 := by
 have hi : i < xs.length := (List.getElem?_eq_some_iff.1 hx).1
 obtain ⟨hl, h2⟩ := h
 rcases h2 with ⟨hn, _⟩ | ⟨g', cap, cur, hvv, hb, hg, hnc, hcm, hcs, htake⟩
 ·cases hn
 ·injection hvv with hv1 hv2 hv3
  injection hv1 with hv1
  injection hv1 with hv1
  subst hv1 hv2 hv3
  have hsz : i * E.sz + E.sz ≤ xs.length * E.sz := by
   have : (i + 1) * E.sz ≤ xs.length * E.sz := Nat.mul_le_mul_right _ hi
   rw [Nat.add_mul] at this; omega
  have hcap : xs.length * E.sz ≤ c * E.sz := Nat.mul_le_mul_right _ hnc
  have hst := run_storeCells_at P g (i * E.sz + j) e [v] 0 cur w hg (by simp only [List.length_singleton, hcs]; omega) (by simpa using hv)
  simp only [Nat.add_zero, List.length_singleton] at hst
  have hset : (cur.toList.take (i * E.sz + j) ++ [v] ++ cur.toList.drop (i * E.sz + j + 1)) = cur.toList.set (i * E.sz + j) v := by
   rw [List.set_eq_take_append_cons_drop, if_pos (by rw [Array.length_toList, hcs]; omega), List.append_assoc]
   rfl
  rw [hset] at hst
  refine ⟨_, hst, ⟨E.all_length _, .inr ⟨g, c, _, by rw [List.length_set], hb, setRow_heap w g cur _ e _ hg, by rw [List.length_set]; exact hnc, hcm, ?_, ?_⟩⟩, ⟨rfl, rfl, rfl, by simp, fun k _ hk => setRow_other w g k _ hk⟩⟩
  ·simp only [List.size_toArray, List.length_set, Array.length_toList, hcs]
  ·rw [List.length_set, E.all_part xs i hx y j v hj hy, ← htake, List.take_set]
theorem heldStorePart {α : Type} {E : Enc α} {T te' : TypeId} {f i k j : Nat} {done : Array Bool} {p x : Operand} {base g n c : Nat} {xs : List α} {y z : α} {v : Value} [hn : SizeT P T 1] (hi : Nth ol i o) (r : Region.ready md ol.toArray done = [i]) (hg : o.guard = none) (hL : Loc w0 M W l)
  (hs : Swap (row E base te' (.slice (some ⟨g, 0, none⟩) n c) xs) (row E base te' (.slice (some ⟨g, 0, none⟩) n c) (xs.set k y)) l l') (ho : o.op = .store T p x) (hp : a.eval p = .pointer (some ⟨g, k * E.sz + j, none⟩)) (hx : a.eval x = v) (hc : CellsOf v [v]) (hz : xs[k]? = some z) (hj : j < E.sz) (hy : E.cells y = (E.cells z).set j v)
  (H : ∀ w1, Loc w0 M w1 l' → S w1 ∧ wpAnyH P md ol.toArray Q S f (done.setIfInBounds i true) (a.put o.dst undef) w1) : wpAnyH P md ol.toArray Q S (f + 1) done a W := by
 obtain ⟨w1, hst, hO, hm⟩ := O_part (P := P) (hL.own hs.mem) k hz y j v hj hy (hc.one v (.head _))
 obtain ⟨inf, hii, hsz⟩ := Option.map_eq_some_iff.1 hn.size
 have hst2 : (storeVar T ⟨g, k * E.sz + j, none⟩ v).run P W = .ok () w1 := by
  simp [storeVar, sizeOf, typeInfo, hii, hsz, hc.eq, hst]
 refine heldOne r (wpOp_skip hi.get hg (w' := w1) ?_ (H w1 (hL.swap hs (hm.mono fun k' _ hk' => ?_) (row_at hO) fun _ hk => .inl hk)))
 ·unfold execOp
  simp only [ho, hp, hx, Instr.storeAt, Instr.sureAddr, Sem.run_bind, Sem.run_pure, Result.andThen_ok, hst2]
 ·show (Value.slice (some ⟨g, 0, none⟩) n c).ownBlock = some k'
  rw [hk']; rfl
theorem enter2T {w : World} {t : Tmp} {x y : Operand} {u v : Value} {f : FuncId} {fn : Func} {ats : Array TypeId} (hf : P.funcs[f]? = some fn) (hname : (fn.name == "runtime.NumGoroutine") = false) (hb : fn.body.isNone = false) (ho : o.op = .call { callee := .value (.tmp t), args := #[x, y], argTypes := ats }) (ht : a.eval (.tmp t) = .func (.func f) #[] #[]) (hu : a.eval x = u) (hv : a.eval y = v) :
  (execOp a.eval o).run P w = .ok (.enter f #[u, v]) w := by
 simp [execOp, ho, resolve, invoke, hu, hv, ht, Deferred.ofValue, enters hf hname hb]
theorem wpOp_lit {i : Nat} {K : Act → World → Prop} {t : TypeId} {n : Nat} {parts : Array (Nat × Operand)} {e : TypeId} {sz : Nat} {z : Value} {cs : List Value} [ht : SliceT P t e] [hz : ZeroT P e z] [hs : SizeT P e sz] (hi : Nth ol i o) (hg : o.guard = none) (hL : Loc w0 M W l) (ho : o.op = .buildSlice t n parts)
  (hn : decide (n * sz ≤ 16777216) = true) (h0 : decide (0 < n * sz) = true) (hfill : Instr.fill (fun i => some (i * sz, sz)) ((Array.range (n * sz)).map fun j => z.cells[j % z.cells.size]!) (parts.map fun (i, x) => (i, a.eval x)).toList = some cs.toArray)
  (H : ∀ g w1, Loc w0 M w1 (var g cs e :: l) → K (a.put o.dst (.slice (some ⟨g, 0, none⟩) n n)) w1) : wpOp P ol.toArray Q i K a W :=
 wpOp_runW hi.get (by simp [Region.wanted, hg]) (run_litL ho hn h0 hfill) (H _ _ (hL.callVar (bl_alloc (Below.refl _ _) _) (Box.new W _ e) (Nat.le_refl _)))
theorem wpOp_store {i : Nat} {K : Act → World → Prop} {ty : TypeId} {p x : Operand} {n g j : Nat} {cs cs' vs : List Value} {v : Value} {t : TypeId} [hn : SizeT P ty n] (hi : Nth ol i o) (hg : o.guard = none) (hL : Loc w0 M W l) (ho : o.op = .store ty p x) (hp : a.eval p = .pointer (some ⟨g, j, none⟩)) (hx : a.eval x = v)
  (hc : CellsOf v vs) [hs : StoreC g l j vs cs cs' t l'] (hl : vs.length = n) (H : ∀ w1, Loc w0 M w1 l' → K (a.put o.dst undef) w1) : wpOp P ol.toArray Q i K a W := by
 obtain ⟨w1, h1, h2⟩ := run_storeL (P := P) (a := a) (o := o) hL ho hp hx hc hl hs.swp hs.set
 exact wpOp_skip hi.get hg h1 (H w1 h2)
theorem wpOp_alloc {i : Nat} {K : Act → World → Prop} {t : TypeId} {z : Value} {cs : List Value} [hz : ZeroT P t z] (hi : Nth ol i o) (hg : o.guard = none) (hL : Loc w0 M W l) (ho : o.op = .alloc t) (hc : CellsOf z cs)
  (H : ∀ g w1, Loc w0 M w1 (var g cs t :: l) → K (a.put o.dst (.pointer (some ⟨g, 0, none⟩))) w1) : wpOp P ol.toArray Q i K a W := by
 refine wpOp_runW (v := .pointer (some ⟨W.heap.size, 0, none⟩)) (w' := W.alloc (.cells cs.toArray t)) hi.get (by simp [Region.wanted, hg]) ?_ (H _ _ (hL.callVar (bl_alloc (Below.refl _ _) _) (Box.new W _ t) (Nat.le_refl _)))
 obtain ⟨i, hi2, hzz⟩ := Option.map_eq_some_iff.1 hz.zero
 simp [execOp, ho, Instr.alloc, zeroValue, typeInfo, hi2, hzz, hc.eq, newVar, newRow]
theorem heldEitherX {f i j : Nat} {done : Array Bool} {α : Type} (I : α → World → Prop) {X : α → World → Prop} (r : Region.ready md ops done = [i, j]) (g : ∀ x w', I x w' → X x w') (hi : (∀ x w', I x w' → X x w') → wpOp P ops Q i (fun a' w' => S w' ∧ wpAnyH P md ops Q S f (done.setIfInBounds i true) a' w') a W)
  (hj : (∀ x w', I x w' → X x w') → wpOp P ops Q j (fun a' w' => S w' ∧ wpAnyH P md ops Q S f (done.setIfInBounds j true) a' w') a W) : wpAnyH P md ops Q S (f + 1) done a W :=
 wpAnyH_all r (by simp) fun x hx => by
  rcases List.mem_cons.1 hx with rfl | hx
  ·exact hi g
  ·obtain rfl := List.mem_singleton.1 hx
   exact hj g
theorem heldEitherXX {f i j : Nat} {done : Array Bool} {α β : Type} (I : α → β → World → Prop) {X : α → β → World → Prop} (r : Region.ready md ops done = [i, j]) (g : ∀ x y w', I x y w' → X x y w') (hi : (∀ x y w', I x y w' → X x y w') → wpOp P ops Q i (fun a' w' => S w' ∧ wpAnyH P md ops Q S f (done.setIfInBounds i true) a' w') a W)
  (hj : (∀ x y w', I x y w' → X x y w') → wpOp P ops Q j (fun a' w' => S w' ∧ wpAnyH P md ops Q S f (done.setIfInBounds j true) a' w') a W) : wpAnyH P md ops Q S (f + 1) done a W :=
 wpAnyH_all r (by simp) fun x hx => by
  rcases List.mem_cons.1 hx with rfl | hx
  ·exact hi g
  ·obtain rfl := List.mem_singleton.1 hx
   exact hj g
theorem heldEither3 {f i j : Nat} {done : Array Bool} {α β γ : Type} (I : α → β → γ → World → Prop) {X : α → β → γ → World → Prop} (r : Region.ready md ops done = [i, j]) (g : ∀ x y z w', I x y z w' → X x y z w') (hi : (∀ x y z w', I x y z w' → X x y z w') → wpOp P ops Q i (fun a' w' => S w' ∧ wpAnyH P md ops Q S f (done.setIfInBounds i true) a' w') a W)
  (hj : (∀ x y z w', I x y z w' → X x y z w') → wpOp P ops Q j (fun a' w' => S w' ∧ wpAnyH P md ops Q S f (done.setIfInBounds j true) a' w') a W) : wpAnyH P md ops Q S (f + 1) done a W :=
 wpAnyH_all r (by simp) fun x hx => by
  rcases List.mem_cons.1 hx with rfl | hx
  ·exact hi g
  ·obtain rfl := List.mem_singleton.1 hx
   exact hj g
theorem heldBoth {f i j : Nat} {done : Array Bool} (r : Region.ready md ops done = [i, j]) (hi : wpOp P ops Q i (fun a' w' => S w' ∧ wpAnyH P md ops Q S f (done.setIfInBounds i true) a' w') a W)
  (hj : wpOp P ops Q j (fun a' w' => S w' ∧ wpAnyH P md ops Q S f (done.setIfInBounds j true) a' w') a W) : wpAnyH P md ops Q S (f + 1) done a W :=
 wpAnyH_all r (by simp) fun x hx => by
  rcases List.mem_cons.1 hx with rfl | hx
  ·exact hi
  ·obtain rfl := List.mem_singleton.1 hx
   exact hj
theorem heldEither {f i j : Nat} {done : Array Bool} {G : Prop} (r : Region.ready md ops done = [i, j]) (g : G) (hi : G → wpOp P ops Q i (fun a' w' => S w' ∧ wpAnyH P md ops Q S f (done.setIfInBounds i true) a' w') a W) (hj : G → wpOp P ops Q j (fun a' w' => S w' ∧ wpAnyH P md ops Q S f (done.setIfInBounds j true) a' w') a W) : wpAnyH P md ops Q S (f + 1) done a W :=
 wpAnyH_all r (by simp) fun x hx => by
  rcases List.mem_cons.1 hx with rfl | hx
  ·exact hi g
  ·obtain rfl := List.mem_singleton.1 hx
   exact hj g
end
end Go.Proofs.YtebpacmhdkgfeaaGreat

namespace Go.Proofs.YtebpacmhdkgfeaaGreat
open Go.RowKit
theorem R_none {α : Type} (E : Enc α) (w : World) : E.R w (.slice none 0 0) [] := (Enc.O.none (E := E) w 0 0).read
theorem own_casesG {α : Type} {E : Enc α} {w0 w : World} {M : Nat → Prop} {l : List Item} {u : Value} {xs : List α} {base : Nat} {te : TypeId} (hL : Loc w0 M w (row E base te u xs :: l)) : (u = .slice none 0 0 ∧ xs = []) ∨ ∃ g c, u = .slice (some ⟨g, 0, none⟩) xs.length c ∧ xs.length ≤ c ∧ c ≤ 9223372036854775807 ∧ base ≤ g := by
 have h := hL.own (E := E) (.head _)
 rcases h.2 with ⟨rfl, h0⟩ | ⟨g, c, cur, rfl, hb, hg, h1, h2, h3⟩
 ·exact .inl ⟨rfl, List.eq_nil_of_length_eq_zero h0⟩
 ·exact .inr ⟨g, c, rfl, h1, by unfold maxLen at h2; omega, hb⟩
theorem Loc.thenRowG {α : Type} {E : Enc α} {te : TypeId} {w0 w w1 : World} {g n c m d base : Nat} {xs ys : List α} (h : Loc w0 NoM w [row E base te (.slice (some ⟨g, 0, none⟩) n c) xs]) (h2 : Loc w (· = g) w1 [row E base te (.slice (some ⟨g, 0, none⟩) m d) ys]) (hg : w0.heap.size ≤ g) :
  Loc w0 NoM w1 [row E base te (.slice (some ⟨g, 0, none⟩) m d) ys] := by
 refine ⟨h.mod.trans h2.mod fun b hb e => ?_, h2.at_, fun i hi k hk => ?_, h2.apart⟩
 ·have e' : b = g := e
  omega
 ·rw [List.mem_singleton.1 hi] at hk
  have hk' : (Value.slice (some ⟨g, 0, none⟩) m d).ownBlock = some k := hk
  injection hk' with hk'
  subst hk'
  exact .inl hg
theorem Loc.rowNil' {w0 w : World} {M : Nat → Prop} {l : List Item} (h : Loc w0 M w l) {α : Type} (E : Enc α) (base : Nat) (e : TypeId) : Loc w0 M w (row E base e (.slice none 0 0) [] :: l) :=
 h.callNew (Below.refl _ _) (row_at (Enc.O.none _ _ _)) fun k hk => by cases hk
theorem two_rows {α : Type} {E : Enc α} {w : World} {s t : Sl} {xs ys : List α} (h1 : E.R w s.val xs) (h2 : E.R w t.val ys) : ∀ i (p : i < [s, t].length) (q : i < [xs, ys].length), E.R w [s, t][i].val [xs, ys][i]
 | 0, _, _ => h1
 | 1, _, _ => h2
 | i + 2, p, _ => by simp at p; omega
end Go.Proofs.YtebpacmhdkgfeaaGreat

namespace Go.Proofs.YtebpacmhdkgfeaaGreat.ConcatPc
open Go.RowKit
theorem row0 {w0 w : World} {M : Nat → Prop} {l : List Item} (h : Loc w0 M w l) {α : Type} (E : Enc α) (base : Nat) (e : TypeId) : Loc w0 M w (row E base e (.slice none 0 0) [] :: l) :=
 h.callNew (Below.refl _ _) (row_at (Enc.O.none _ _ _)) fun k hk => by cases hk
set_option maxHeartbeats 1000000 in
theorem growNil (n : Nat) (w : World) (hn : n ≤ 100000000000) :
  Calls Tryz.prog 162 #[.slice none 0 0, .int .i64 n] w fun e w' => ∃ v, e = .returned v ∧ Loc w NoM w' [row encPc w.heap.size 61 v []] := by
 have hL := Loc.nil w NoM
 have h0 : ¬ ((n : Int) < 0) := by omega
 by_cases hz : n = 0
 ·subst hz
  have hL := row0 hL encPc w.heap.size 61
  go_enter Tryz.func162, Tryz.ntmps162
  go_wp2_with fail
  go_ret
  exact ⟨_, rfl, hL⟩
 ·have h1 : (0 : Int) < (n : Int) := by omega
  go_enter Tryz.func162, Tryz.ntmps162
  go_wp2_with (first
   | (at_builtin; refine ev_growNil encPc w.heap.size rfl hL rfl rfl rfl Tryz.underlying3 rfl rfl (by omega) hn (Nat.le_refl _) ?_; clear hL; intro g G wq hG hG63 hL; have hG2 : (0 : Int) ≤ (G : Int) := by omega))
  go_ret
  exact ⟨_, rfl, hL⟩
def upto {α : Type} (xss : List (List α)) (k : Nat) : List α := (xss.take k).flatten
theorem upto_succ {α : Type} (xss : List (List α)) (k : Nat) (h : k < xss.length) : upto xss (k + 1) = upto xss k ++ xss[k] := by
 unfold upto
 rw [(List.take_append_getElem h).symm, List.flatten_append]
 simp
theorem upto_len {α : Type} (xss : List (List α)) (k : Nat) : (upto xss k).length ≤ xss.flatten.length := by
 have h : xss.flatten = upto xss k ++ (xss.drop k).flatten := by unfold upto; rw [← List.flatten_append, List.take_append_drop]
 rw [h, List.length_append]
 omega
set_option maxHeartbeats 2000000 in
theorem concat (v : Value) (ss : List Sl) (xss : List (List Pce)) (w : World) (h : encSl.R w v ss) (hl : ss.length = xss.length) (hx : ∀ i (h1 : i < ss.length) (h2 : i < xss.length), (encPc).R w ss[i].val xss[i]) (hn : xss.flatten.length ≤ 1000000000) (hm : ss.length ≤ 1000000000) :
  Calls Tryz.prog 84 #[v] w fun e w' => ∃ u, e = .returned u ∧ Loc w NoM w' [row encPc w.heap.size 61 u xss.flatten] := by
 have hL := Loc.nil w NoM
 obtain ⟨ao, c, rfl, hel⟩ := R_elem h
 have HX := kD hx
 have HL := kD hl
 clear hx h hl
 go_enter Tryz.func84, Tryz.ntmps84
 go_wp2_with fail
 go_loopw [3, 11] (fun s i wr => ∃ k : Nat, k ≤ ss.length ∧ i = .int .i64 k ∧ s = .int .i64 ((upto xss k).length : Nat) ∧ Loc w NoM wr []) (fun _ i _ => ss.length - (intOf i).toNat)
 case atStart => exact ⟨0, by omega, rfl, rfl, hL⟩
 case round =>
  clear hL
  obtain ⟨k, hk, rfl, rfl, hL⟩ := hrel
  by_cases hlt : k < ss.length
  ·obtain ⟨g, off, rfl, hr⟩ := hel k hlt
   have hrW : wr.rangeAt g (off + k * 1) [.slice ss[k].a ss[k].n ss[k].c] := range_below hr hL.below
   clear hr
   have hlt2 : k < xss.length := by have := HL.out; omega
   have hR := HX.out k hlt hlt2
   obtain ⟨ao2, c2, e2, -⟩ := R_elem hR
   have HN : Hid ((upto xss (k + 1)).length = (upto xss k).length + ss[k].n) := kD (by
    rw [upto_succ xss k hlt2, List.length_append]
    have e3 : ss[k].n = xss[k].length := by unfold Sl.val at e2; injection e2
    rw [e3])
   have hb1 := upto_len xss (k + 1)
   rw [HN.out] at hb1
   generalize (upto xss k).length = N at *
   clear hR e2
   generalize ss[k].n = m at *
   generalize ss[k].a = aa at *
   generalize ss[k].c = cc at *
   have hb2 : N + m ≤ 1000000000 := by omega
   have hneg : ¬ ((N : Int) + (m : Int) < 0) := by omega
   go_wp2_with (first
    | ((with_reducible refine qF rfl rfl ?_); refine lL rfl rfl rfl rfl hlt ?_)
    | ((with_reducible refine gate (N := 14) rfl ?_); refine ev_loadR1 (v := .slice aa m cc) rfl rfl rfl hrW ?_))
   go_roundw
   case rel => exact ⟨k + 1, by omega, by go_num, by rw [HN.out]; go_num, hL⟩
   case measure => simp [intOf]; omega
  ·obtain rfl : k = ss.length := by omega
   have hb1 := upto_len xss ss.length
   generalize (upto xss ss.length).length = N at *
   go_wp2_with (first
    | (go_at_call 162; (with_reducible refine (growNil N _ (by omega)).mono ?_); rintro e w3 ⟨v0, rfl, hL3⟩; have hL := hL.takeRow hL3; clear hL3))
   clear hb1 hk hlt
   go_loopw [6, 27] (fun s i wr => ∃ (k : Nat) (vs : Value), k ≤ ss.length ∧ i = .int .i64 k ∧ s = vs ∧ Loc w NoM wr [row encPc w.heap.size 61 vs (upto xss k)]) (fun _ i _ => ss.length - (intOf i).toNat)
   case atStart => exact ⟨0, _, by omega, rfl, rfl, hL⟩
   case round =>
    clear hL
    obtain ⟨k, vs, hk, rfl, rfl, hL⟩ := hrel
    by_cases hlt : k < ss.length
    ·obtain ⟨g, off, rfl, hr⟩ := hel k hlt
     have hrW : wr.rangeAt g (off + k * 1) [.slice ss[k].a ss[k].n ss[k].c] := range_below hr hL.below
     clear hr
     have hlt2 : k < xss.length := by have := HL.out; omega
     have hR := kD ((HX.out k hlt hlt2).below hL.below)
     have HN := kD (upto_succ xss k hlt2)
     have hb1 := upto_len xss (k + 1)
     rw [HN.out, List.length_append] at hb1
     unfold Sl.val at hR
     generalize upto xss k = L at *
     generalize xss[k] = ys at *
     generalize ss[k].n = m at *
     generalize ss[k].a = aa at *
     generalize ss[k].c = cc at *
     go_wp2_with (first
      | ((with_reducible refine qF rfl rfl ?_); refine lL rfl rfl rfl rfl hlt ?_)
      | ((with_reducible refine gate (N := 30) rfl ?_); refine ev_loadR1 (v := .slice aa m cc) rfl rfl rfl hrW ?_)
      | (at_builtin; refine ev_appL (E := encPc) ys rfl hL rfl rfl rfl hR.out (fun _ => sx) rfl rfl (by omega) hL.size ?_; clear hL hR; intro v' wq hL))
     go_roundw
     case rel => exact ⟨k + 1, _, by omega, by go_num, rfl, by rw [HN.out]; exact hL⟩
     case measure => simp [intOf]; omega
    ·obtain rfl : k = ss.length := by omega
     have HT := kD (show upto xss ss.length = xss.flatten from by unfold upto; rw [HL.out, List.take_length])
     rw [HT.out] at hL
     go_wp2
     go_ret
     exact ⟨_, rfl, hL⟩
end Go.Proofs.YtebpacmhdkgfeaaGreat.ConcatPc

namespace Go.Proofs.YtebpacmhdkgfeaaGreat.ConcatXt
open Go.RowKit
theorem row0 {w0 w : World} {M : Nat → Prop} {l : List Item} (h : Loc w0 M w l) {α : Type} (E : Enc α) (base : Nat) (e : TypeId) : Loc w0 M w (row E base e (.slice none 0 0) [] :: l) :=
 h.callNew (Below.refl _ _) (row_at (Enc.O.none _ _ _)) fun k hk => by cases hk
set_option maxHeartbeats 1000000 in
theorem growNil (n : Nat) (w : World) (hn : n ≤ 100000000000) :
  Calls Tryz.prog 163 #[.slice none 0 0, .int .i64 n] w fun e w' => ∃ v, e = .returned v ∧ Loc w NoM w' [row encXt w.heap.size 64 v []] := by
 have hL := Loc.nil w NoM
 have h0 : ¬ ((n : Int) < 0) := by omega
 by_cases hz : n = 0
 ·subst hz
  have hL := row0 hL encXt w.heap.size 64
  go_enter Tryz.func163, Tryz.ntmps163
  go_wp2_with fail
  go_ret
  exact ⟨_, rfl, hL⟩
 ·have h1 : (0 : Int) < (n : Int) := by omega
  go_enter Tryz.func163, Tryz.ntmps163
  go_wp2_with (first
   | (at_builtin; refine ev_growNil encXt w.heap.size rfl hL rfl rfl rfl Tryz.underlying3 rfl rfl (by omega) hn (Nat.le_refl _) ?_; clear hL; intro g G wq hG hG63 hL; have hG2 : (0 : Int) ≤ (G : Int) := by omega))
  go_ret
  exact ⟨_, rfl, hL⟩
def upto {α : Type} (xss : List (List α)) (k : Nat) : List α := (xss.take k).flatten
theorem upto_succ {α : Type} (xss : List (List α)) (k : Nat) (h : k < xss.length) : upto xss (k + 1) = upto xss k ++ xss[k] := by
 unfold upto
 rw [(List.take_append_getElem h).symm, List.flatten_append]
 simp
theorem upto_len {α : Type} (xss : List (List α)) (k : Nat) : (upto xss k).length ≤ xss.flatten.length := by
 have h : xss.flatten = upto xss k ++ (xss.drop k).flatten := by unfold upto; rw [← List.flatten_append, List.take_append_drop]
 rw [h, List.length_append]
 omega
set_option maxHeartbeats 2000000 in
theorem concat (v : Value) (ss : List Sl) (xss : List (List Xat)) (w : World) (h : encSl.R w v ss) (hl : ss.length = xss.length) (hx : ∀ i (h1 : i < ss.length) (h2 : i < xss.length), (encXt).R w ss[i].val xss[i]) (hn : xss.flatten.length ≤ 1000000000) (hm : ss.length ≤ 1000000000) :
  Calls Tryz.prog 85 #[v] w fun e w' => ∃ u, e = .returned u ∧ Loc w NoM w' [row encXt w.heap.size 64 u xss.flatten] := by
 have hL := Loc.nil w NoM
 obtain ⟨ao, c, rfl, hel⟩ := R_elem h
 have HX := kD hx
 have HL := kD hl
 clear hx h hl
 go_enter Tryz.func85, Tryz.ntmps85
 go_wp2_with fail
 go_loopw [3, 11] (fun s i wr => ∃ k : Nat, k ≤ ss.length ∧ i = .int .i64 k ∧ s = .int .i64 ((upto xss k).length : Nat) ∧ Loc w NoM wr []) (fun _ i _ => ss.length - (intOf i).toNat)
 case atStart => exact ⟨0, by omega, rfl, rfl, hL⟩
 case round =>
  clear hL
  obtain ⟨k, hk, rfl, rfl, hL⟩ := hrel
  by_cases hlt : k < ss.length
  ·obtain ⟨g, off, rfl, hr⟩ := hel k hlt
   have hrW : wr.rangeAt g (off + k * 1) [.slice ss[k].a ss[k].n ss[k].c] := range_below hr hL.below
   clear hr
   have hlt2 : k < xss.length := by have := HL.out; omega
   have hR := HX.out k hlt hlt2
   obtain ⟨ao2, c2, e2, -⟩ := R_elem hR
   have HN : Hid ((upto xss (k + 1)).length = (upto xss k).length + ss[k].n) := kD (by
    rw [upto_succ xss k hlt2, List.length_append]
    have e3 : ss[k].n = xss[k].length := by unfold Sl.val at e2; injection e2
    rw [e3])
   have hb1 := upto_len xss (k + 1)
   rw [HN.out] at hb1
   generalize (upto xss k).length = N at *
   clear hR e2
   generalize ss[k].n = m at *
   generalize ss[k].a = aa at *
   generalize ss[k].c = cc at *
   have hb2 : N + m ≤ 1000000000 := by omega
   have hneg : ¬ ((N : Int) + (m : Int) < 0) := by omega
   go_wp2_with (first
    | ((with_reducible refine qF rfl rfl ?_); refine lL rfl rfl rfl rfl hlt ?_)
    | ((with_reducible refine gate (N := 14) rfl ?_); refine ev_loadR1 (v := .slice aa m cc) rfl rfl rfl hrW ?_))
   go_roundw
   case rel => exact ⟨k + 1, by omega, by go_num, by rw [HN.out]; go_num, hL⟩
   case measure => simp [intOf]; omega
  ·obtain rfl : k = ss.length := by omega
   have hb1 := upto_len xss ss.length
   generalize (upto xss ss.length).length = N at *
   go_wp2_with (first
    | (go_at_call 163; (with_reducible refine (growNil N _ (by omega)).mono ?_); rintro e w3 ⟨v0, rfl, hL3⟩; have hL := hL.takeRow hL3; clear hL3))
   clear hb1 hk hlt
   go_loopw [6, 27] (fun s i wr => ∃ (k : Nat) (vs : Value), k ≤ ss.length ∧ i = .int .i64 k ∧ s = vs ∧ Loc w NoM wr [row encXt w.heap.size 64 vs (upto xss k)]) (fun _ i _ => ss.length - (intOf i).toNat)
   case atStart => exact ⟨0, _, by omega, rfl, rfl, hL⟩
   case round =>
    clear hL
    obtain ⟨k, vs, hk, rfl, rfl, hL⟩ := hrel
    by_cases hlt : k < ss.length
    ·obtain ⟨g, off, rfl, hr⟩ := hel k hlt
     have hrW : wr.rangeAt g (off + k * 1) [.slice ss[k].a ss[k].n ss[k].c] := range_below hr hL.below
     clear hr
     have hlt2 : k < xss.length := by have := HL.out; omega
     have hR := kD ((HX.out k hlt hlt2).below hL.below)
     have HN := kD (upto_succ xss k hlt2)
     have hb1 := upto_len xss (k + 1)
     rw [HN.out, List.length_append] at hb1
     unfold Sl.val at hR
     generalize upto xss k = L at *
     generalize xss[k] = ys at *
     generalize ss[k].n = m at *
     generalize ss[k].a = aa at *
     generalize ss[k].c = cc at *
     go_wp2_with (first
      | ((with_reducible refine qF rfl rfl ?_); refine lL rfl rfl rfl rfl hlt ?_)
      | ((with_reducible refine gate (N := 30) rfl ?_); refine ev_loadR1 (v := .slice aa m cc) rfl rfl rfl hrW ?_)
      | (at_builtin; refine ev_appL (E := encXt) ys rfl hL rfl rfl rfl hR.out (fun _ => sx) rfl rfl (by omega) hL.size ?_; clear hL hR; intro v' wq hL))
     go_roundw
     case rel => exact ⟨k + 1, _, by omega, by go_num, rfl, by rw [HN.out]; exact hL⟩
     case measure => simp [intOf]; omega
    ·obtain rfl : k = ss.length := by omega
     have HT := kD (show upto xss ss.length = xss.flatten from by unfold upto; rw [HL.out, List.take_length])
     rw [HT.out] at hL
     go_wp2
     go_ret
     exact ⟨_, rfl, hL⟩
end Go.Proofs.YtebpacmhdkgfeaaGreat.ConcatXt

namespace Go.Proofs.YtebpacmhdkgfeaaGreat
open Go.RowKit
theorem R_keep {α : Type} {E : Enc α} {w w1 : World} {v : Value} {xs : List α} (h : E.R w v xs) (hb : ∀ a n c, v = .slice (some a) n c → w.heap[a.block]?.isSome = true → w1.heap[a.block]? = w.heap[a.block]?) : E.R w1 v xs := by
 obtain ⟨hl, a, c, rfl, hc, hm, h0⟩ := h
 refine ⟨hl, a, c, rfl, hc, hm, ?_⟩
 rcases h0 with h0 | ⟨a, rfl, hel⟩
 ·exact .inl h0
 ·refine .inr ⟨a, rfl, fun j u hu => ?_⟩
  have h1 := hel j u hu
  have hlt := World.block_lt_of_cell? w _ h1
  have hbk : (a.add j).block = a.block := by unfold Addr.add; split <;> rfl
  generalize a.add j = b at *
  have e : w1.heap[a.block]? = w.heap[a.block]? := hb a _ _ rfl (by
   have : a.block < w.heap.size := by omega
   simp [this])
  rw [← hbk] at e
  rw [← h1]
  unfold World.cell?
  rw [e]
theorem O_keep {α : Type} {E : Enc α} {w w1 : World} {base : Nat} {e : TypeId} {v : Value} {xs : List α} (h : E.O w base e v xs) (hz : w.heap.size ≤ w1.heap.size) (hb : ∀ k, v.ownBlock = some k → w1.heap[k]? = w.heap[k]?) : E.O w1 base e v xs := (row_at h).stay w1 hz hb
def nest (w0 : World) (F : Nat → Prop) (L : List Nd) : Item := ⟨F, fun w => (∀ k, F k → k < w.heap.size) ∧ ∀ w', w.heap.size ≤ w'.heap.size → (∀ k, F k → w'.heap[k]? = w.heap[k]?) → (∀ k, k < w0.heap.size → w'.heap[k]? = w0.heap[k]?) → ∀ n ∈ L, n.s.Ok w' n.d⟩
theorem nest_at {w0 w : World} {F : Nat → Prop} {L : List Nd} (h : (nest w0 F L).p w) : (nest w0 F L).At w :=
 ⟨h, fun k hk => h.1 k hk, fun w' hz hb => ⟨fun k hk => Nat.lt_of_lt_of_le (h.1 k hk) hz, fun w'' hz' hb' h0 => h.2 w'' (Nat.le_trans hz hz') (fun k hk => (hb' k hk).trans (hb k hk)) h0⟩⟩
theorem Ino.Ok.old {w0 w : World} {i : Ino} {d : InoD} (h : i.Ok w0 d) (hb : ∀ k, k < w0.heap.size → w.heap[k]? = w0.heap[k]?) : i.Ok w d := by
 have key : ∀ (a : Addr), w0.heap[a.block]?.isSome = true → w.heap[a.block]? = w0.heap[a.block]? := fun a ha => hb _ (by
  rcases Nat.lt_or_ge a.block w0.heap.size with h1 | h1
  ·exact h1
  ·rw [Array.getElem?_eq_none h1] at ha; cases ha)
 exact ⟨h.hd, R_keep h.ps fun a _ _ _ ha => key a ha, R_keep h.xs fun a _ _ _ ha => key a ha⟩
namespace Loc
variable {w00 w0 w w1 : World} {l : List Item} {F : Nat → Prop} {L : List Nd}
theorem nested (h : Loc w0 NoM w l) (hb : Below w00.heap.size w00 w0) (hm : nest w00 F L ∈ l) : ∀ n ∈ L, n.s.Ok w n.d :=
 (h.get hm).2 w (Nat.le_refl _) (fun _ _ => rfl) fun k hk => (h.mod.block k (Nat.lt_of_lt_of_le hk hb.size) fun e => e).trans (hb.block k hk)
theorem nestOld (h : Loc w0 NoM w l) (hO : ∀ n ∈ L, n.s.Ok w00 n.d) : Loc w0 NoM w (nest w00 (fun _ => False) L :: l) :=
 h.callNew (Below.refl _ _) (nest_at ⟨fun _ h => h.elim, fun w' _ _ h0 n hn => (hO n hn).old h0⟩) fun k hk => hk.elim
theorem nestNew {e1 e2 : TypeId} {i : Ino} {d : InoD} {b1 b2 : Nat} (h : Loc w0 NoM w (row encPc b1 e1 i.p.val d.ps :: row encXt b2 e2 i.x.val d.xs :: nest w00 F L :: l)) (hh : i.hd = d.hd) :
  ∃ F', Loc w0 NoM w (nest w00 F' (⟨i, d⟩ :: L) :: l) := by
 have ha := h.apart
 have h1 := h.own (.head _)
 have h2 := h.own (.tail _ (.head _))
 have h3 := h.get (.tail _ (.tail _ (.head _)))
 refine ⟨fun k => F k ∨ i.p.val.ownBlock = some k ∨ i.x.val.ownBlock = some k, ?_⟩
 rw [List.pairwise_cons, List.pairwise_cons, List.pairwise_cons] at ha
 obtain ⟨a1, a2, a3, a4⟩ := ha
 refine ⟨h.mod, fun j hj => ?_, fun j hj k hk => ?_, List.pairwise_cons.2 ⟨fun j hj k hk => ?_, a4⟩⟩
 ·rcases List.mem_cons.1 hj with rfl | hj
  ·refine nest_at ⟨fun k hk => ?_, fun w' hz hb h0 n hn => ?_⟩
   ·rcases hk with hk | hk | hk
    ·exact h3.1 k hk
    ·exact h1.lt k hk
    ·exact h2.lt k hk
   ·rcases List.mem_cons.1 hn with rfl | hn
    ·exact ⟨hh, (O_keep h1 hz fun k hk => hb k (.inr (.inl hk))).read, (O_keep h2 hz fun k hk => hb k (.inr (.inr hk))).read⟩
    ·exact h3.2 w' hz (fun k hk => hb k (.inl hk)) h0 n hn
  ·exact h.at_ j (.tail _ (.tail _ (.tail _ hj)))
 ·rcases List.mem_cons.1 hj with rfl | hj
  ·rcases hk with hk | hk | hk
   ·exact h.new _ (.tail _ (.tail _ (.head _))) k hk
   ·exact h.new _ (.head _) k hk
   ·exact h.new _ (.tail _ (.head _)) k hk
  ·exact h.new j (.tail _ (.tail _ (.tail _ hj))) k hk
 ·rcases hk with hk | hk | hk
  ·exact a3 j hj k hk
  ·exact a1 j (.tail _ (.tail _ hj)) k hk
  ·exact a2 j (.tail _ hj) k hk
theorem nestSubAt {L' : List Nd} {l' : List Item} (h : Loc w0 NoM w l) (hs : Swap (nest w00 F L) (nest w00 F L') l l') (hO : ∀ n ∈ L', n ∈ L ∨ n.s.Ok w00 n.d) : Loc w0 NoM w l' :=
 h.swap hs (.refl _ _) (nest_at ⟨(h.get hs.mem).1, fun w' hz hb h0 n hn => (hO n hn).elim (fun hn => (h.get hs.mem).2 w' hz hb h0 n hn) fun hn => hn.old h0⟩) fun k hk => .inl hk
end Loc
theorem Loc.perm {w0 w : World} {M : Nat → Prop} {l l' : List Item} (h : Loc w0 M w l) (hp : l.Perm l') : Loc w0 M w l' :=
 ⟨h.mod, fun i hi => h.at_ i (hp.mem_iff.2 hi), fun i hi => h.new i (hp.mem_iff.2 hi), h.apart.perm hp fun h k h1 h2 => h k h2 h1⟩
theorem Loc.weakRow {α : Type} {E : Enc α} {w0 w : World} {M : Nat → Prop} {l : List Item} {base base' : Nat} {e : TypeId} {v : Value} {xs : List α} (h : Loc w0 M w (row E base e v xs :: l)) (hb : base' ≤ base) : Loc w0 M w (row E base' e v xs :: l) :=
 h.swap (.here _) (.refl _ _) (row_at ((h.own (.head _)).weaken hb)) fun _ hk => .inl hk
theorem own_casesM {α : Type} {E : Enc α} {w0 w : World} {M : Nat → Prop} {l : List Item} {u : Value} {xs : List α} {base : Nat} {te : TypeId} (hL : Loc w0 M w l) (hm : row E base te u xs ∈ l) : (u = .slice none 0 0 ∧ xs = []) ∨ ∃ g c, u = .slice (some ⟨g, 0, none⟩) xs.length c ∧ xs.length ≤ c ∧ c ≤ 9223372036854775807 ∧ base ≤ g := by
 have h := hL.own (E := E) hm
 rcases h.2 with ⟨rfl, h0⟩ | ⟨g, c, cur, rfl, hb, hg, h1, h2, h3⟩
 ·exact .inl ⟨rfl, List.eq_nil_of_length_eq_zero h0⟩
 ·exact .inr ⟨g, c, rfl, h1, by unfold maxLen at h2; omega, hb⟩
theorem Loc.takeAll {w0 w w1 : World} {M : Nat → Prop} {l l3 : List Item} (h : Loc w0 M w l) (h3 : Loc w NoM w1 l3) : Loc w0 M w1 (l3 ++ l) := by
 have h1 := h.call h3.below
 refine ⟨h1.mod, fun i hi => ?_, fun i hi k hk => ?_, List.pairwise_append.2 ⟨h3.apart, h1.apart, fun i hi j hj k hk hk' => ?_⟩⟩
 ·rcases List.mem_append.1 hi with hi | hi
  ·exact h3.at_ i hi
  ·exact h1.at_ i hi
 ·rcases List.mem_append.1 hi with hi | hi
  ·rcases h3.new i hi k hk with h4 | h4
   ·exact .inl (Nat.le_trans h.size h4)
   ·exact h4.elim
  ·exact h1.new i hi k hk
 ·rcases h3.new i hi k hk with h4 | h4
  ·have := (h.at_ j hj).lt k hk'; omega
  ·exact h4.elim
end Go.Proofs.YtebpacmhdkgfeaaGreat

namespace Go.Proofs.YtebpacmhdkgfeaaGreat.ConcatN
open Go.RowKit
theorem row0 {w0 w : World} {M : Nat → Prop} {l : List Item} (h : Loc w0 M w l) {α : Type} (E : Enc α) (base : Nat) (e : TypeId) : Loc w0 M w (row E base e (.slice none 0 0) [] :: l) :=
 h.callNew (Below.refl _ _) (row_at (Enc.O.none _ _ _)) fun k hk => by cases hk
set_option maxHeartbeats 1000000 in
theorem growNil (n : Nat) (w : World) (hn : n ≤ 100000000000) :
  Calls Tryz.prog 158 #[.slice none 0 0, .int .i64 n] w fun e w' => ∃ v, e = .returned v ∧ Loc w NoM w' [row encN w.heap.size 58 v []] := by
 have hL := Loc.nil w NoM
 have h0 : ¬ ((n : Int) < 0) := by omega
 by_cases hz : n = 0
 ·subst hz
  have hL := row0 hL encN w.heap.size 58
  go_enter Tryz.func158, Tryz.ntmps158
  go_wp2_with fail
  go_ret
  exact ⟨_, rfl, hL⟩
 ·have h1 : (0 : Int) < (n : Int) := by omega
  go_enter Tryz.func158, Tryz.ntmps158
  go_wp2_with (first
   | (at_builtin; refine ev_growNil encN w.heap.size rfl hL rfl rfl rfl Tryz.underlying3 rfl rfl (by omega) hn (Nat.le_refl _) ?_; clear hL; intro g G wq hG hG63 hL; have hG2 : (0 : Int) ≤ (G : Int) := by omega))
  go_ret
  exact ⟨_, rfl, hL⟩
def upto {α : Type} (xss : List (List α)) (k : Nat) : List α := (xss.take k).flatten
theorem upto_succ {α : Type} (xss : List (List α)) (k : Nat) (h : k < xss.length) : upto xss (k + 1) = upto xss k ++ xss[k] := by
 unfold upto
 rw [(List.take_append_getElem h).symm, List.flatten_append]
 simp
theorem upto_len {α : Type} (xss : List (List α)) (k : Nat) : (upto xss k).length ≤ xss.flatten.length := by
 have h : xss.flatten = upto xss k ++ (xss.drop k).flatten := by unfold upto; rw [← List.flatten_append, List.take_append_drop]
 rw [h, List.length_append]
 omega
set_option maxHeartbeats 2000000 in
theorem concat (v : Value) (ss : List Sl) (xss : List (List Nd)) (w : World) (h : encSl.R w v ss) (hl : ss.length = xss.length) (hx : ∀ i (h1 : i < ss.length) (h2 : i < xss.length), (encN).R w ss[i].val xss[i]) (hn : xss.flatten.length ≤ 1000000000) (hm : ss.length ≤ 1000000000) :
  Calls Tryz.prog 76 #[v] w fun e w' => ∃ u, e = .returned u ∧ Loc w NoM w' [row encN w.heap.size 58 u xss.flatten] := by
 have hL := Loc.nil w NoM
 obtain ⟨ao, c, rfl, hel⟩ := R_elem h
 have HX := kD hx
 have HL := kD hl
 clear hx h hl
 go_enter Tryz.func76, Tryz.ntmps76
 go_wp2_with fail
 go_loopw [3, 11] (fun s i wr => ∃ k : Nat, k ≤ ss.length ∧ i = .int .i64 k ∧ s = .int .i64 ((upto xss k).length : Nat) ∧ Loc w NoM wr []) (fun _ i _ => ss.length - (intOf i).toNat)
 case atStart => exact ⟨0, by omega, rfl, rfl, hL⟩
 case round =>
  clear hL
  obtain ⟨k, hk, rfl, rfl, hL⟩ := hrel
  by_cases hlt : k < ss.length
  ·obtain ⟨g, off, rfl, hr⟩ := hel k hlt
   have hrW : wr.rangeAt g (off + k * 1) [.slice ss[k].a ss[k].n ss[k].c] := range_below hr hL.below
   clear hr
   have hlt2 : k < xss.length := by have := HL.out; omega
   have hR := HX.out k hlt hlt2
   obtain ⟨ao2, c2, e2, -⟩ := R_elem hR
   have HN : Hid ((upto xss (k + 1)).length = (upto xss k).length + ss[k].n) := kD (by
    rw [upto_succ xss k hlt2, List.length_append]
    have e3 : ss[k].n = xss[k].length := by unfold Sl.val at e2; injection e2
    rw [e3])
   have hb1 := upto_len xss (k + 1)
   rw [HN.out] at hb1
   generalize (upto xss k).length = N at *
   clear hR e2
   generalize ss[k].n = m at *
   generalize ss[k].a = aa at *
   generalize ss[k].c = cc at *
   have hb2 : N + m ≤ 1000000000 := by omega
   have hneg : ¬ ((N : Int) + (m : Int) < 0) := by omega
   go_wp2_with (first
    | ((with_reducible refine qF rfl rfl ?_); refine lL rfl rfl rfl rfl hlt ?_)
    | ((with_reducible refine gate (N := 14) rfl ?_); refine ev_loadR1 (v := .slice aa m cc) rfl rfl rfl hrW ?_))
   go_roundw
   case rel => exact ⟨k + 1, by omega, by go_num, by rw [HN.out]; go_num, hL⟩
   case measure => simp [intOf]; omega
  ·obtain rfl : k = ss.length := by omega
   have hb1 := upto_len xss ss.length
   generalize (upto xss ss.length).length = N at *
   go_wp2_with (first
    | (go_at_call 158; (with_reducible refine (growNil N _ (by omega)).mono ?_); rintro e w3 ⟨v0, rfl, hL3⟩; have hL := hL.takeRow hL3; clear hL3))
   clear hb1 hk hlt
   go_loopw [6, 27] (fun s i wr => ∃ (k : Nat) (vs : Value), k ≤ ss.length ∧ i = .int .i64 k ∧ s = vs ∧ Loc w NoM wr [row encN w.heap.size 58 vs (upto xss k)]) (fun _ i _ => ss.length - (intOf i).toNat)
   case atStart => exact ⟨0, _, by omega, rfl, rfl, hL⟩
   case round =>
    clear hL
    obtain ⟨k, vs, hk, rfl, rfl, hL⟩ := hrel
    by_cases hlt : k < ss.length
    ·obtain ⟨g, off, rfl, hr⟩ := hel k hlt
     have hrW : wr.rangeAt g (off + k * 1) [.slice ss[k].a ss[k].n ss[k].c] := range_below hr hL.below
     clear hr
     have hlt2 : k < xss.length := by have := HL.out; omega
     have hR := kD ((HX.out k hlt hlt2).below hL.below)
     have HN := kD (upto_succ xss k hlt2)
     have hb1 := upto_len xss (k + 1)
     rw [HN.out, List.length_append] at hb1
     unfold Sl.val at hR
     generalize upto xss k = L at *
     generalize xss[k] = ys at *
     generalize ss[k].n = m at *
     generalize ss[k].a = aa at *
     generalize ss[k].c = cc at *
     go_wp2_with (first
      | ((with_reducible refine qF rfl rfl ?_); refine lL rfl rfl rfl rfl hlt ?_)
      | ((with_reducible refine gate (N := 30) rfl ?_); refine ev_loadR1 (v := .slice aa m cc) rfl rfl rfl hrW ?_)
      | (at_builtin; refine ev_appL (E := encN) ys rfl hL rfl rfl rfl hR.out (fun _ => sx) rfl rfl (by omega) hL.size ?_; clear hL hR; intro v' wq hL))
     go_roundw
     case rel => exact ⟨k + 1, _, by omega, by go_num, rfl, by rw [HN.out]; exact hL⟩
     case measure => simp [intOf]; omega
    ·obtain rfl : k = ss.length := by omega
     have HT := kD (show upto xss ss.length = xss.flatten from by unfold upto; rw [HL.out, List.take_length])
     rw [HT.out] at hL
     go_wp2
     go_ret
     exact ⟨_, rfl, hL⟩
end Go.Proofs.YtebpacmhdkgfeaaGreat.ConcatN

namespace Go.Proofs.YtebpacmhdkgfeaaGreat
open Go.RowKit
set_option maxHeartbeats 4000000
set_option maxRecDepth 20000
theorem join_ext {W : World} {e : Ext W} (a b c : V8) (h : a.join b = c) : Calls Tryz.prog 28 #[.agg #[.int .i64 a.a0, .int .i64 a.a1, .int .i64 a.a2, .int .i64 a.a3, .int .i64 a.a4, .int .i64 a.a5, .int .i64 a.a6, .int .i64 a.a7], .agg #[.int .i64 b.a0, .int .i64 b.a1, .int .i64 b.a2, .int .i64 b.a3, .int .i64 b.a4, .int .i64 b.a5, .int .i64 b.a6, .int .i64 b.a7]] e.w fun en w'' => en = .returned (.agg #[.int .i64 c.a0, .int .i64 c.a1, .int .i64 c.a2, .int .i64 c.a3, .int .i64 c.a4, .int .i64 c.a5, .int .i64 c.a6, .int .i64 c.a7]) ∧ ∃ z : Ext W, w'' = z.w :=
 calls_ext ((vec_join a b e.w).mono fun _ _ ⟨⟨c', e1, e2⟩, hb⟩ => by subst e1; subst h; exact ⟨e2, hb⟩)
theorem join_link (a b : Lnk) (w : World) : Calls Tryz.prog 35 #[.agg (encK.cells a).toArray, .agg (encK.cells b).toArray] w fun e w' => (∃ c, c = a.one b ∧ e = .returned (.agg (encK.cells c).toArray)) ∧ Below w.heap.size w w' := by
 have hL := Loc.nil w NoM
 have hg := kD (fun wx => greater_Lnk a b wx)
 have hm := kD (fun wx => greater_Mk a.node b.node wx)
 have HO : Hid (∀ c, c = a.one b → c = ⟨a.id, a.node.top b.node, (a.top b).at_, (a.top b).parent, (a.top b).name, a.alive.join b.alive, a.dead.join b.dead⟩) := kD (fun c h => h)
 obtain ⟨al, h1⟩ : ∃ c, a.alive.join b.alive = c := ⟨_, rfl⟩
 obtain ⟨de, h2⟩ : ∃ c, a.dead.join b.dead = c := ⟨_, rfl⟩
 have HA := kD h1
 have HD := kD h2
 have HR : Hid (a.one b = ⟨a.id, a.node.top b.node, (a.top b).at_, (a.top b).parent, (a.top b).name, al, de⟩) := kD (by unfold Lnk.one; rw [h1, h2])
 clear h1 h2 HO
 generalize a.top b = p at *
 generalize a.node.top b.node = nd at *
 unfold encK Lnk.cells
 simp only
 go_enter Tryz.func35, Tryz.ntmps35
 go_wp2_with (first
  | ((with_reducible refine gate (N := 2) rfl ?_); (refine lJ rfl hL rfl rfl cy ?_; clear hL; intro g2 w2 hL)) | ((with_reducible refine gate (N := 3) rfl ?_); (refine lJ rfl hL rfl rfl cy ?_; clear hL; intro g3 w3 hL)) | ((with_reducible refine gate (N := 4) rfl ?_); (refine lI rfl hL rfl cy ?_; clear hL; intro g4 w4 hL)) | ((with_reducible refine gate (N := 5) rfl ?_); (refine lI rfl hL rfl cy ?_; clear hL; intro g5 w5 hL))
  | (go_at_call 88; (with_reducible refine (hg.out _).mono ?_); rintro e w9 ⟨⟨c, ec, rfl⟩, hb9⟩; have HE := kD ec; clear ec; have hL := hL.call hb9; clear hb9)
  | ((with_reducible refine qB rfl rfl ?_); (refine lA rfl hL rfl rfl vM (by rfl) ?_)) | ((with_reducible refine qC rfl rfl ?_); (refine lH rfl hL rfl rfl rfl cy (by rfl) ?_); clear hL; intro wq hL))
 obtain rfl : c = p := HE.out
 refine region_held (fun wx => Box wx g5 ([.int .i64 c.id.boot, .int .i64 c.id.n, .int .i64 c.node.boot, .int .i64 c.node.n, .int .i64 c.at_.boot, .int .i64 c.at_.n, .int .i64 c.parent.boot, .int .i64 c.parent.n, .string c.name, .int .i64 c.alive.a0, .int .i64 c.alive.a1, .int .i64 c.alive.a2, .int .i64 c.alive.a3, .int .i64 c.alive.a4, .int .i64 c.alive.a5, .int .i64 c.alive.a6, .int .i64 c.alive.a7, .int .i64 c.dead.a0, .int .i64 c.dead.a1, .int .i64 c.dead.a2, .int .i64 c.dead.a3, .int .i64 c.dead.a4, .int .i64 c.dead.a5, .int .i64 c.dead.a6, .int .i64 c.dead.a7] : List Value).toArray 46) (by kernel_rfl) hL ?_
 clear hL
 intro w10 hL
 refine tK (i := 0) (y := y_pure (v := .pointer (some ⟨g5, 4, none⟩)) (by rfl) (fun w => by simp [execOp, Instr.fieldAt, go_sem])) (s := hL.box vM) (z := ?_)
 (try simp only [Act.put, zs, zt, zu])
 refine tK (i := 1) (y := y_loadSeg (fun _ h => h) (by rfl) (by rfl) (by rfl) (by infer_instance) (by infer_instance) SegC.seg) (s := hL.box vM) (z := ?_)
 (try simp only [Act.put, zs, zt, zu])
 refine tK (i := 2) (y := y_pure (v := .pointer (some ⟨g5, 6, none⟩)) (by rfl) (fun w => by simp [execOp, Instr.fieldAt, go_sem])) (s := hL.box vM) (z := ?_)
 (try simp only [Act.put, zs, zt, zu])
 refine tK (i := 3) (y := y_loadSeg (fun _ h => h) (by rfl) (by rfl) (by rfl) (by infer_instance) (by infer_instance) SegC.seg) (s := hL.box vM) (z := ?_)
 (try simp only [Act.put, zs, zt, zu])
 refine tK (i := 4) (y := y_pure (v := .pointer (some ⟨g5, 8, none⟩)) (by rfl) (fun w => by simp [execOp, Instr.fieldAt, go_sem])) (s := hL.box vM) (z := ?_)
 (try simp only [Act.put, zs, zt, zu])
 refine tK (i := 5) (y := y_loadCell (fun _ h => h) (by rfl) (by rfl) (by rfl) (by infer_instance) (by rfl)) (s := hL.box vM) (z := ?_)
 (try simp only [Act.put, zs, zt, zu])
 refine tK (i := 6) (y := y_pure (v := .pointer (some ⟨g2, 4, none⟩)) (by rfl) (fun w => by simp [execOp, Instr.fieldAt, go_sem])) (s := hL.box vM) (z := ?_)
 (try simp only [Act.put, zs, zt, zu])
 refine heldStore (i := 7) nx (by kernel_rfl) rfl hL rfl (by rfl) (by rfl) cy (by rfl) ?_
 clear hL; intro w12 hL
 refine ⟨(hL.box vM), ?_⟩
 (try simp only [Act.put, zs, zt, zu])
 refine tK (i := 8) (y := y_pure (v := .pointer (some ⟨g2, 6, none⟩)) (by rfl) (fun w => by simp [execOp, Instr.fieldAt, go_sem])) (s := hL.box vM) (z := ?_)
 (try simp only [Act.put, zs, zt, zu])
 refine heldStore (i := 9) nx (by kernel_rfl) rfl hL rfl (by rfl) (by rfl) cy (by rfl) ?_
 clear hL; intro w13 hL
 refine ⟨(hL.box vM), ?_⟩
 (try simp only [Act.put, zs, zt, zu])
 refine tK (i := 10) (y := y_pure (v := .pointer (some ⟨g2, 8, none⟩)) (by rfl) (fun w => by simp [execOp, Instr.fieldAt, go_sem])) (s := hL.box vM) (z := ?_)
 (try simp only [Act.put, zs, zt, zu])
 refine heldStore (i := 11) nx (by kernel_rfl) rfl hL rfl (by rfl) (by rfl) cy (by rfl) ?_
 clear hL; intro w14 hL
 refine ⟨(hL.box vM), ?_⟩
 (try simp only [Act.put, zs, zt, zu])
 refine wpAnyH_done (by kernel_rfl) ?_ _
 go_wp2_with (first
  | (go_at_call 90; (with_reducible refine (hm.out _).mono ?_); rintro e w9 ⟨⟨c, rfl, rfl⟩, hb9⟩; have hL := hL.call hb9; clear hb9)
  | ((with_reducible refine qB rfl rfl ?_); (refine lF rfl hL rfl rfl vM SegC.seg ?_)) | ((with_reducible refine qC rfl rfl ?_); (refine lH rfl hL rfl rfl rfl cy (by rfl) ?_); clear hL; intro wq hL))
 (try simp only [Act.put, zs, zt, zu])
 refine region_any (by kernel_rfl) hL ?_
 clear hL
 intro w15 hL _ _
 refine any_mtail (o0 := default) [0, 1, 2, 3, 4, 5, 6, 7, 8, 9, 10] [11, 12, 13] 3 (by kernel_rfl) (by kernel_rfl) ?_
 simp only [pickL, List.map_cons, List.map_nil, List.getD_cons_zero, List.getD_cons_succ]
 repeat (first
  | (go_big_quiet_want; (first | refine qH hL rfl rfl vM (by rfl) ?_ | refine qG hL rfl rfl vM (by rfl) ?_ | refine qI hL rfl rfl vM SegC.seg ?_); go_big_quiet_on; simp only [Act.put, zs, zt, zu])
  | go_big_quiet_step (first | (go_at_call 28; with_reducible exact join_ext a.alive b.alive al HA.out) | (go_at_call 28; with_reducible exact join_ext a.dead b.dead de HD.out)))
 refine wpQuiet_nil ?_
 rintro _ ⟨⟨w16, hb16⟩, rfl⟩
 replace hL := hL.call hb16
 clear hb16
 refine wpAny_store (i := 11) nx (by kernel_rfl) rfl hL rfl (by rfl) (by rfl) cy (by rfl) ?_
 clear hL; intro w17 hL
 (try simp only [Act.put, zs, zt, zu])
 refine wpAny_takeN (i := 12) nx (by kernel_rfl) (by kernel_rfl) (by kernel_rfl) (by exact fun _ _ _ h => h) (v := .pointer (some ⟨g2, 17, none⟩)) (.inl ⟨by rfl, fun w => by simp [execOp, Instr.fieldAt, go_sem]⟩) ?_
 (try simp only [Act.put, zs, zt, zu])
 refine wpAny_store (i := 13) nx (by kernel_rfl) rfl hL rfl (by rfl) (by rfl) cy (by rfl) ?_
 clear hL; intro w18 hL
 (try simp only [Act.put, zs, zt, zu])
 refine wpAny_done (by kernel_rfl) ?_ _
 go_wp2_with (first | ((with_reducible refine qB rfl rfl ?_); (refine lA rfl hL rfl rfl vM (by rfl) ?_)) | ((with_reducible refine qC rfl rfl ?_); (refine lH rfl hL rfl rfl rfl cy (by rfl) ?_); clear hL; intro wq hL))
 refine bodyPost_ret (res_cell rfl hL _ rfl vM (by rfl)) rfl ⟨⟨_, HR.out.symm, rfl⟩, hL.below⟩
end Go.Proofs.YtebpacmhdkgfeaaGreat

namespace Go.Proofs.YtebpacmhdkgfeaaGreat.ConcatK
open Go.RowKit
theorem row0 {w0 w : World} {M : Nat → Prop} {l : List Item} (h : Loc w0 M w l) {α : Type} (E : Enc α) (base : Nat) (e : TypeId) : Loc w0 M w (row E base e (.slice none 0 0) [] :: l) :=
 h.callNew (Below.refl _ _) (row_at (Enc.O.none _ _ _)) fun k hk => by cases hk
set_option maxHeartbeats 1000000 in
theorem growNil (n : Nat) (w : World) (hn : n ≤ 100000000000) :
  Calls Tryz.prog 164 #[.slice none 0 0, .int .i64 n] w fun e w' => ∃ v, e = .returned v ∧ Loc w NoM w' [row encK w.heap.size 46 v []] := by
 have hL := Loc.nil w NoM
 have h0 : ¬ ((n : Int) < 0) := by omega
 by_cases hz : n = 0
 ·subst hz
  have hL := row0 hL encK w.heap.size 46
  go_enter Tryz.func164, Tryz.ntmps164
  go_wp2_with fail
  go_ret
  exact ⟨_, rfl, hL⟩
 ·have h1 : (0 : Int) < (n : Int) := by omega
  go_enter Tryz.func164, Tryz.ntmps164
  go_wp2_with (first
   | (at_builtin; refine ev_growNil encK w.heap.size rfl hL rfl rfl rfl Tryz.underlying3 rfl rfl (by omega) hn (Nat.le_refl _) ?_; clear hL; intro g G wq hG hG63 hL; have hG2 : (0 : Int) ≤ (G : Int) := by omega))
  go_ret
  exact ⟨_, rfl, hL⟩
def upto {α : Type} (xss : List (List α)) (k : Nat) : List α := (xss.take k).flatten
theorem upto_succ {α : Type} (xss : List (List α)) (k : Nat) (h : k < xss.length) : upto xss (k + 1) = upto xss k ++ xss[k] := by
 unfold upto
 rw [(List.take_append_getElem h).symm, List.flatten_append]
 simp
theorem upto_len {α : Type} (xss : List (List α)) (k : Nat) : (upto xss k).length ≤ xss.flatten.length := by
 have h : xss.flatten = upto xss k ++ (xss.drop k).flatten := by unfold upto; rw [← List.flatten_append, List.take_append_drop]
 rw [h, List.length_append]
 omega
set_option maxHeartbeats 2000000 in
theorem concat (v : Value) (ss : List Sl) (xss : List (List Lnk)) (w : World) (h : encSl.R w v ss) (hl : ss.length = xss.length) (hx : ∀ i (h1 : i < ss.length) (h2 : i < xss.length), (encK).R w ss[i].val xss[i]) (hn : xss.flatten.length ≤ 1000000000) (hm : ss.length ≤ 1000000000) :
  Calls Tryz.prog 86 #[v] w fun e w' => ∃ u, e = .returned u ∧ Loc w NoM w' [row encK w.heap.size 46 u xss.flatten] := by
 have hL := Loc.nil w NoM
 obtain ⟨ao, c, rfl, hel⟩ := R_elem h
 have HX := kD hx
 have HL := kD hl
 clear hx h hl
 go_enter Tryz.func86, Tryz.ntmps86
 go_wp2_with fail
 go_loopw [3, 11] (fun s i wr => ∃ k : Nat, k ≤ ss.length ∧ i = .int .i64 k ∧ s = .int .i64 ((upto xss k).length : Nat) ∧ Loc w NoM wr []) (fun _ i _ => ss.length - (intOf i).toNat)
 case atStart => exact ⟨0, by omega, rfl, rfl, hL⟩
 case round =>
  clear hL
  obtain ⟨k, hk, rfl, rfl, hL⟩ := hrel
  by_cases hlt : k < ss.length
  ·obtain ⟨g, off, rfl, hr⟩ := hel k hlt
   have hrW : wr.rangeAt g (off + k * 1) [.slice ss[k].a ss[k].n ss[k].c] := range_below hr hL.below
   clear hr
   have hlt2 : k < xss.length := by have := HL.out; omega
   have hR := HX.out k hlt hlt2
   obtain ⟨ao2, c2, e2, -⟩ := R_elem hR
   have HN : Hid ((upto xss (k + 1)).length = (upto xss k).length + ss[k].n) := kD (by
    rw [upto_succ xss k hlt2, List.length_append]
    have e3 : ss[k].n = xss[k].length := by unfold Sl.val at e2; injection e2
    rw [e3])
   have hb1 := upto_len xss (k + 1)
   rw [HN.out] at hb1
   generalize (upto xss k).length = N at *
   clear hR e2
   generalize ss[k].n = m at *
   generalize ss[k].a = aa at *
   generalize ss[k].c = cc at *
   have hb2 : N + m ≤ 1000000000 := by omega
   have hneg : ¬ ((N : Int) + (m : Int) < 0) := by omega
   go_wp2_with (first
    | ((with_reducible refine qF rfl rfl ?_); refine lL rfl rfl rfl rfl hlt ?_)
    | ((with_reducible refine gate (N := 14) rfl ?_); refine ev_loadR1 (v := .slice aa m cc) rfl rfl rfl hrW ?_))
   go_roundw
   case rel => exact ⟨k + 1, by omega, by go_num, by rw [HN.out]; go_num, hL⟩
   case measure => simp [intOf]; omega
  ·obtain rfl : k = ss.length := by omega
   have hb1 := upto_len xss ss.length
   generalize (upto xss ss.length).length = N at *
   go_wp2_with (first
    | (go_at_call 164; (with_reducible refine (growNil N _ (by omega)).mono ?_); rintro e w3 ⟨v0, rfl, hL3⟩; have hL := hL.takeRow hL3; clear hL3))
   clear hb1 hk hlt
   go_loopw [6, 27] (fun s i wr => ∃ (k : Nat) (vs : Value), k ≤ ss.length ∧ i = .int .i64 k ∧ s = vs ∧ Loc w NoM wr [row encK w.heap.size 46 vs (upto xss k)]) (fun _ i _ => ss.length - (intOf i).toNat)
   case atStart => exact ⟨0, _, by omega, rfl, rfl, hL⟩
   case round =>
    clear hL
    obtain ⟨k, vs, hk, rfl, rfl, hL⟩ := hrel
    by_cases hlt : k < ss.length
    ·obtain ⟨g, off, rfl, hr⟩ := hel k hlt
     have hrW : wr.rangeAt g (off + k * 1) [.slice ss[k].a ss[k].n ss[k].c] := range_below hr hL.below
     clear hr
     have hlt2 : k < xss.length := by have := HL.out; omega
     have hR := kD ((HX.out k hlt hlt2).below hL.below)
     have HN := kD (upto_succ xss k hlt2)
     have hb1 := upto_len xss (k + 1)
     rw [HN.out, List.length_append] at hb1
     unfold Sl.val at hR
     generalize upto xss k = L at *
     generalize xss[k] = ys at *
     generalize ss[k].n = m at *
     generalize ss[k].a = aa at *
     generalize ss[k].c = cc at *
     go_wp2_with (first
      | ((with_reducible refine qF rfl rfl ?_); refine lL rfl rfl rfl rfl hlt ?_)
      | ((with_reducible refine gate (N := 30) rfl ?_); refine ev_loadR1 (v := .slice aa m cc) rfl rfl rfl hrW ?_)
      | (at_builtin; refine ev_appL (E := encK) ys rfl hL rfl rfl rfl hR.out (fun _ => sx) rfl rfl (by omega) hL.size ?_; clear hL hR; intro v' wq hL))
     go_roundw
     case rel => exact ⟨k + 1, _, by omega, by go_num, rfl, by rw [HN.out]; exact hL⟩
     case measure => simp [intOf]; omega
    ·obtain rfl : k = ss.length := by omega
     have HT := kD (show upto xss ss.length = xss.flatten from by unfold upto; rw [HL.out, List.take_length])
     rw [HT.out] at hL
     go_wp2
     go_ret
     exact ⟨_, rfl, hL⟩
end Go.Proofs.YtebpacmhdkgfeaaGreat.ConcatK

namespace Go.Proofs.YtebpacmhdkgfeaaGreat
open Go.RowKit
set_option maxHeartbeats 2000000
def Mk.is (m : Mk) : Bool := decide (1 ≤ m.boot) && (decide (m.boot ≤ 1099511627776) && (decide (0 ≤ m.n) && decide (m.n < 8)))
def V8.has (v : V8) (m : Mk) : Bool := m.is && decide (m.boot ≤ v.get m.n.toNat)
theorem Mk.is_n {m : Mk} (h : m.is = true) : m.n = 0 ∨ m.n = 1 ∨ m.n = 2 ∨ m.n = 3 ∨ m.n = 4 ∨ m.n = 5 ∨ m.n = 6 ∨ m.n = 7 := by
 unfold Mk.is at h
 simp only [Bool.and_eq_true, decide_eq_true_eq] at h
 omega
theorem vec_is (m : Mk) (w : World) : Calls Tryz.prog 176 #[.agg #[.int .i64 m.boot, .int .i64 m.n]] w fun e w' => e = .returned (.bool m.is) ∧ Below w.heap.size w w' := by
 have hL := Loc.nil w NoM
 unfold Mk.is
 by_cases c1 : 1 ≤ m.boot
 ·by_cases c2 : m.boot ≤ 1099511627776
  ·by_cases c3 : 0 ≤ m.n
   ·rw [decide_eq_true c1, decide_eq_true c2, decide_eq_true c3]
    simp only [Bool.true_and]
    go_enter Tryz.func176, Tryz.ntmps176
    go_wp2_with (first | ((with_reducible refine qE rfl rfl ?_); (refine lJ rfl hL rfl rfl cy ?_; clear hL; intro gq wq hL)) | ((with_reducible refine qB rfl rfl ?_); (refine lC rfl hL rfl rfl vM (by rfl) ?_)) | ((with_reducible refine qA rfl rfl ?_ ?_); (exact wz rfl rfl rfl (by with_reducible rfl)); (refine lD (wz rfl rfl rfl rfl) hL rfl rfl vM (by rfl) ?_)))
    go_ret
    exact ⟨rfl, hL.below⟩
   ·rw [decide_eq_true c1, decide_eq_true c2, decide_eq_false c3]
    simp only [Bool.true_and, Bool.false_and]
    have t3 : decide (0 ≤ m.n) = false := decide_eq_false c3
    go_enter Tryz.func176, Tryz.ntmps176
    go_wp2_with (first | ((with_reducible refine qE rfl rfl ?_); (refine lJ rfl hL rfl rfl cy ?_; clear hL; intro gq wq hL)) | ((with_reducible refine qB rfl rfl ?_); (refine lC rfl hL rfl rfl vM (by rfl) ?_)) | ((with_reducible refine qA rfl rfl ?_ ?_); (exact wz rfl rfl rfl (by with_reducible rfl)); (refine lD (wz rfl rfl rfl rfl) hL rfl rfl vM (by rfl) ?_)))
    go_ret
    exact ⟨rfl, hL.below⟩
  ·rw [decide_eq_true c1, decide_eq_false c2]
   simp only [Bool.true_and, Bool.false_and]
   have t2 : decide (m.boot ≤ 1099511627776) = false := decide_eq_false c2
   go_enter Tryz.func176, Tryz.ntmps176
   go_wp2_with (first | ((with_reducible refine qE rfl rfl ?_); (refine lJ rfl hL rfl rfl cy ?_; clear hL; intro gq wq hL)) | ((with_reducible refine qB rfl rfl ?_); (refine lC rfl hL rfl rfl vM (by rfl) ?_)) | ((with_reducible refine qA rfl rfl ?_ ?_); (exact wz rfl rfl rfl (by with_reducible rfl)); (refine lD (wz rfl rfl rfl rfl) hL rfl rfl vM (by rfl) ?_)))
   go_ret
   exact ⟨rfl, hL.below⟩
 ·rw [decide_eq_false c1]
  simp only [Bool.false_and]
  have t1 : decide (1 ≤ m.boot) = false := decide_eq_false c1
  go_enter Tryz.func176, Tryz.ntmps176
  go_wp2_with (first | ((with_reducible refine qE rfl rfl ?_); (refine lJ rfl hL rfl rfl cy ?_; clear hL; intro gq wq hL)) | ((with_reducible refine qB rfl rfl ?_); (refine lC rfl hL rfl rfl vM (by rfl) ?_)))
  go_ret
  exact ⟨rfl, hL.below⟩
theorem vec_is_ext {W : World} {e : Ext W} (a b : Int) (r : Bool) (h : (Mk.mk a b).is = r) : Calls Tryz.prog 176 #[.agg #[.int .i64 a, .int .i64 b]] e.w fun en w'' => en = .returned (.bool r) ∧ ∃ x : Ext W, w'' = x.w :=
 calls_ext (by subst h; exact vec_is ⟨a, b⟩ _)
theorem vec_has (v : V8) (m : Mk) (w : World) : Calls Tryz.prog 106 #[.agg #[.int .i64 v.a0, .int .i64 v.a1, .int .i64 v.a2, .int .i64 v.a3, .int .i64 v.a4, .int .i64 v.a5, .int .i64 v.a6, .int .i64 v.a7], .agg #[.int .i64 m.boot, .int .i64 m.n]] w fun e w' => e = .returned (.bool (v.has m)) ∧ Below w.heap.size w w' := by
 have hL := Loc.nil w NoM
 unfold V8.has
 obtain ⟨a, b⟩ := m
 cases his : (Mk.mk a b).is
 ·have HI := kD his
  clear his
  simp only [Bool.false_and]
  go_enter Tryz.func106, Tryz.ntmps106
  go_wp2_with (first | ((with_reducible refine qE rfl rfl ?_); (refine lJ rfl hL rfl rfl cy ?_; clear hL; intro gq wq hL)))
  refine wp_region_ext (by kernel_rfl) (by kernel_rfl) ?_
  repeat (first
   | (go_big_quiet_want; (first | refine qH hL rfl rfl vM (by rfl) ?_ | refine qG hL rfl rfl vM (by rfl) ?_ | refine qI hL rfl rfl vM SegC.seg ?_); go_big_quiet_on; simp only [Act.put, zs, zt, zu])
   | go_big_quiet_step (first | (go_at_call 176; with_reducible exact vec_is_ext a b false HI.out)))
  refine wpQuiet_nil ?_
  rintro _ ⟨⟨w2, hb2⟩, rfl⟩
  replace hL := hL.call hb2
  go_wp2
  go_ret
  exact ⟨rfl, hL.below⟩
 ·have hn := Mk.is_n his
  have HI := kD his
  clear his
  simp only [Bool.true_and]
  replace hn : b = 0 ∨ b = 1 ∨ b = 2 ∨ b = 3 ∨ b = 4 ∨ b = 5 ∨ b = 6 ∨ b = 7 := hn
  rcases hn with rfl | rfl | rfl | rfl | rfl | rfl | rfl | rfl
  ·show Calls _ _ _ w fun e w' => e = .returned (.bool (decide (a ≤ v.a0))) ∧ Below w.heap.size w w'
   go_enter Tryz.func106, Tryz.ntmps106
   go_wp2_with (first | ((with_reducible refine qE rfl rfl ?_); (refine lJ rfl hL rfl rfl cy ?_; clear hL; intro gq wq hL)))
   refine wp_region_ext (by kernel_rfl) (by kernel_rfl) ?_
   repeat (first
    | (go_big_quiet_want; (first | refine qH hL rfl rfl vM (by rfl) ?_ | refine qG hL rfl rfl vM (by rfl) ?_ | refine qI hL rfl rfl vM SegC.seg ?_); go_big_quiet_on; simp only [Act.put, zs, zt, zu])
    | go_big_quiet_step (first | (go_at_call 176; with_reducible exact vec_is_ext a 0 true HI.out)))
   refine wpQuiet_nil ?_
   rintro _ ⟨⟨w2, hb2⟩, rfl⟩
   replace hL := hL.call hb2
   go_wp2
   go_ret
   exact ⟨rfl, hL.below⟩
  ·show Calls _ _ _ w fun e w' => e = .returned (.bool (decide (a ≤ v.a1))) ∧ Below w.heap.size w w'
   go_enter Tryz.func106, Tryz.ntmps106
   go_wp2_with (first | ((with_reducible refine qE rfl rfl ?_); (refine lJ rfl hL rfl rfl cy ?_; clear hL; intro gq wq hL)))
   refine wp_region_ext (by kernel_rfl) (by kernel_rfl) ?_
   repeat (first
    | (go_big_quiet_want; (first | refine qH hL rfl rfl vM (by rfl) ?_ | refine qG hL rfl rfl vM (by rfl) ?_ | refine qI hL rfl rfl vM SegC.seg ?_); go_big_quiet_on; simp only [Act.put, zs, zt, zu])
    | go_big_quiet_step (first | (go_at_call 176; with_reducible exact vec_is_ext a 1 true HI.out)))
   refine wpQuiet_nil ?_
   rintro _ ⟨⟨w2, hb2⟩, rfl⟩
   replace hL := hL.call hb2
   go_wp2
   go_ret
   exact ⟨rfl, hL.below⟩
  ·show Calls _ _ _ w fun e w' => e = .returned (.bool (decide (a ≤ v.a2))) ∧ Below w.heap.size w w'
   go_enter Tryz.func106, Tryz.ntmps106
   go_wp2_with (first | ((with_reducible refine qE rfl rfl ?_); (refine lJ rfl hL rfl rfl cy ?_; clear hL; intro gq wq hL)))
   refine wp_region_ext (by kernel_rfl) (by kernel_rfl) ?_
   repeat (first
    | (go_big_quiet_want; (first | refine qH hL rfl rfl vM (by rfl) ?_ | refine qG hL rfl rfl vM (by rfl) ?_ | refine qI hL rfl rfl vM SegC.seg ?_); go_big_quiet_on; simp only [Act.put, zs, zt, zu])
    | go_big_quiet_step (first | (go_at_call 176; with_reducible exact vec_is_ext a 2 true HI.out)))
   refine wpQuiet_nil ?_
   rintro _ ⟨⟨w2, hb2⟩, rfl⟩
   replace hL := hL.call hb2
   go_wp2
   go_ret
   exact ⟨rfl, hL.below⟩
  ·show Calls _ _ _ w fun e w' => e = .returned (.bool (decide (a ≤ v.a3))) ∧ Below w.heap.size w w'
   go_enter Tryz.func106, Tryz.ntmps106
   go_wp2_with (first | ((with_reducible refine qE rfl rfl ?_); (refine lJ rfl hL rfl rfl cy ?_; clear hL; intro gq wq hL)))
   refine wp_region_ext (by kernel_rfl) (by kernel_rfl) ?_
   repeat (first
    | (go_big_quiet_want; (first | refine qH hL rfl rfl vM (by rfl) ?_ | refine qG hL rfl rfl vM (by rfl) ?_ | refine qI hL rfl rfl vM SegC.seg ?_); go_big_quiet_on; simp only [Act.put, zs, zt, zu])
    | go_big_quiet_step (first | (go_at_call 176; with_reducible exact vec_is_ext a 3 true HI.out)))
   refine wpQuiet_nil ?_
   rintro _ ⟨⟨w2, hb2⟩, rfl⟩
   replace hL := hL.call hb2
   go_wp2
   go_ret
   exact ⟨rfl, hL.below⟩
  ·show Calls _ _ _ w fun e w' => e = .returned (.bool (decide (a ≤ v.a4))) ∧ Below w.heap.size w w'
   go_enter Tryz.func106, Tryz.ntmps106
   go_wp2_with (first | ((with_reducible refine qE rfl rfl ?_); (refine lJ rfl hL rfl rfl cy ?_; clear hL; intro gq wq hL)))
   refine wp_region_ext (by kernel_rfl) (by kernel_rfl) ?_
   repeat (first
    | (go_big_quiet_want; (first | refine qH hL rfl rfl vM (by rfl) ?_ | refine qG hL rfl rfl vM (by rfl) ?_ | refine qI hL rfl rfl vM SegC.seg ?_); go_big_quiet_on; simp only [Act.put, zs, zt, zu])
    | go_big_quiet_step (first | (go_at_call 176; with_reducible exact vec_is_ext a 4 true HI.out)))
   refine wpQuiet_nil ?_
   rintro _ ⟨⟨w2, hb2⟩, rfl⟩
   replace hL := hL.call hb2
   go_wp2
   go_ret
   exact ⟨rfl, hL.below⟩
  ·show Calls _ _ _ w fun e w' => e = .returned (.bool (decide (a ≤ v.a5))) ∧ Below w.heap.size w w'
   go_enter Tryz.func106, Tryz.ntmps106
   go_wp2_with (first | ((with_reducible refine qE rfl rfl ?_); (refine lJ rfl hL rfl rfl cy ?_; clear hL; intro gq wq hL)))
   refine wp_region_ext (by kernel_rfl) (by kernel_rfl) ?_
   repeat (first
    | (go_big_quiet_want; (first | refine qH hL rfl rfl vM (by rfl) ?_ | refine qG hL rfl rfl vM (by rfl) ?_ | refine qI hL rfl rfl vM SegC.seg ?_); go_big_quiet_on; simp only [Act.put, zs, zt, zu])
    | go_big_quiet_step (first | (go_at_call 176; with_reducible exact vec_is_ext a 5 true HI.out)))
   refine wpQuiet_nil ?_
   rintro _ ⟨⟨w2, hb2⟩, rfl⟩
   replace hL := hL.call hb2
   go_wp2
   go_ret
   exact ⟨rfl, hL.below⟩
  ·show Calls _ _ _ w fun e w' => e = .returned (.bool (decide (a ≤ v.a6))) ∧ Below w.heap.size w w'
   go_enter Tryz.func106, Tryz.ntmps106
   go_wp2_with (first | ((with_reducible refine qE rfl rfl ?_); (refine lJ rfl hL rfl rfl cy ?_; clear hL; intro gq wq hL)))
   refine wp_region_ext (by kernel_rfl) (by kernel_rfl) ?_
   repeat (first
    | (go_big_quiet_want; (first | refine qH hL rfl rfl vM (by rfl) ?_ | refine qG hL rfl rfl vM (by rfl) ?_ | refine qI hL rfl rfl vM SegC.seg ?_); go_big_quiet_on; simp only [Act.put, zs, zt, zu])
    | go_big_quiet_step (first | (go_at_call 176; with_reducible exact vec_is_ext a 6 true HI.out)))
   refine wpQuiet_nil ?_
   rintro _ ⟨⟨w2, hb2⟩, rfl⟩
   replace hL := hL.call hb2
   go_wp2
   go_ret
   exact ⟨rfl, hL.below⟩
  ·show Calls _ _ _ w fun e w' => e = .returned (.bool (decide (a ≤ v.a7))) ∧ Below w.heap.size w w'
   go_enter Tryz.func106, Tryz.ntmps106
   go_wp2_with (first | ((with_reducible refine qE rfl rfl ?_); (refine lJ rfl hL rfl rfl cy ?_; clear hL; intro gq wq hL)))
   refine wp_region_ext (by kernel_rfl) (by kernel_rfl) ?_
   repeat (first
    | (go_big_quiet_want; (first | refine qH hL rfl rfl vM (by rfl) ?_ | refine qG hL rfl rfl vM (by rfl) ?_ | refine qI hL rfl rfl vM SegC.seg ?_); go_big_quiet_on; simp only [Act.put, zs, zt, zu])
    | go_big_quiet_step (first | (go_at_call 176; with_reducible exact vec_is_ext a 7 true HI.out)))
   refine wpQuiet_nil ?_
   rintro _ ⟨⟨w2, hb2⟩, rfl⟩
   replace hL := hL.call hb2
   go_wp2
   go_ret
   exact ⟨rfl, hL.below⟩
end Go.Proofs.YtebpacmhdkgfeaaGreat

namespace Go.Proofs.YtebpacmhdkgfeaaGreat
open Go.RowKit
set_option maxHeartbeats 2000000
theorem vec_eq (u v : V8) {r : Bool} (h : decide (u = v) = r) : ∀ w, (binOp .eql 23 (.agg #[.int .i64 u.a0, .int .i64 u.a1, .int .i64 u.a2, .int .i64 u.a3, .int .i64 u.a4, .int .i64 u.a5, .int .i64 u.a6, .int .i64 u.a7]) (.agg #[.int .i64 v.a0, .int .i64 v.a1, .int .i64 v.a2, .int .i64 v.a3, .int .i64 v.a4, .int .i64 v.a5, .int .i64 v.a6, .int .i64 v.a7])).run Tryz.prog w = .ok (.bool r) w := by
 have h0 : eqCells Tryz.prog 3 23 [.int .i64 u.a0, .int .i64 u.a1, .int .i64 u.a2, .int .i64 u.a3, .int .i64 u.a4, .int .i64 u.a5, .int .i64 u.a6, .int .i64 u.a7] [.int .i64 v.a0, .int .i64 v.a1, .int .i64 v.a2, .int .i64 v.a3, .int .i64 v.a4, .int .i64 v.a5, .int .i64 v.a6, .int .i64 v.a7] = some (u.a0 == v.a0 && (u.a1 == v.a1 && (u.a2 == v.a2 && (u.a3 == v.a3 && (u.a4 == v.a4 && (u.a5 == v.a5 && (u.a6 == v.a6 && (u.a7 == v.a7 && true)))))))) := by kernel_rfl
 have e : (u.a0 == v.a0 && (u.a1 == v.a1 && (u.a2 == v.a2 && (u.a3 == v.a3 && (u.a4 == v.a4 && (u.a5 == v.a5 && (u.a6 == v.a6 && (u.a7 == v.a7 && true)))))))) = r := by
  rw [← h]
  obtain ⟨a0, a1, a2, a3, a4, a5, a6, a7⟩ := u
  obtain ⟨b0, b1, b2, b3, b4, b5, b6, b7⟩ := v
  rw [Bool.eq_iff_iff]; simp
 rw [e] at h0
 exact run_eql_cells 3 (by decide) (by kernel_rfl) h0
theorem within_join (a b : V8) : decide (a.join b = b) = a.within b := by
 obtain ⟨a0, a1, a2, a3, a4, a5, a6, a7⟩ := a
 obtain ⟨b0, b1, b2, b3, b4, b5, b6, b7⟩ := b
 have key : ∀ x y : Int, imax x y = y ↔ x ≤ y := fun x y => by unfold imax; split <;> omega
 rw [Bool.eq_iff_iff, V8.within_iff, decide_eq_true_eq]
 simp only [V8.join, V8.mk.injEq, key]
theorem vec_within (a b : V8) (w : World) : Calls Tryz.prog 75 #[.agg #[.int .i64 a.a0, .int .i64 a.a1, .int .i64 a.a2, .int .i64 a.a3, .int .i64 a.a4, .int .i64 a.a5, .int .i64 a.a6, .int .i64 a.a7], .agg #[.int .i64 b.a0, .int .i64 b.a1, .int .i64 b.a2, .int .i64 b.a3, .int .i64 b.a4, .int .i64 b.a5, .int .i64 b.a6, .int .i64 b.a7]] w fun e w' => e = .returned (.bool (a.within b)) ∧ Below w.heap.size w w' := by
 have hL := Loc.nil w NoM
 have he := vec_eq (a.join b) b (within_join a b)
 obtain ⟨c, hc⟩ : ∃ c, a.join b = c := ⟨_, rfl⟩
 rw [hc] at he
 have HC := kD hc
 clear hc
 generalize a.within b = r at *
 go_enter Tryz.func75, Tryz.ntmps75
 go_wp2_with (first | ((with_reducible refine gate (N := 2) rfl ?_); (refine lJ rfl hL rfl rfl cy ?_; clear hL; intro g2 w2 hL)) | ((with_reducible refine gate (N := 3) rfl ?_); (refine lJ rfl hL rfl rfl cy ?_; clear hL; intro g3 w3 hL)))
 (try simp only [Act.put, zs, zt, zu])
 refine wp_region_ext (by kernel_rfl) (by kernel_rfl) ?_
 repeat (first
  | (go_big_quiet_want; (first | refine qH hL rfl rfl vM (by rfl) ?_ | refine qG hL rfl rfl vM (by rfl) ?_ | refine qI hL rfl rfl vM SegC.seg ?_); go_big_quiet_on; simp only [Act.put, zs, zt, zu])
  | go_big_quiet_step (first | (go_at_call 28; with_reducible exact join_ext a b c HC.out)))
 refine wpQuiet_nil ?_
 rintro _ ⟨⟨w9, hb9⟩, rfl⟩
 replace hL := hL.call hb9
 go_wp2
 go_ret
 exact ⟨rfl, hL.below⟩
theorem join_alive (l : Lnk) (w : World) : Calls Tryz.prog 23 #[.agg (encK.cells l).toArray] w fun e w' => e = .returned (.bool (!l.alive.within l.dead)) ∧ Below w.heap.size w w' := by
 have hL := Loc.nil w NoM
 have hq := kD (fun wx => vec_within l.alive l.dead wx)
 generalize l.alive.within l.dead = r at *
 unfold encK Lnk.cells
 simp only
 go_enter Tryz.func23, Tryz.ntmps23
 go_wp2_with (first
  | ((with_reducible refine gate (N := 1) rfl ?_); (refine lJ rfl hL rfl rfl cy ?_; clear hL; intro g1 w1 hL))
  | (go_at_call 75; (with_reducible refine (hq.out _).mono ?_); rintro e w9 ⟨rfl, hb9⟩; have hL := hL.call hb9; clear hb9)
  | ((with_reducible refine qB rfl rfl ?_); (refine lF rfl hL rfl rfl vM SegC.seg ?_)))
 go_ret
 exact ⟨rfl, hL.below⟩
def imin (a b : Int) : Int := if b < a then b else a
def V8.meet (a b : V8) : V8 := ⟨imin a.a0 b.a0, imin a.a1 b.a1, imin a.a2 b.a2, imin a.a3 b.a3, imin a.a4 b.a4, imin a.a5 b.a5, imin a.a6 b.a6, imin a.a7 b.a7⟩
theorem run_minI (ts : Array TypeId) (t : TypeId) (x y : Int) (w : World) : (Builtin.min_ ts t #[.int .i64 x, .int .i64 y]).run Tryz.prog w = .ok (.int .i64 (imin x y)) w := by
 simp [Builtin.min_, Builtin.min2, imin, Sem.run, go_sem]
set_option maxRecDepth 20000 in
theorem vec_meet (a b : V8) (w : World) : Calls Tryz.prog 66 #[.agg #[.int .i64 a.a0, .int .i64 a.a1, .int .i64 a.a2, .int .i64 a.a3, .int .i64 a.a4, .int .i64 a.a5, .int .i64 a.a6, .int .i64 a.a7], .agg #[.int .i64 b.a0, .int .i64 b.a1, .int .i64 b.a2, .int .i64 b.a3, .int .i64 b.a4, .int .i64 b.a5, .int .i64 b.a6, .int .i64 b.a7]] w fun e w' => (∃ c, c = a.meet b ∧ e = .returned (.agg #[.int .i64 c.a0, .int .i64 c.a1, .int .i64 c.a2, .int .i64 c.a3, .int .i64 c.a4, .int .i64 c.a5, .int .i64 c.a6, .int .i64 c.a7])) ∧ Below w.heap.size w w' := by
 have hL := Loc.nil w NoM
 obtain ⟨a0, a1, a2, a3, a4, a5, a6, a7⟩ := a
 obtain ⟨b0, b1, b2, b3, b4, b5, b6, b7⟩ := b
 have hmx := run_minI
 have hx0 : ∀ w, (Instr.index 23 (.agg #[.int .i64 b0, .int .i64 b1, .int .i64 b2, .int .i64 b3, .int .i64 b4, .int .i64 b5, .int .i64 b6, .int .i64 b7]) (.int .i64 0)).run Tryz.prog w = .ok (.int .i64 b0) w := idx8 ⟨b0, b1, b2, b3, b4, b5, b6, b7⟩ 0 (by decide)
 have hx1 : ∀ w, (Instr.index 23 (.agg #[.int .i64 b0, .int .i64 b1, .int .i64 b2, .int .i64 b3, .int .i64 b4, .int .i64 b5, .int .i64 b6, .int .i64 b7]) (.int .i64 1)).run Tryz.prog w = .ok (.int .i64 b1) w := idx8 ⟨b0, b1, b2, b3, b4, b5, b6, b7⟩ 1 (by decide)
 have hx2 : ∀ w, (Instr.index 23 (.agg #[.int .i64 b0, .int .i64 b1, .int .i64 b2, .int .i64 b3, .int .i64 b4, .int .i64 b5, .int .i64 b6, .int .i64 b7]) (.int .i64 2)).run Tryz.prog w = .ok (.int .i64 b2) w := idx8 ⟨b0, b1, b2, b3, b4, b5, b6, b7⟩ 2 (by decide)
 have hx3 : ∀ w, (Instr.index 23 (.agg #[.int .i64 b0, .int .i64 b1, .int .i64 b2, .int .i64 b3, .int .i64 b4, .int .i64 b5, .int .i64 b6, .int .i64 b7]) (.int .i64 3)).run Tryz.prog w = .ok (.int .i64 b3) w := idx8 ⟨b0, b1, b2, b3, b4, b5, b6, b7⟩ 3 (by decide)
 have hx4 : ∀ w, (Instr.index 23 (.agg #[.int .i64 b0, .int .i64 b1, .int .i64 b2, .int .i64 b3, .int .i64 b4, .int .i64 b5, .int .i64 b6, .int .i64 b7]) (.int .i64 4)).run Tryz.prog w = .ok (.int .i64 b4) w := idx8 ⟨b0, b1, b2, b3, b4, b5, b6, b7⟩ 4 (by decide)
 have hx5 : ∀ w, (Instr.index 23 (.agg #[.int .i64 b0, .int .i64 b1, .int .i64 b2, .int .i64 b3, .int .i64 b4, .int .i64 b5, .int .i64 b6, .int .i64 b7]) (.int .i64 5)).run Tryz.prog w = .ok (.int .i64 b5) w := idx8 ⟨b0, b1, b2, b3, b4, b5, b6, b7⟩ 5 (by decide)
 have hx6 : ∀ w, (Instr.index 23 (.agg #[.int .i64 b0, .int .i64 b1, .int .i64 b2, .int .i64 b3, .int .i64 b4, .int .i64 b5, .int .i64 b6, .int .i64 b7]) (.int .i64 6)).run Tryz.prog w = .ok (.int .i64 b6) w := idx8 ⟨b0, b1, b2, b3, b4, b5, b6, b7⟩ 6 (by decide)
 have hx7 : ∀ w, (Instr.index 23 (.agg #[.int .i64 b0, .int .i64 b1, .int .i64 b2, .int .i64 b3, .int .i64 b4, .int .i64 b5, .int .i64 b6, .int .i64 b7]) (.int .i64 7)).run Tryz.prog w = .ok (.int .i64 b7) w := idx8 ⟨b0, b1, b2, b3, b4, b5, b6, b7⟩ 7 (by decide)
 go_enter Tryz.func66, Tryz.ntmps66
 go_wp2_with (first | ((with_reducible refine gate (N := 2) rfl ?_); (refine lJ rfl hL rfl rfl cy ?_; clear hL; intro g2 w2 hL)) | ((with_reducible refine gate (N := 3) rfl ?_); (refine lJ rfl hL rfl rfl cy ?_; clear hL; intro g3 w3 hL)) | ((with_reducible refine gate (N := 4) rfl ?_); (refine lI rfl hL rfl cy ?_; clear hL; intro g4 w4 hL)) | ((with_reducible refine qB rfl rfl ?_); (refine lA rfl hL rfl rfl vM (by rfl) ?_)))
 refine wp_loop_rounds 9 ?_
 rw [rounds_succ]
 go_wp2_with (first | ((with_reducible refine qB rfl rfl ?_); (refine lC rfl hL rfl rfl vM (by rfl) ?_)) | ((with_reducible refine qC rfl rfl ?_); (refine lH rfl hL rfl rfl rfl cy (by rfl) ?_); clear hL; intro wq hL))
 rw [rounds_succ]
 go_wp2_with (first | ((with_reducible refine qB rfl rfl ?_); (refine lC rfl hL rfl rfl vM (by rfl) ?_)) | ((with_reducible refine qC rfl rfl ?_); (refine lH rfl hL rfl rfl rfl cy (by rfl) ?_); clear hL; intro wq hL))
 rw [rounds_succ]
 go_wp2_with (first | ((with_reducible refine qB rfl rfl ?_); (refine lC rfl hL rfl rfl vM (by rfl) ?_)) | ((with_reducible refine qC rfl rfl ?_); (refine lH rfl hL rfl rfl rfl cy (by rfl) ?_); clear hL; intro wq hL))
 rw [rounds_succ]
 go_wp2_with (first | ((with_reducible refine qB rfl rfl ?_); (refine lC rfl hL rfl rfl vM (by rfl) ?_)) | ((with_reducible refine qC rfl rfl ?_); (refine lH rfl hL rfl rfl rfl cy (by rfl) ?_); clear hL; intro wq hL))
 rw [rounds_succ]
 go_wp2_with (first | ((with_reducible refine qB rfl rfl ?_); (refine lC rfl hL rfl rfl vM (by rfl) ?_)) | ((with_reducible refine qC rfl rfl ?_); (refine lH rfl hL rfl rfl rfl cy (by rfl) ?_); clear hL; intro wq hL))
 rw [rounds_succ]
 go_wp2_with (first | ((with_reducible refine qB rfl rfl ?_); (refine lC rfl hL rfl rfl vM (by rfl) ?_)) | ((with_reducible refine qC rfl rfl ?_); (refine lH rfl hL rfl rfl rfl cy (by rfl) ?_); clear hL; intro wq hL))
 rw [rounds_succ]
 go_wp2_with (first | ((with_reducible refine qB rfl rfl ?_); (refine lC rfl hL rfl rfl vM (by rfl) ?_)) | ((with_reducible refine qC rfl rfl ?_); (refine lH rfl hL rfl rfl rfl cy (by rfl) ?_); clear hL; intro wq hL))
 rw [rounds_succ]
 go_wp2_with (first | ((with_reducible refine qB rfl rfl ?_); (refine lC rfl hL rfl rfl vM (by rfl) ?_)) | ((with_reducible refine qC rfl rfl ?_); (refine lH rfl hL rfl rfl rfl cy (by rfl) ?_); clear hL; intro wq hL))
 rw [rounds_succ]
 go_wp2_with (first | ((with_reducible refine qB rfl rfl ?_); (refine lA rfl hL rfl rfl vM (by rfl) ?_)) | ((with_reducible refine qC rfl rfl ?_); (refine lH rfl hL rfl rfl rfl cy (by rfl) ?_); clear hL; intro wq hL))
 exact bodyPost_ret (res_cell rfl hL _ rfl vM (by rfl)) rfl ⟨⟨_, rfl, rfl⟩, hL.below⟩
end Go.Proofs.YtebpacmhdkgfeaaGreat

namespace Go.Proofs.YtebpacmhdkgfeaaGreat
open Go.RowKit
set_option maxHeartbeats 2000000 in
theorem clone_pieces (v : Value) (xs : List Pce) (w : World) (h : encPc.R w v xs) (hn : xs.length ≤ 1000000000) :
  Calls Tryz.prog 26 #[v] w fun e w' => ∃ u, e = .returned u ∧ Loc w NoM w' [row encPc w.heap.size 61 u xs] := by
 have hL := Loc.nil w NoM
 have HR := kD h
 obtain ⟨ao, c, rfl, hel⟩ := R_elem h
 have hq : ∀ w, (binOp .eql 55 (.slice ao xs.length c) (.slice none 0 0)).run Tryz.prog w = .ok (.bool ao.isNone) w := fun w => Lib.run_eql_slice_nil w 55 61 ao xs.length c 0 0 Tryz.underlying55
 clear h
 cases ao with
 | none =>
  obtain rfl : xs = [] := by
   cases xs with
   | nil => rfl
   | cons x l => obtain ⟨g, off, e, -⟩ := hel 0 (by simp); cases e
  have hq : ∀ w, (binOp .eql 55 (.slice none 0 c) (.slice none 0 0)).run Tryz.prog w = .ok (.bool true) w := hq
  have hL := hL.rowOff encPc w.heap.size 61
  clear HR hel
  show Calls _ _ #[.slice none 0 c] w _
  go_enter Tryz.func26, Tryz.ntmps26
  go_wp2_with fail
  go_ret
  exact ⟨_, rfl, hL⟩
 | some a =>
  have hq : ∀ w, (binOp .eql 55 (.slice (some a) xs.length c) (.slice none 0 0)).run Tryz.prog w = .ok (.bool false) w := hq
  clear hel
  go_enter Tryz.func26, Tryz.ntmps26
  go_wp2_with (first
   | ((with_reducible refine gLit rfl rfl ?_); refine ev_lit0 encPc w.heap.size rfl hL rfl (Nat.le_refl _) ?_; clear hL; intro gq wq hL)
   | (at_builtin; refine ev_appL (E := encPc) xs rfl hL rfl rfl rfl (HR.out.below hL.below) (fun _ => sx) rfl rfl (by simpa using Nat.le_trans hn (by decide)) hL.size ?_; clear hL; intro v' wq hL))
  go_ret
  exact ⟨_, rfl, by simpa using hL⟩
set_option maxHeartbeats 2000000 in
theorem clone_xattrs (v : Value) (xs : List Xat) (w : World) (h : encXt.R w v xs) (hn : xs.length ≤ 1000000000) :
  Calls Tryz.prog 27 #[v] w fun e w' => ∃ u, e = .returned u ∧ Loc w NoM w' [row encXt w.heap.size 64 u xs] := by
 have hL := Loc.nil w NoM
 have HR := kD h
 obtain ⟨ao, c, rfl, hel⟩ := R_elem h
 have hq : ∀ w, (binOp .eql 56 (.slice ao xs.length c) (.slice none 0 0)).run Tryz.prog w = .ok (.bool ao.isNone) w := fun w => Lib.run_eql_slice_nil w 56 64 ao xs.length c 0 0 Tryz.underlying56
 clear h
 cases ao with
 | none =>
  obtain rfl : xs = [] := by
   cases xs with
   | nil => rfl
   | cons x l => obtain ⟨g, off, e, -⟩ := hel 0 (by simp); cases e
  have hq : ∀ w, (binOp .eql 56 (.slice none 0 c) (.slice none 0 0)).run Tryz.prog w = .ok (.bool true) w := hq
  have hL := hL.rowOff encXt w.heap.size 64
  clear HR hel
  show Calls _ _ #[.slice none 0 c] w _
  go_enter Tryz.func27, Tryz.ntmps27
  go_wp2_with fail
  go_ret
  exact ⟨_, rfl, hL⟩
 | some a =>
  have hq : ∀ w, (binOp .eql 56 (.slice (some a) xs.length c) (.slice none 0 0)).run Tryz.prog w = .ok (.bool false) w := hq
  clear hel
  go_enter Tryz.func27, Tryz.ntmps27
  go_wp2_with (first
   | ((with_reducible refine gLit rfl rfl ?_); refine ev_lit0 encXt w.heap.size rfl hL rfl (Nat.le_refl _) ?_; clear hL; intro gq wq hL)
   | (at_builtin; refine ev_appL (E := encXt) xs rfl hL rfl rfl rfl (HR.out.below hL.below) (fun _ => sx) rfl rfl (by simpa using Nat.le_trans hn (by decide)) hL.size ?_; clear hL; intro v' wq hL))
  go_ret
  exact ⟨_, rfl, by simpa using hL⟩
set_option maxHeartbeats 2000000 in
theorem clone_links (v : Value) (xs : List Lnk) (w : World) (h : encK.R w v xs) (hn : xs.length ≤ 1000000000) :
  Calls Tryz.prog 24 #[v] w fun e w' => ∃ u, e = .returned u ∧ Loc w NoM w' [row encK w.heap.size 46 u xs] := by
 have hL := Loc.nil w NoM
 have HR := kD h
 obtain ⟨ao, c, rfl, hel⟩ := R_elem h
 have hq : ∀ w, (binOp .eql 25 (.slice ao xs.length c) (.slice none 0 0)).run Tryz.prog w = .ok (.bool ao.isNone) w := fun w => Lib.run_eql_slice_nil w 25 46 ao xs.length c 0 0 Tryz.underlying25
 clear h
 cases ao with
 | none =>
  obtain rfl : xs = [] := by
   cases xs with
   | nil => rfl
   | cons x l => obtain ⟨g, off, e, -⟩ := hel 0 (by simp); cases e
  have hq : ∀ w, (binOp .eql 25 (.slice none 0 c) (.slice none 0 0)).run Tryz.prog w = .ok (.bool true) w := hq
  have hL := hL.rowOff encK w.heap.size 46
  clear HR hel
  show Calls _ _ #[.slice none 0 c] w _
  go_enter Tryz.func24, Tryz.ntmps24
  go_wp2_with fail
  go_ret
  exact ⟨_, rfl, hL⟩
 | some a =>
  have hq : ∀ w, (binOp .eql 25 (.slice (some a) xs.length c) (.slice none 0 0)).run Tryz.prog w = .ok (.bool false) w := hq
  clear hel
  go_enter Tryz.func24, Tryz.ntmps24
  go_wp2_with (first
   | ((with_reducible refine gLit rfl rfl ?_); refine ev_lit0 encK w.heap.size rfl hL rfl (Nat.le_refl _) ?_; clear hL; intro gq wq hL)
   | (at_builtin; refine ev_appL (E := encK) xs rfl hL rfl rfl rfl (HR.out.below hL.below) (fun _ => sx) rfl rfl (by simpa using Nat.le_trans hn (by decide)) hL.size ?_; clear hL; intro v' wq hL))
  go_ret
  exact ⟨_, rfl, by simpa using hL⟩
set_option maxHeartbeats 2000000 in
theorem clone_nodes (v : Value) (xs : List Nd) (w : World) (h : encN.R w v xs) (hn : xs.length ≤ 1000000000) :
  Calls Tryz.prog 25 #[v] w fun e w' => ∃ u, e = .returned u ∧ Loc w NoM w' [row encN w.heap.size 58 u xs] := by
 have hL := Loc.nil w NoM
 have HR := kD h
 obtain ⟨ao, c, rfl, hel⟩ := R_elem h
 have hq : ∀ w, (binOp .eql 24 (.slice ao xs.length c) (.slice none 0 0)).run Tryz.prog w = .ok (.bool ao.isNone) w := fun w => Lib.run_eql_slice_nil w 24 58 ao xs.length c 0 0 Tryz.underlying24
 clear h
 cases ao with
 | none =>
  obtain rfl : xs = [] := by
   cases xs with
   | nil => rfl
   | cons x l => obtain ⟨g, off, e, -⟩ := hel 0 (by simp); cases e
  have hq : ∀ w, (binOp .eql 24 (.slice none 0 c) (.slice none 0 0)).run Tryz.prog w = .ok (.bool true) w := hq
  have hL := hL.rowOff encN w.heap.size 58
  clear HR hel
  show Calls _ _ #[.slice none 0 c] w _
  go_enter Tryz.func25, Tryz.ntmps25
  go_wp2_with fail
  go_ret
  exact ⟨_, rfl, hL⟩
 | some a =>
  have hq : ∀ w, (binOp .eql 24 (.slice (some a) xs.length c) (.slice none 0 0)).run Tryz.prog w = .ok (.bool false) w := hq
  clear hel
  go_enter Tryz.func25, Tryz.ntmps25
  go_wp2_with (first
   | ((with_reducible refine gLit rfl rfl ?_); refine ev_lit0 encN w.heap.size rfl hL rfl (Nat.le_refl _) ?_; clear hL; intro gq wq hL)
   | (at_builtin; refine ev_appL (E := encN) xs rfl hL rfl rfl rfl (HR.out.below hL.below) (fun _ => sx) rfl rfl (by simpa using Nat.le_trans hn (by decide)) hL.size ?_; clear hL; intro v' wq hL))
  go_ret
  exact ⟨_, rfl, by simpa using hL⟩
end Go.Proofs.YtebpacmhdkgfeaaGreat

namespace Go.Proofs.YtebpacmhdkgfeaaGreat
open Go.RowKit Go.Maps
set_option linter.unusedSectionVars false
section
variable {κ : Type} [DecidableEq κ]
variable {P : Program} {K : TypeId} (val : κ → Value)
def IsMap (P : Program) (K : TypeId) (w : World) (g : Nat) (kvs : List (κ × Value)) : Prop :=
 ∃ es clock, w.heap[g]? = some (.map es clock) ∧ es.toList.map (fun e => (e.key, e.val)) = kvs.map (fun p => (val p.1, p.2)) ∧ (∀ p ∈ kvs, ∃ l, keyOf P K (val p.1) = some l) ∧ (kvs.map (·.1)).Nodup
variable {val} {w : World} {g : Nat} {kvs : List (κ × Value)}
theorem IsMap.lt (h : IsMap val P K w g kvs) : g < w.heap.size := by
 obtain ⟨es, c, h1, -⟩ := h
 exact (Array.getElem?_eq_some_iff.1 h1).1
end
section
variable {P : Program} {ops : Array Oper} {rest : List Oper} {o : Oper} {a : Act} {Q : Exit → Act → World → Prop} {W w0 : World} {M : Nat → Prop} {l l' : List Item} {κ : Type} [DecidableEq κ] {K : TypeId} {val : κ → Value} {g : Nat} {kvs : List (κ × Value)}
theorem eventS (hgd : o.guard = none) {w1 : World} (hrun : (execOp a.eval o).run P W = .ok .skip w1) (h : wpList P ops Q rest (a.put o.dst undef) w1) : wpList P ops Q (o :: rest) a W := by
 refine wpList_plain hgd fun K hK => ?_
 unfold Oper.wp
 rw [hrun]
 exact hK _ _ h
end
end Go.Proofs.YtebpacmhdkgfeaaGreat

namespace Go.Proofs.YtebpacmhdkgfeaaGreat
open Go.RowKit Go.Maps Go.WideMaps
set_option maxHeartbeats 4000000
set_option maxRecDepth 20000
theorem stamp_neql (a b : Mk) {r : Bool} (h : decide (a = b) = r) : ∀ w, (binOp .neq 44 (.agg #[.int .i64 a.boot, .int .i64 a.n]) (.agg #[.int .i64 b.boot, .int .i64 b.n])).run Tryz.prog w = .ok (.bool (!r)) w := by
 have h0 : eqCells Tryz.prog 3 44 [.int .i64 a.boot, .int .i64 a.n] [.int .i64 b.boot, .int .i64 b.n] = some (a.boot == b.boot && (a.n == b.n && true)) := by kernel_rfl
 have e : (a.boot == b.boot && (a.n == b.n && true)) = r := by
  rw [← h]
  obtain ⟨a1, a2⟩ := a; obtain ⟨b1, b2⟩ := b
  rw [Bool.eq_iff_iff]; simp
 rw [e] at h0
 exact run_neq_cells 3 (by decide) (by kernel_rfl) h0
structure Cut where
 s : Sta
 st : V8
def Cut.cells (c : Cut) : List Value := [.int .i64 c.s.seen.a0, .int .i64 c.s.seen.a1, .int .i64 c.s.seen.a2, .int .i64 c.s.seen.a3, .int .i64 c.s.seen.a4, .int .i64 c.s.seen.a5, .int .i64 c.s.seen.a6, .int .i64 c.s.seen.a7, .slice c.s.nodes.a c.s.nodes.n c.s.nodes.c, .slice c.s.links.a c.s.links.n c.s.links.c,
 .int .i64 c.st.a0, .int .i64 c.st.a1, .int .i64 c.st.a2, .int .i64 c.st.a3, .int .i64 c.st.a4, .int .i64 c.st.a5, .int .i64 c.st.a6, .int .i64 c.st.a7]
theorem moved_1 (c : Cut) (l : Lnk) (g1 gc : Nat) (w : World) (h1 : Box w g1 #[.pointer (some ⟨gc, 0, none⟩)] 102) (hm : l.at_ = l.id) :
  Calls Tryz.prog 155 #[.agg (encK.cells l).toArray, .pointer (some ⟨g1, 0, none⟩)] w fun e w' => e = .returned (.bool false) ∧ Below w.heap.size w w' := by
 have hL := Loc.nil w NoM
 have hn := stamp_neql l.at_ l.id (r := true) (by simp [hm])
 unfold encK Lnk.cells
 simp only
 clear hm
 go_enter Tryz.func155, Tryz.ntmps155
 go_wp2_with (first | ((with_reducible refine gate (N := 2) rfl ?_); (refine lJ rfl hL rfl rfl cy ?_; clear hL; intro g2 w2 hL)))
 (try simp only [Act.put, zs, zt, zu])
 refine wp_region_ext (by kernel_rfl) (by kernel_rfl) ?_
 repeat (first | (go_big_quiet_want; (first | refine qH hL rfl rfl vM (by rfl) ?_ | refine qG hL rfl rfl vM (by rfl) ?_ | refine qI hL rfl rfl vM SegC.seg ?_); go_big_quiet_on; simp only [Act.put, zs, zt, zu]) | go_big_quiet_step (fail))
 refine wpQuiet_nil ?_
 rintro _ ⟨⟨w9, hb9⟩, rfl⟩
 replace hL := hL.call hb9
 go_wp2
 go_ret
 exact ⟨rfl, hL.below⟩
theorem idx_links (v : Value) (l : Lnk) (g1 gc : Nat) (w : World) (hl : encK.R w v [l]) (h1 : Box w g1 #[.pointer (some ⟨gc, 0, none⟩)] 102) (c : Cut) (hm : l.at_ = l.id) :
  Calls Tryz.prog 109 #[v, .func (.func 155) #[] #[.pointer (some ⟨g1, 0, none⟩)]] w fun e w' => e = .returned (.int .i64 (-1)) ∧ Below w.heap.size w w' := by
 have hL := Loc.nil w NoM
 obtain ⟨ao, cc, rfl, hel⟩ := R_elem hl
 obtain ⟨g, off, rfl, hr⟩ := hel 0 (by simp)
 have hz : w.rangeAt g (off + 0 * 25) (Lnk.cells l) := hr
 have hq := kD (fun wx hb => moved_1 c l g1 gc wx (h1.below hb) hm)
 unfold Lnk.cells at hz
 clear hl hel hr h1 hm
 simp only [List.length_singleton]
 go_enter Tryz.func109, Tryz.ntmps109
 go_wp2_with fail
 refine wp_loop_rounds 2 ?_
 rw [rounds_succ]
 go_wp2_with (first
  | ((with_reducible refine qF rfl rfl ?_); refine lL (i := 0) rfl rfl rfl rfl (by decide) ?_)
  | ((with_reducible refine gate (N := 15) rfl ?_); refine lK rfl rfl rfl hz (by rfl) ?_)
  | (go_at_call 155; (refine (hq.out _ hL.below).mono ?_); rintro e w9 ⟨rfl, hb9⟩; have hL := hL.call hb9; clear hb9))
 rw [rounds_succ]
 go_wp2
 go_ret
 exact ⟨rfl, hL.below⟩
theorem has_links (v : Value) (l : Lnk) (g1 gc : Nat) (w : World) (hl : encK.R w v [l]) (h1 : Box w g1 #[.pointer (some ⟨gc, 0, none⟩)] 102) (c : Cut) (hm : l.at_ = l.id) :
  Calls Tryz.prog 110 #[v, .func (.func 155) #[] #[.pointer (some ⟨g1, 0, none⟩)]] w fun e w' => e = .returned (.bool false) ∧ Below w.heap.size w w' := by
 have hL := Loc.nil w NoM
 have hq := kD (idx_links v l g1 gc w hl h1 c hm)
 clear hl h1 hm
 go_enter Tryz.func110, Tryz.ntmps110
 go_wp2_with (first
  | (go_at_call 109; (with_reducible refine hq.out.mono ?_); rintro e w9 ⟨rfl, hb9⟩; have hL := hL.call hb9; clear hb9))
 go_ret
 exact ⟨rfl, hL.below⟩
theorem cut_moved (c : Cut) (l : Lnk) (gc : Nat) (w : World) (hx : Box w gc c.cells.toArray 104) (hl : encK.R w c.s.links.val [l]) (hm : l.at_ = l.id) :
  Calls Tryz.prog 67 #[.pointer (some ⟨gc, 0, none⟩)] w fun e w' => e = .returned (.bool false) ∧ Below w.heap.size w w' := by
 have hL := Loc.nil w NoM
 have HL := kD hl
 have HM := kD hm
 unfold Cut.cells at hx
 unfold Sl.val at HL
 clear hl hm
 go_enter Tryz.func67, Tryz.ntmps67
 go_wp2_with (first
  | ((with_reducible refine gate (N := 1) rfl ?_); (refine lJ rfl hL rfl rfl cy ?_; clear hL; intro g1 w1 hL))
  | (go_at_call 110; have hq := has_links (.slice c.s.links.a c.s.links.n c.s.links.c) l g1 gc _ (HL.out.below hL.below) (hL.box (g := g1) vM) c HM.out; (with_reducible refine hq.mono ?_); rintro e w9 ⟨rfl, hb9⟩; clear hq; have hL := hL.call hb9; clear hb9)
  | ((with_reducible refine qB rfl rfl ?_); (first | (refine ev_loadB1 rfl (Loc.old hL hx not_noM) rfl rfl (by rfl) ?_) | (refine ev_loadBA rfl (Loc.old hL hx not_noM) rfl rfl (by repeat (first | exact .nil _ | with_reducible apply Seg.take | with_reducible apply Seg.skip)) ?_))) | ((with_reducible refine qA rfl rfl ?_ ?_); (exact wz rfl rfl rfl (by with_reducible rfl)); (refine ev_loadB1G (wz rfl rfl rfl rfl) (Loc.old hL hx not_noM) rfl rfl (by rfl) ?_))
  | ((with_reducible refine qB rfl rfl ?_); (refine lC rfl hL rfl rfl vM (by rfl) ?_)))
 go_ret
 exact ⟨rfl, hL.below⟩
theorem laidOutP : laidOutB Tryz.prog = true := by kernel_rfl
theorem stamp_keyed : Keyed Tryz.prog 44 := Keyed.of_law (deep_law_laid laidOutP (m := 9) (by omega) (of_decide_eq_true (by kernel_rfl)) (by kernel_rfl) (by kernel_rfl))
def mraw (g : Nat) (es : Array MapEntry) (c : Nat) : Item := ⟨(· = g), fun w => w.heap[g]? = some (.map es c)⟩
theorem mraw_at {w : World} {g c : Nat} {es : Array MapEntry} (h : w.heap[g]? = some (.map es c)) : (mraw g es c).At w := ⟨h, fun k hk => by cases hk; exact (Array.getElem?_eq_some_iff.1 h).1, fun w' _ hb => (hb g rfl).trans h⟩
section
variable {ops : Array Oper} {rest : List Oper} {o : Oper} {a : Act} {Q : Exit → Act → World → Prop} {W w0 : World} {M : Nat → Prop} {l l' : List Item} {K t e : TypeId} {g : Nat}
theorem mod_set {W : World} {g : Nat} (ob : Obj) : Mod (· = g) W { W with heap := W.heap.setIfInBounds g ob } := ⟨rfl, rfl, rfl, by simp, fun k _ hk => by simp [Array.getElem?_setIfInBounds_ne (fun e : g = k => hk e.symm)]⟩
theorem heap_set {W : World} {g : Nat} (hg : g < W.heap.size) (ob : Obj) : ({ W with heap := W.heap.setIfInBounds g ob } : World).heap[g]? = some ob := by simp [hg]
theorem ev_mkmap (hgd : o.guard = none) (hL : Loc w0 M W l) (ho : o.op = .makeMap t none)
  (h : ∀ g w1, Loc w0 M w1 (mraw g #[] 0 :: l) → wpList Tryz.prog ops Q rest (a.put o.dst (.map (some g))) w1) : wpList Tryz.prog ops Q (o :: rest) a W := by
 refine event hgd (v := .map (some W.heap.size)) (w1 := W.alloc (.map #[] 0)) ?_ (h _ _ (hL.callNew (bl_alloc (Below.refl _ _) _) (mraw_at ?_) fun k hk => by cases hk; exact Nat.le_refl _))
 ·simp [execOp, ho, Instr.makeMap, newObj, Sem.run]
 ·show (W.heap.push (Obj.map #[] 0))[W.heap.size]? = _
  simp
theorem ev_mput0 {m x v : Operand} {k u : Value} {ly : Lit} (KL : Keyed Tryz.prog K) (ht : Tryz.prog.underlying t = some (.map K e)) (hgd : o.guard = none) (hL : Loc w0 M W l) (ho : o.op = .mapUpdate t m x v) (hm : a.eval m = .map (some g)) (hx : a.eval x = k) (hv : a.eval v = u) (hy : keyOf Tryz.prog K k = some ly)
  (hs : Swap (mraw g #[] 0) (mraw g #[⟨k, u, 0⟩] 1) l l') (h : ∀ w1, Loc w0 M w1 l' → wpList Tryz.prog ops Q rest (a.put o.dst undef) w1) : wpList Tryz.prog ops Q (o :: rest) a W := by
 have hb : W.heap[g]? = some (.map #[] 0) := hL.get hs.mem
 have hg : g < W.heap.size := (Array.getElem?_eq_some_iff.1 hb).1
 have hf : (Instr.findKey K k []).run Tryz.prog W = .ok none W := by
  rcases KL.find W hy [] (fun _ h => by cases h) with ⟨h1, -⟩ | ⟨j, e0, -, h2, -⟩
  ·exact h1
  ·simp at h2
 refine eventS hgd (w1 := { W with heap := W.heap.setIfInBounds g (.map #[⟨k, u, 0⟩] 1) }) ?_ (h _ (hL.swap hs ((mod_set _).mono fun k _ e => e) (mraw_at (heap_set hg _)) fun _ hk => .inl hk))
 simp [execOp, ho, hm, hx, hv, Instr.mapUpdate, run_underlying ht, MapKept.run_getObj_map hb, KL.check W _ hy, hf, MapKept.run_setObj_map _ hb, Result.andThen]
theorem ev_entry0 {m x : Operand} {k z : Value} {ly : Lit} [hz : ZeroT Tryz.prog e z] (KL : Keyed Tryz.prog K) (ht : Tryz.prog.underlying t = some (.map K e)) (hgd : o.guard = none) (hL : Loc w0 M W l) (ho : o.op = .mapEntry t m x) (hm : a.eval m = .map (some g)) (hx : a.eval x = k) (hy : keyOf Tryz.prog K k = some ly)
  (hs : Swap (mraw g #[] 0) (mraw g #[⟨k, z, 0⟩] 1) l l') (h : ∀ w1, Loc w0 M w1 l' → wpList Tryz.prog ops Q rest (a.put o.dst (.tuple #[z, .int .i64 0])) w1) : wpList Tryz.prog ops Q (o :: rest) a W := by
 have hb : W.heap[g]? = some (.map #[] 0) := hL.get hs.mem
 have hg : g < W.heap.size := (Array.getElem?_eq_some_iff.1 hb).1
 obtain ⟨i, hi2, hzz⟩ := Option.map_eq_some_iff.1 hz.zero
 have hzr : (zeroValue e).run Tryz.prog W = .ok z W := by simp [zeroValue, typeInfo, hi2, hzz]
 have hf : (Instr.findKey K k []).run Tryz.prog W = .ok none W := by
  rcases KL.find W hy [] (fun _ h => by cases h) with ⟨h1, -⟩ | ⟨j, e0, -, h2, -⟩
  ·exact h1
  ·simp at h2
 refine event hgd (v := .tuple #[z, .int .i64 0]) (w1 := { W with heap := W.heap.setIfInBounds g (.map #[⟨k, z, 0⟩] 1) }) ?_ (h _ (hL.swap hs ((mod_set _).mono fun k _ e => e) (mraw_at (heap_set hg _)) fun _ hk => .inl hk))
 simp [execOp, ho, hm, hx, Instr.mapEntry, run_underlying ht, MapKept.run_getObj_map hb, KL.check W _ hy, hf, hzr, MapKept.run_setObj_map _ hb, Result.andThen, goInt]
theorem ev_estore0 {m x v : Operand} {k z u : Value} (hgd : o.guard = none) (hL : Loc w0 M W l) (ho : o.op = .entryStore t m x v) (hm : a.eval m = .map (some g)) (hx : a.eval x = .int .i64 0) (hv : a.eval v = u)
  (hs : Swap (mraw g #[⟨k, z, 0⟩] 1) (mraw g #[⟨k, u, 0⟩] 1) l l') (h : ∀ w1, Loc w0 M w1 l' → wpList Tryz.prog ops Q rest (a.put o.dst undef) w1) : wpList Tryz.prog ops Q (o :: rest) a W := by
 have hb : W.heap[g]? = some (.map #[⟨k, z, 0⟩] 1) := hL.get hs.mem
 have hg : g < W.heap.size := (Array.getElem?_eq_some_iff.1 hb).1
 refine eventS hgd (w1 := { W with heap := W.heap.setIfInBounds g (.map #[⟨k, u, 0⟩] 1) }) ?_ (h _ (hL.swap hs ((mod_set _).mono fun k _ e => e) (mraw_at (heap_set hg _)) fun _ hk => .inl hk))
 simp [execOp, ho, hm, hx, hv, Instr.entryStore, MapKept.run_getObj_map hb, MapKept.run_setObj_map _ hb, Result.andThen, asInt, asIntOf]
theorem ev_make1 {x y : Operand} {z : Value} {by_ : Nat} [hz : ZeroT Tryz.prog e z] [hsz : SizeT Tryz.prog e 1] [hb : BytesT Tryz.prog e by_] (ht : Tryz.prog.underlying t = some (.slice e)) (hz1 : z.cells = #[z]) (hby : decide (by_ ≤ 1000) = true) (hgd : o.guard = none) (hL : Loc w0 M W l) (ho : o.op = .makeSlice t x y) (hx : a.eval x = .int .i64 1) (hy : a.eval y = .int .i64 1)
  (h : ∀ g w1, Loc w0 M w1 (var g [z] e :: l) → wpList Tryz.prog ops Q rest (a.put o.dst (.slice (some ⟨g, 0, none⟩) 1 1)) w1) : wpList Tryz.prog ops Q (o :: rest) a W := by
 have h1 := run_make_row' (P := Tryz.prog) t e z by_ ht (info_of (P := Tryz.prog) (e := e)) hz1 .i64 .i64 1 (by have := of_decide_eq_true hby; omega) (by omega) W
 refine event hgd (v := .slice (some ⟨W.heap.size, 0, none⟩) 1 1) (w1 := W.alloc (.cells #[z] e)) ?_ (h _ _ (hL.callVar (bl_alloc (Below.refl _ _) _) (Box.new W _ e) (Nat.le_refl _)))
 simp only [execOp, ho, hx, hy]
 have h2 : madeCells #[z] 1 = #[z] := by
  have h0 : Array.range 1 = #[0] := by decide
  unfold madeCells
  rw [h0]
  simp
 rw [h2] at h1
 have h3 : (Instr.makeSlice t (.int .i64 1) (.int .i64 1)).run Tryz.prog W = .ok (.slice (some ⟨W.heap.size, 0, none⟩) 1 1) (W.alloc (.cells #[z] e)) := h1
 simp [h3]
end
end Go.Proofs.YtebpacmhdkgfeaaGreat

namespace Go.Proofs.YtebpacmhdkgfeaaGreat
open Go.RowKit Go.Maps Go.WideMaps
set_option maxHeartbeats 8000000
set_option maxRecDepth 100000
theorem within_ext {W : World} {e : Ext W} (a b : V8) (r : Bool) (h : a.within b = r) : Calls Tryz.prog 75 #[.agg #[.int .i64 a.a0, .int .i64 a.a1, .int .i64 a.a2, .int .i64 a.a3, .int .i64 a.a4, .int .i64 a.a5, .int .i64 a.a6, .int .i64 a.a7], .agg #[.int .i64 b.a0, .int .i64 b.a1, .int .i64 b.a2, .int .i64 b.a3, .int .i64 b.a4, .int .i64 b.a5, .int .i64 b.a6, .int .i64 b.a7]] e.w fun en w'' => en = .returned (.bool r) ∧ ∃ z : Ext W, w'' = z.w := h ▸ calls_ext (vec_within a b e.w)
theorem vhas_ext {W : World} {e : Ext W} (a : V8) (m : Mk) (r : Bool) (h : a.has m = r) : Calls Tryz.prog 106 #[.agg #[.int .i64 a.a0, .int .i64 a.a1, .int .i64 a.a2, .int .i64 a.a3, .int .i64 a.a4, .int .i64 a.a5, .int .i64 a.a6, .int .i64 a.a7], .agg #[.int .i64 m.boot, .int .i64 m.n]] e.w fun en w'' => en = .returned (.bool r) ∧ ∃ z : Ext W, w'' = z.w := h ▸ calls_ext (vec_has a m e.w)
theorem meet_ext {W : World} {e : Ext W} (a b c : V8) (h : a.meet b = c) : Calls Tryz.prog 66 #[.agg #[.int .i64 a.a0, .int .i64 a.a1, .int .i64 a.a2, .int .i64 a.a3, .int .i64 a.a4, .int .i64 a.a5, .int .i64 a.a6, .int .i64 a.a7], .agg #[.int .i64 b.a0, .int .i64 b.a1, .int .i64 b.a2, .int .i64 b.a3, .int .i64 b.a4, .int .i64 b.a5, .int .i64 b.a6, .int .i64 b.a7]] e.w fun en w'' => en = .returned (.agg #[.int .i64 c.a0, .int .i64 c.a1, .int .i64 c.a2, .int .i64 c.a3, .int .i64 c.a4, .int .i64 c.a5, .int .i64 c.a6, .int .i64 c.a7]) ∧ ∃ z : Ext W, w'' = z.w :=
 calls_ext ((vec_meet a b e.w).mono fun _ _ ⟨⟨c', e1, e2⟩, hb⟩ => by subst e1; subst h; exact ⟨e2, hb⟩)
theorem cut_shown (sv st : V8) (nv : Sl) (l : Lnk) (gl lc gc : Nat) (w : World) (hx : Box w gc ([.int .i64 sv.a0, .int .i64 sv.a1, .int .i64 sv.a2, .int .i64 sv.a3, .int .i64 sv.a4, .int .i64 sv.a5, .int .i64 sv.a6, .int .i64 sv.a7, .slice nv.a nv.n nv.c, .slice (some ⟨gl, 0, none⟩) 1 lc, .int .i64 st.a0, .int .i64 st.a1, .int .i64 st.a2, .int .i64 st.a3, .int .i64 st.a4, .int .i64 st.a5, .int .i64 st.a6, .int .i64 st.a7] : List Value).toArray 104) (hl : encK.R w (.slice (some ⟨gl, 0, none⟩) 1 lc) [l]) (hal : l.alive.within l.dead = true) (hk : ∃ ly, keyOf Tryz.prog 44 (.agg #[.int .i64 l.node.boot, .int .i64 l.node.n]) = some ly) :
  Calls Tryz.prog 156 #[.pointer (some ⟨gc, 0, none⟩)] w fun e w' => ∃ g, e = .returned (.slice (some ⟨g, 0, none⟩) 1 1) ∧ Loc w NoM w' [var g [.bool false] 4] := by
 have hL := Loc.nil w NoM
 obtain ⟨ly, hky0⟩ := hk
 have HKY := kD hky0
 clear hky0
 obtain ⟨ao, cc, e1, hel⟩ := R_elem hl
 obtain ⟨g, off, e2, hr⟩ := hel 0 (by simp)
 rw [e2] at e1
 injection e1 with e1 e5 e6
 clear e5 e6
 injection e1 with e1
 injection e1 with e3 e4
 subst e3 e4
 have hz : w.rangeAt gl (0 + 0 * 25) (Lnk.cells l) := hr
 have hal2 : (!l.alive.within l.dead) = false := by rw [hal]; rfl
 have hqa := kD (fun wx => (show Calls Tryz.prog 23 #[.agg (encK.cells l).toArray] wx (fun e w' => e = .returned (.bool false) ∧ Below wx.heap.size wx w') from by
  have h9 := join_alive l wx
  rw [hal2] at h9
  exact h9))
 unfold Lnk.cells at hz
 clear hal2
 clear hl hel hr e2 hal
 go_enter Tryz.func156, Tryz.ntmps156
 go_wp2_with (first
  | ((with_reducible refine gate (N := 10) rfl ?_); refine ev_mkmap rfl hL rfl ?_; clear hL; intro gm wq hL)
  | ((with_reducible refine qB rfl rfl ?_); (first | (refine ev_loadB1 rfl (Loc.old hL hx not_noM) rfl rfl (by rfl) ?_) | (refine ev_loadBA rfl (Loc.old hL hx not_noM) rfl rfl (by repeat (first | exact .nil _ | with_reducible apply Seg.take | with_reducible apply Seg.skip)) ?_))) | ((with_reducible refine qA rfl rfl ?_ ?_); (exact wz rfl rfl rfl (by with_reducible rfl)); (refine ev_loadB1G (wz rfl rfl rfl rfl) (Loc.old hL hx not_noM) rfl rfl (by rfl) ?_)))
 refine wp_loop_rounds 2 ?_
 rw [rounds_succ]
 go_wp2_with (first
  | ((with_reducible refine qF rfl rfl ?_); refine lL (i := 0) rfl rfl rfl rfl (by decide) ?_)
  | ((with_reducible refine gate (N := 21) rfl ?_); refine lK rfl rfl rfl (range_below hz hL.below) (by rfl) ?_)
  | ((with_reducible refine qB rfl rfl ?_); (first | (refine ev_loadB1 rfl (Loc.old hL hx not_noM) rfl rfl (by rfl) ?_) | (refine ev_loadBA rfl (Loc.old hL hx not_noM) rfl rfl (by repeat (first | exact .nil _ | with_reducible apply Seg.take | with_reducible apply Seg.skip)) ?_))) | ((with_reducible refine qA rfl rfl ?_ ?_); (exact wz rfl rfl rfl (by with_reducible rfl)); (refine ev_loadB1G (wz rfl rfl rfl rfl) (Loc.old hL hx not_noM) rfl rfl (by rfl) ?_))
  | ((with_reducible refine qD rfl rfl ?_); (refine lI rfl hL rfl cy ?_; clear hL; intro gq wq hL)) | ((with_reducible refine qB rfl rfl ?_); (refine lF rfl hL rfl rfl vM SegC.seg ?_)) | ((with_reducible refine qC rfl rfl ?_); (refine lH rfl hL rfl rfl rfl cy (by rfl) ?_); clear hL; intro wq hL)
  | (refine ev_mput0 (K := 44) (e := 3) stamp_keyed Tryz.underlying89 rfl hL rfl rfl rfl rfl HKY.out sx ?_; clear hL; intro wq hL))
 rw [rounds_succ]
 go_wp2_with (first
  | ((with_reducible refine gate (N := 33) rfl ?_); refine ev_make1 (e := 4) Tryz.underlying174 rfl (by decide) rfl hL rfl rfl rfl ?_; clear hL; intro g33 wq hL)
  | ((with_reducible refine qB rfl rfl ?_); (first | (refine ev_loadB1 rfl (Loc.old hL hx not_noM) rfl rfl (by rfl) ?_) | (refine ev_loadBA rfl (Loc.old hL hx not_noM) rfl rfl (by repeat (first | exact .nil _ | with_reducible apply Seg.take | with_reducible apply Seg.skip)) ?_))) | ((with_reducible refine qA rfl rfl ?_ ?_); (exact wz rfl rfl rfl (by with_reducible rfl)); (refine ev_loadB1G (wz rfl rfl rfl rfl) (Loc.old hL hx not_noM) rfl rfl (by rfl) ?_)))
 refine wp_loop_rounds 2 ?_
 rw [rounds_succ]
 go_wp2_with (first
  | ((with_reducible refine qF rfl rfl ?_); refine lL (i := 0) rfl rfl rfl rfl (by decide) ?_)
  | ((with_reducible refine gate (N := 44) rfl ?_); refine lK rfl rfl rfl (range_below hz hL.below) (by rfl) ?_)
  | (go_at_call 23; (refine (hqa.out _).mono ?_); rintro e w9 ⟨rfl, hb9⟩; have hL := hL.call hb9; clear hb9)
  | ((with_reducible refine qB rfl rfl ?_); (first | (refine ev_loadB1 rfl (Loc.old hL hx not_noM) rfl rfl (by rfl) ?_) | (refine ev_loadBA rfl (Loc.old hL hx not_noM) rfl rfl (by repeat (first | exact .nil _ | with_reducible apply Seg.take | with_reducible apply Seg.skip)) ?_))) | ((with_reducible refine qA rfl rfl ?_ ?_); (exact wz rfl rfl rfl (by with_reducible rfl)); (refine ev_loadB1G (wz rfl rfl rfl rfl) (Loc.old hL hx not_noM) rfl rfl (by rfl) ?_))
  | ((with_reducible refine qD rfl rfl ?_); (refine lI rfl hL rfl cy ?_; clear hL; intro gq wq hL)) | ((with_reducible refine qB rfl rfl ?_); (refine lA rfl hL rfl rfl vM (by rfl) ?_)) | ((with_reducible refine qC rfl rfl ?_); (refine lH rfl hL rfl rfl rfl cy (by rfl) ?_); clear hL; intro wq hL))
 refine wp_loop_rounds 1 ?_
 rw [rounds_succ]
 go_wp2_with fail
 rw [rounds_succ]
 go_wp2_with fail
 go_ret
 exact ⟨_, rfl, hL.sub (by repeat (first | exact List.nil_sublist _ | apply List.Sublist.cons_cons | apply List.Sublist.cons))⟩
theorem cut_links (sv st : V8) (nv : Sl) (l : Lnk) (gl lc gc b : Nat) (w0 w : World) (M : Nat → Prop) (T : List Item) (hL : Loc w0 M w (var gc [.int .i64 sv.a0, .int .i64 sv.a1, .int .i64 sv.a2, .int .i64 sv.a3, .int .i64 sv.a4, .int .i64 sv.a5, .int .i64 sv.a6, .int .i64 sv.a7, .slice nv.a nv.n nv.c, .slice (some ⟨gl, 0, none⟩) 1 lc, .int .i64 st.a0, .int .i64 st.a1, .int .i64 st.a2, .int .i64 st.a3, .int .i64 st.a4, .int .i64 st.a5, .int .i64 st.a6, .int .i64 st.a7] 104 :: row encK b 46 (.slice (some ⟨gl, 0, none⟩) 1 lc) [l] :: T)) (hal : l.alive.within l.dead = true) (h1 : l.alive.within st = true) (h2 : l.dead.within st = true) (h3 : st.has l.at_ = true) (hk : ∃ ly, keyOf Tryz.prog 44 (.agg #[.int .i64 l.node.boot, .int .i64 l.node.n]) = some ly) :
  Calls Tryz.prog 68 #[.pointer (some ⟨gc, 0, none⟩)] w fun e w' => e = .returned (.tuple #[]) ∧ Loc w0 M w' (var gc [.int .i64 sv.a0, .int .i64 sv.a1, .int .i64 sv.a2, .int .i64 sv.a3, .int .i64 sv.a4, .int .i64 sv.a5, .int .i64 sv.a6, .int .i64 sv.a7, .slice nv.a nv.n nv.c, .slice none 0 0, .int .i64 st.a0, .int .i64 st.a1, .int .i64 st.a2, .int .i64 st.a3, .int .i64 st.a4, .int .i64 st.a5, .int .i64 st.a6, .int .i64 st.a7] 104 :: row encK b 46 (.slice (some ⟨gl, 0, none⟩) 1 lc) [l] :: T) := by
 have hsh := kD (cut_shown sv st nv l gl lc gc w (hL.box (.head _)) (hL.own (.tail _ (.head _))).read hal hk)
 obtain ⟨ly, hky0⟩ := hk
 have HKY := kD hky0
 have HA := kD h1
 have HD := kD h2
 have HH := kD h3
 have HZ : Hid (∀ (l' : List Item) (w' : World), Loc w0 M w' l' → row encK b 46 (.slice (some ⟨gl, 0, none⟩) 1 lc) [l] ∈ l' → w'.rangeAt gl (0 + 0 * 25) (Lnk.cells l)) := kD (fun l' w' h hm => by
  have := row_range (h.own (E := encK) hm) (y := l) (i := 0) rfl
  exact this)
 clear hky0 h1 h2 h3 hal
 go_enter Tryz.func68, Tryz.ntmps68
 go_wp2_with (first
  | (go_at_call 156; (with_reducible refine hsh.out.mono ?_); rintro e w9 ⟨gs, rfl, hL9⟩; replace hL := hL.takeAll hL9; simp only [List.cons_append, List.nil_append] at hL; clear hsh hL9)
  | ((with_reducible refine gate (N := 16) rfl ?_); refine ev_mkmap rfl hL rfl ?_; clear hL; intro gm wq hL)
  | ((with_reducible refine qB rfl rfl ?_); (refine lC rfl hL rfl rfl vM (by rfl) ?_)))
 refine wp_loop_rounds 2 ?_
 rw [rounds_succ]
 have hz := HZ.out _ _ hL (.tail _ (.tail _ (.tail _ (.head _))))
 unfold Lnk.cells at hz
 go_wp2_with (first
  | ((with_reducible refine qF rfl rfl ?_); refine lL (i := 0) rfl rfl rfl rfl (by decide) ?_)
  | ((with_reducible refine gate (N := 27) rfl ?_); refine lK rfl rfl rfl hz (by rfl) ?_)
  | ((with_reducible refine qD rfl rfl ?_); (refine lI rfl hL rfl cy ?_; clear hL; intro gq wq hL)) | ((with_reducible refine qB rfl rfl ?_); (refine lF rfl hL rfl rfl vM SegC.seg ?_)) | ((with_reducible refine qC rfl rfl ?_); (refine lH rfl hL rfl rfl rfl cy (by rfl) ?_); clear hL; intro wq hL)
  | ((with_reducible refine gate (N := 33) rfl ?_); refine lM (cs := [.int .i64 0]) rfl hL rfl rfl rfl (by kernel_rfl) ?_; clear hL; intro g33 wq hL; replace hL := hL.rowNil' (encI .i64) w0.heap.size 3)
  | ((with_reducible refine gate (N := 34) rfl ?_); refine ev_entry0 (K := 44) (e := 177) stamp_keyed Tryz.underlying176 rfl hL rfl rfl rfl HKY.out sx ?_; clear hL; intro wq hL)
  | (at_builtin; refine ev_app1L (E := encI .i64) (base := w0.heap.size) (xs := []) 0 rfl hL rfl rfl rfl mx (fun _ => sx) rfl rfl rfl (by simp) hL.size ?_; clear hL; intro ao' c' wq hL)
  | (refine ev_estore0 rfl hL rfl rfl rfl rfl sx ?_; clear hL; intro wq hL))
 (try simp only [Act.put, zs, zt, zu])
 refine wp_region_ext (by kernel_rfl) (by kernel_rfl) ?_
 repeat (first
  | (go_big_quiet_want; (first | refine qH hL rfl rfl vM (by rfl) ?_ | refine qG hL rfl rfl vM (by rfl) ?_ | refine qI hL rfl rfl vM SegC.seg ?_); go_big_quiet_on; simp only [Act.put, zs, zt, zu])
  | go_big_quiet_step (first | (go_at_call 75; with_reducible exact within_ext l.alive st true HA.out) | (go_at_call 75; with_reducible exact within_ext l.dead st true HD.out) | (go_at_call 106; with_reducible exact vhas_ext st l.at_ true HH.out)))
 refine wpQuiet_nil ?_
 rintro _ ⟨⟨w10, hb10⟩, rfl⟩
 replace hL := hL.call hb10
 clear hb10 hz
 go_wp2_with (first
  | ((with_reducible refine qF rfl rfl ?_); refine lL (i := 0) rfl rfl rfl rfl (by decide) ?_)
  | ((with_reducible refine qB rfl rfl ?_); (refine lC rfl hL rfl rfl vM (by rfl) ?_)) | ((with_reducible refine qC rfl rfl ?_); (refine lG rfl hL rfl rfl rfl cy (by rfl) (by rfl) ?_); clear hL; intro wq hL))
 rw [rounds_succ]
 go_wp2_with fail
 refine wp_loop_rounds 1 ?_
 rw [rounds_succ]
 go_wp2_with (first | ((with_reducible refine qB rfl rfl ?_); (refine lC rfl hL rfl rfl vM (by rfl) ?_)))
 refine wp_loop_rounds 2 ?_
 rw [rounds_succ]
 have hz := HZ.out _ _ hL mx
 unfold Lnk.cells at hz
 go_wp2_with (first
  | ((with_reducible refine qF rfl rfl ?_); refine lL (i := 0) rfl rfl rfl rfl (by decide) ?_)
  | ((with_reducible refine gate (N := 129) rfl ?_); refine lK rfl rfl rfl hz (by rfl) ?_)
  | ((with_reducible refine qD rfl rfl ?_); (refine lI rfl hL rfl cy ?_; clear hL; intro gq wq hL)) | ((with_reducible refine qB rfl rfl ?_); (refine lC rfl hL rfl rfl vM (by rfl) ?_)) | ((with_reducible refine qC rfl rfl ?_); (refine lH rfl hL rfl rfl rfl cy (by rfl) ?_); clear hL; intro wq hL))
 rw [rounds_succ]
 go_wp2_with (first | ((with_reducible refine qC rfl rfl ?_); (refine lH rfl hL rfl rfl rfl cy (by rfl) ?_); clear hL; intro wq hL))
 go_end0
 exact ⟨rfl, hL.sub (by repeat (first | exact .refl _ | apply List.Sublist.cons_cons | apply List.Sublist.cons))⟩
end Go.Proofs.YtebpacmhdkgfeaaGreat

namespace Go.Proofs.YtebpacmhdkgfeaaGreat
open Go.RowKit Go.Maps Go.WideMaps
set_option maxHeartbeats 8000000
set_option maxRecDepth 100000
theorem idx_none (ao : Option Addr) (c : Nat) (fv : Value) (w : World) : Calls Tryz.prog 105 #[.slice ao 0 c, fv] w fun e w' => e = .returned (.int .i64 (-1)) ∧ w' = w := by
 go_enter Tryz.func105, Tryz.ntmps105
 go_wp2
 refine wp_loop_rounds 1 ?_
 rw [rounds_succ]
 go_wp2
 go_ret
 exact ⟨rfl, rfl⟩
theorem delete_none (ao : Option Addr) (c : Nat) (fv : Value) (w : World) : Calls Tryz.prog 42 #[.slice ao 0 c, fv] w fun e w' => e = .returned (.slice ao 0 c) ∧ w' = w := by
 have hq := kD (idx_none ao c fv w)
 go_enter Tryz.func42, Tryz.ntmps42
 go_wp2_with (go_at_call 105; (with_reducible refine hq.out.mono ?_); rintro e w9 ⟨rfl, rfl⟩)
 go_ret
 exact ⟨rfl, rfl⟩
theorem delete_ext {W : World} {e : Ext W} (ao : Option Addr) (c : Nat) (fv : Value) : Calls Tryz.prog 42 #[.slice ao 0 c, fv] e.w fun en w'' => en = .returned (.slice ao 0 c) ∧ ∃ z : Ext W, w'' = z.w :=
 calls_ext ((delete_none ao c fv e.w).mono fun _ _ ⟨h1, h2⟩ => ⟨h1, by rw [h2]; exact Below.refl _ _⟩)
theorem cut_nodes (sv st : V8) (na : Option Addr) (nc gc : Nat) (w0 w : World) (M : Nat → Prop) (l : List Item) (hL : Loc w0 M w (var gc [.int .i64 sv.a0, .int .i64 sv.a1, .int .i64 sv.a2, .int .i64 sv.a3, .int .i64 sv.a4, .int .i64 sv.a5, .int .i64 sv.a6, .int .i64 sv.a7, .slice na 0 nc, .slice none 0 0, .int .i64 st.a0, .int .i64 st.a1, .int .i64 st.a2, .int .i64 st.a3, .int .i64 st.a4, .int .i64 st.a5, .int .i64 st.a6, .int .i64 st.a7] 104 :: l)) :
  Calls Tryz.prog 69 #[.pointer (some ⟨gc, 0, none⟩)] w fun e w' => e = .returned (.tuple #[]) ∧ Loc w0 M w' (var gc [.int .i64 sv.a0, .int .i64 sv.a1, .int .i64 sv.a2, .int .i64 sv.a3, .int .i64 sv.a4, .int .i64 sv.a5, .int .i64 sv.a6, .int .i64 sv.a7, .slice na 0 nc, .slice none 0 0, .int .i64 st.a0, .int .i64 st.a1, .int .i64 st.a2, .int .i64 st.a3, .int .i64 st.a4, .int .i64 st.a5, .int .i64 st.a6, .int .i64 st.a7] 104 :: l) := by
 go_enter Tryz.func69, Tryz.ntmps69
 go_wp2_with (first
  | ((with_reducible refine gate (N := 1) rfl ?_); (refine lJ rfl hL rfl rfl cy ?_; clear hL; intro g1 w1 hL)) | ((with_reducible refine gate (N := 2) rfl ?_); (refine lI rfl hL rfl cy ?_; clear hL; intro g2 w2 hL))
  | ((with_reducible refine gate (N := 5) rfl ?_); refine ev_mkmap rfl hL rfl ?_; clear hL; intro gm wq hL)
  | ((with_reducible refine qB rfl rfl ?_); (refine lC rfl hL rfl rfl vM (by rfl) ?_)) | ((with_reducible refine qC rfl rfl ?_); (refine lH rfl hL rfl rfl rfl cy (by rfl) ?_); clear hL; intro wq hL))
 refine wp_loop_rounds 1 ?_
 rw [rounds_succ]
 go_wp2_with fail
 (try simp only [Act.put, zs, zt, zu])
 refine region_qtail 11 (by kernel_rfl) hL (by kernel_rfl) ?_
 clear hL
 intro w8 hL
 simp only [List.take_succ_cons, List.take_zero, List.drop_succ_cons, List.drop_zero]
 repeat (first
  | (go_big_quiet_want; (first | refine qH hL rfl rfl vM (by rfl) ?_ | refine qG hL rfl rfl vM (by rfl) ?_ | refine qI hL rfl rfl vM SegC.seg ?_); go_big_quiet_on; simp only [Act.put, zs, zt, zu])
  | go_big_quiet_step (first | (go_at_call 42; exact delete_ext na nc _)))
 refine wpQuiet_nil ?_
 rintro _ ⟨⟨w9, hb9⟩, rfl⟩
 replace hL := hL.call hb9
 clear hb9
 go_wp2_with (first | ((with_reducible refine qC rfl rfl ?_); (refine lH rfl hL rfl rfl rfl cy (by rfl) ?_); clear hL; intro wq hL))
 go_end0
 refine ⟨rfl, hL.sub (by repeat (first | exact .refl _ | apply List.Sublist.cons))⟩
theorem join_prune1 (sv q : V8) (a1 la : Option Addr) (c1 lc0 : Nat) (l : Lnk) (w : World) (hn : encN.R w (.slice a1 0 c1) []) (hl : encK.R w (.slice la 1 lc0) [l]) (hat : l.at_ = l.id) (hal : l.alive.within l.dead = true) (h1 : l.alive.within (q.meet sv) = true) (h2 : l.dead.within (q.meet sv) = true) (h3 : (q.meet sv).has l.at_ = true)
  (hk : ∃ ly, keyOf Tryz.prog 44 (.agg #[.int .i64 l.node.boot, .int .i64 l.node.n]) = some ly) :
  Calls Tryz.prog 20 #[.agg ([.int .i64 sv.a0, .int .i64 sv.a1, .int .i64 sv.a2, .int .i64 sv.a3, .int .i64 sv.a4, .int .i64 sv.a5, .int .i64 sv.a6, .int .i64 sv.a7, .slice a1 0 c1, .slice la 1 lc0] : List Value).toArray, .agg #[.int .i64 q.a0, .int .i64 q.a1, .int .i64 q.a2, .int .i64 q.a3, .int .i64 q.a4, .int .i64 q.a5, .int .i64 q.a6, .int .i64 q.a7]] w fun e w' => (∃ na nc, e = .returned (.agg ([.int .i64 sv.a0, .int .i64 sv.a1, .int .i64 sv.a2, .int .i64 sv.a3, .int .i64 sv.a4, .int .i64 sv.a5, .int .i64 sv.a6, .int .i64 sv.a7, .slice na 0 nc, .slice none 0 0] : List Value).toArray)) ∧ Below w.heap.size w w' := by
 have hL := Loc.nil w NoM
 obtain ⟨st, hst⟩ : ∃ st, q.meet sv = st := ⟨_, rfl⟩
 rw [hst] at h1 h2 h3
 have HST := kD hst
 have HN := kD hn; have HL := kD hl
 have H0 := kD hat; have HAL := kD hal; have H1 := kD h1; have H2 := kD h2; have H3 := kD h3; have HK := kD hk
 clear hst hn hl hat hal h1 h2 h3 hk
 go_enter Tryz.func20, Tryz.ntmps20
 go_wp2_with (first | ((with_reducible refine gate (N := 2) rfl ?_); (refine lJ rfl hL rfl rfl cy ?_; clear hL; intro g2 w2 hL)) | ((with_reducible refine gate (N := 3) rfl ?_); (refine lJ rfl hL rfl rfl cy ?_; clear hL; intro g3 w3 hL)) | ((with_reducible refine gate (N := 4) rfl ?_); (refine lI rfl hL rfl cy ?_; clear hL; intro g4 w4 hL)))
 (try simp only [Act.put, zs, zt, zu])
 refine region_qtail 6 (by kernel_rfl) hL (by kernel_rfl) ?_
 clear hL
 intro w5 hL
 simp only [List.take_succ_cons, List.take_zero, List.drop_succ_cons, List.drop_zero]
 repeat (first
  | (go_big_quiet_want; (first | refine qH hL rfl rfl vM (by rfl) ?_ | refine qG hL rfl rfl vM (by rfl) ?_ | refine qI hL rfl rfl vM SegC.seg ?_); go_big_quiet_on; simp only [Act.put, zs, zt, zu])
  | go_big_quiet_step (first | (go_at_call 66; with_reducible exact meet_ext q sv st HST.out)))
 refine wpQuiet_nil ?_
 rintro _ ⟨⟨w6, hb6⟩, rfl⟩
 replace hL := hL.call hb6
 clear hb6
 go_wp2_with (first | ((with_reducible refine gate (N := 12) rfl ?_); (refine lJ rfl hL rfl rfl cy ?_; clear hL; intro g12 w12 hL)))
 (try simp only [Act.put, zs, zt, zu])
 refine region_held (fun wx => Box wx g2 ([.int .i64 sv.a0, .int .i64 sv.a1, .int .i64 sv.a2, .int .i64 sv.a3, .int .i64 sv.a4, .int .i64 sv.a5, .int .i64 sv.a6, .int .i64 sv.a7, .slice a1 0 c1, .slice la 1 lc0] : List Value).toArray 27) (by kernel_rfl) hL ?_
 clear hL
 intro w8 hL
 refine tK (i := 0) (y := y_moveG (.pointer (some ⟨g12, 0, none⟩)) (by rfl) rfl (by rfl)) (s := hL.box (g := g2) vM) (z := ?_)
 (try simp only [Act.put, zs, zt, zu])
 refine tK (i := 1) (y := y_moveG (.pointer (some ⟨g12, 0, none⟩)) (by rfl) rfl (by rfl)) (s := hL.box (g := g2) vM) (z := ?_)
 (try simp only [Act.put, zs, zt, zu])
 refine tK (i := 2) (y := y_pure (v := .pointer (some ⟨g2, 8, none⟩)) (by rfl) (fun w => by simp [execOp, Instr.fieldAt, go_sem])) (s := hL.box (g := g2) vM) (z := ?_)
 (try simp only [Act.put, zs, zt, zu])
 refine tK (i := 3) (y := y_loadCell (fun _ h => h) (by rfl) (by rfl) (by rfl) (by infer_instance) (by rfl)) (s := hL.box (g := g2) vM) (z := ?_)
 (try simp only [Act.put, zs, zt, zu])
 refine tK (i := 5) (y := y_pure (v := .pointer (some ⟨g2, 9, none⟩)) (by rfl) (fun w => by simp [execOp, Instr.fieldAt, go_sem])) (s := hL.box (g := g2) vM) (z := ?_)
 (try simp only [Act.put, zs, zt, zu])
 refine tK (i := 6) (y := y_loadCell (fun _ h => h) (by rfl) (by rfl) (by rfl) (by infer_instance) (by rfl)) (s := hL.box (g := g2) vM) (z := ?_)
 (try simp only [Act.put, zs, zt, zu])
 refine heldOne (i := 4) (by kernel_rfl) ?_
 refine heldCall (Nth.get nx) (by rfl) (enter1 Tryz.func25 (by kernel_rfl) (by kernel_rfl) (by rfl) (by rfl)) (clone_nodes (.slice a1 0 c1) [] _ (HN.out.below hL.below) (by simp)) ?_
 rintro e w9 ⟨u9, rfl, hL9⟩
 replace hL := hL.takeRow hL9
 clear hL9
 obtain ⟨na, nc, hu9, -⟩ := R_elem (hL.own (E := encN) (.head _)).read
 replace hu9 : u9 = .slice na 0 nc := hu9
 subst hu9
 refine ⟨_, rfl, (hL.box (g := g2) vM), ?_⟩
 (try simp only [Act.put, zs, zt, zu])
 refine heldOne (i := 7) (by kernel_rfl) ?_
 refine heldCall (Nth.get nx) (by rfl) (enter1 Tryz.func24 (by kernel_rfl) (by kernel_rfl) (by rfl) (by rfl)) (clone_links (.slice la 1 lc0) [l] _ (HL.out.below hL.below) (by simp)) ?_
 rintro e w10 ⟨u10, rfl, hL10⟩
 replace hL := hL.takeRow hL10
 clear hL10
 rcases own_casesG hL with ⟨-, e2⟩ | ⟨gl, lc, hu10, -, -, hgl⟩
 ·cases e2
 replace hu10 : u10 = .slice (some ⟨gl, 0, none⟩) 1 lc := hu10
 subst hu10
 refine ⟨_, rfl, (hL.box (g := g2) vM), ?_⟩
 (try simp only [Act.put, zs, zt, zu])
 refine tK (i := 8) (y := y_pure (v := .pointer (some ⟨g12, 0, none⟩)) (by rfl) (fun w => by simp [execOp, go_sem])) (s := hL.box (g := g2) vM) (z := ?_)
 (try simp only [Act.put, zs, zt, zu])
 refine tK (i := 9) (y := y_pure (v := .pointer (some ⟨g12, 0, none⟩)) (by rfl) (fun w => by simp [execOp, Instr.fieldAt, go_sem])) (s := hL.box (g := g2) vM) (z := ?_)
 (try simp only [Act.put, zs, zt, zu])
 refine tK (i := 10) (y := y_pure (v := .pointer (some ⟨g12, 8, none⟩)) (by rfl) (fun w => by simp [execOp, Instr.fieldAt, go_sem])) (s := hL.box (g := g2) vM) (z := ?_)
 (try simp only [Act.put, zs, zt, zu])
 refine heldStore (i := 11) nx (by kernel_rfl) rfl hL rfl (by rfl) (by rfl) cy (by rfl) ?_
 clear hL; intro w11 hL
 refine ⟨(hL.box (g := g2) vM), ?_⟩
 (try simp only [Act.put, zs, zt, zu])
 refine tK (i := 12) (y := y_pure (v := .pointer (some ⟨g12, 0, none⟩)) (by rfl) (fun w => by simp [execOp, go_sem])) (s := hL.box (g := g2) vM) (z := ?_)
 (try simp only [Act.put, zs, zt, zu])
 refine tK (i := 13) (y := y_pure (v := .pointer (some ⟨g12, 0, none⟩)) (by rfl) (fun w => by simp [execOp, Instr.fieldAt, go_sem])) (s := hL.box (g := g2) vM) (z := ?_)
 (try simp only [Act.put, zs, zt, zu])
 refine tK (i := 14) (y := y_pure (v := .pointer (some ⟨g12, 9, none⟩)) (by rfl) (fun w => by simp [execOp, Instr.fieldAt, go_sem])) (s := hL.box (g := g2) vM) (z := ?_)
 (try simp only [Act.put, zs, zt, zu])
 refine heldStore (i := 15) nx (by kernel_rfl) rfl hL rfl (by rfl) (by rfl) cy (by rfl) ?_
 clear hL; intro w15 hL
 refine ⟨(hL.box (g := g2) vM), ?_⟩
 (try simp only [Act.put, zs, zt, zu])
 refine wpAnyH_done (by kernel_rfl) ?_ _
 replace hL := hL.sub (l' := [row encK w.heap.size 46 (.slice (some ⟨gl, 0, none⟩) 1 lc) [l], var g12 [.int .i64 sv.a0, .int .i64 sv.a1, .int .i64 sv.a2, .int .i64 sv.a3, .int .i64 sv.a4, .int .i64 sv.a5, .int .i64 sv.a6, .int .i64 sv.a7, .slice na 0 nc, .slice (some ⟨gl, 0, none⟩) 1 lc, .int .i64 st.a0, .int .i64 st.a1, .int .i64 st.a2, .int .i64 st.a3, .int .i64 st.a4, .int .i64 st.a5, .int .i64 st.a6, .int .i64 st.a7] 104, var g4 [.int .i64 0, .int .i64 0, .int .i64 0, .int .i64 0, .int .i64 0, .int .i64 0, .int .i64 0, .int .i64 0, .slice none 0 0, .slice none 0 0] 27]) (by repeat (first | exact List.nil_sublist _ | apply List.Sublist.cons_cons | apply List.Sublist.cons))
 replace hL := hL.comm
 go_wp2_with (first
  | (go_at_call 67; have hq := cut_moved ⟨⟨sv, ⟨na, 0, nc⟩, ⟨some ⟨gl, 0, none⟩, 1, lc⟩⟩, st⟩ l g12 _ (hL.box (g := g12) vM) (hL.own (E := encK) (.tail _ (.head _))).read H0.out; (with_reducible refine hq.mono ?_); rintro e w16 ⟨rfl, hb16⟩; clear hq; have hL := hL.call hb16; clear hb16)
  | (go_at_call 68; have hq := cut_links sv st ⟨na, 0, nc⟩ l gl lc g12 _ _ _ _ _ hL HAL.out H1.out H2.out H3.out HK.out; clear hL; (with_reducible refine hq.mono ?_); rintro e w17 ⟨rfl, hL⟩; clear hq)
  | (go_at_call 69; have hq := cut_nodes sv st na nc g12 _ _ _ _ hL; clear hL; (with_reducible refine hq.mono ?_); rintro e w18 ⟨rfl, hL⟩; clear hq)
  | ((with_reducible refine qB rfl rfl ?_); (refine lF rfl hL rfl rfl vM SegC.seg ?_)) | ((with_reducible refine qC rfl rfl ?_); (refine lH rfl hL rfl rfl rfl cy (by rfl) ?_); clear hL; intro wq hL))
 exact bodyPost_ret (res_cell rfl hL _ rfl vM (by rfl)) rfl ⟨⟨na, nc, rfl⟩, hL.below⟩
end Go.Proofs.YtebpacmhdkgfeaaGreat

namespace Go.Proofs.YtebpacmhdkgfeaaGreat
open Go.RowKit
set_option maxHeartbeats 4000000
set_option maxRecDepth 20000
end Go.Proofs.YtebpacmhdkgfeaaGreat

namespace Go.Proofs.YtebpacmhdkgfeaaGreat
open Go.RowKit
set_option maxHeartbeats 4000000
set_option maxRecDepth 20000
end Go.Proofs.YtebpacmhdkgfeaaGreat
