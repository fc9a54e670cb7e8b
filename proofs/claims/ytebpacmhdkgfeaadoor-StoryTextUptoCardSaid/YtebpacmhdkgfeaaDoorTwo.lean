/- Regions that draw their order, in which two loads of a variable each lead to a call that hands back new memory. Over any program. -/
import Derived.Test.YtebpacmhdkgfeaaDoorQTail
import Derived.Test.YtebpacmhdkgfeaaDoorGrow
namespace Go.Proofs.YtebpacmhdkgfeaaDoor
open Go.RowKit

theorem enters {P : Program} {f : FuncId} {fn : Func} (hf : P.funcs[f]? = some fn) (hname : (fn.name == "runtime.NumGoroutine") = false) (hb : fn.body.isNone = false) (args : Array Value) (w : World) :
    (callFunc f args).run P w = .ok (.enter f args) w := by
  have h1 : fn.name ≠ "runtime.NumGoroutine" := by simpa using hname
  have h2 : ¬ fn.body = none := by intro h; simp [h] at hb
  simp [callFunc, hf, h1, h2, Sem.run, program]
/-- Two items change places. -/
theorem Loc.comm {w0 w : World} {M : Nat → Prop} {l : List Item} {i j : Item} (h : Loc w0 M w (i :: j :: l)) : Loc w0 M w (j :: i :: l) := by
  have ha := h.apart
  rw [List.pairwise_cons, List.pairwise_cons] at ha
  obtain ⟨h1, h2, h3⟩ := ha
  refine ⟨h.mod, fun k hk => h.at_ k ?_, fun k hk => h.new k ?_, List.pairwise_cons.2 ⟨fun k hk => ?_, List.pairwise_cons.2 ⟨fun k hk => h1 k (.tail _ hk), h3⟩⟩⟩
  · rcases List.mem_cons.1 hk with rfl | hk
    · exact .tail _ (.head _)
    · rcases List.mem_cons.1 hk with rfl | hk
      · exact .head _
      · exact .tail _ (.tail _ hk)
  · rcases List.mem_cons.1 hk with rfl | hk
    · exact .tail _ (.head _)
    · rcases List.mem_cons.1 hk with rfl | hk
      · exact .head _
      · exact .tail _ (.tail _ hk)
  · rcases List.mem_cons.1 hk with rfl | hk
    · exact fun b hb hb' => h1 j (.head _) b hb' hb
    · exact h2 k hk
/-- A call that hands back a value and what is known by new blocks. -/
def Gives (P : Program) (f : FuncId) (args : Array Value) (it : Value → Item) (w : World) : Prop :=
  Calls P f args w fun e w' => ∃ v, e = .returned v ∧ Below w.heap.size w w' ∧ (it v).At w' ∧ ∀ k, (it v).S k → w.heap.size ≤ k
theorem gives_row {P : Program} {f : FuncId} {args : Array Value} {α : Type} {E : Enc α} {e : TypeId} {xs : List α} {w : World} {base : Nat} (hb : base ≤ w.heap.size) (h : Calls P f args w fun en w' => ∃ v, en = .returned v ∧ Loc w NoM w' [row E w.heap.size e v xs]) :
    Gives P f args (fun v => row E base e v xs) w :=
  h.mono fun _ _ ⟨v, he, hL⟩ => ⟨v, he, hL.below, row_at ((hL.own (.head _)).weaken hb), fun k hk => (hL.new _ (.head _) k hk).elim id fun h => h.elim⟩
section
variable {P : Program} {md : Region.Mode} {ops : Array Oper} {Q : Exit → Act → World → Prop}
/-- The operation is a call of f, once its argument stands. -/
def Enters (P : Program) (o : Oper) (p : Tmp) (u : Value) (f : FuncId) (args : Array Value) : Prop := ∀ (b : Act) (w : World), b.eval (.tmp p) = u → (execOp b.eval o).run P w = .ok (.enter f args) w
theorem enters_op {o : Oper} {p : Tmp} {u : Value} {f : FuncId} {fn : Func} {ats : Array TypeId} (hf : P.funcs[f]? = some fn) (hname : (fn.name == "runtime.NumGoroutine") = false) (hb : fn.body.isNone = false) (ho : o.op = .call { callee := .value (.func f), args := #[.tmp p], argTypes := ats }) :
    Enters P o p u f #[u] := fun b w hu => by
  have e : b.eval (Operand.func f) = .func (.func f) #[] #[] := rfl
  simp [execOp, ho, resolve, invoke, hu, e, Deferred.ofValue, enters hf hname hb]
theorem wpOp_runW {i : Nat} {o : Oper} {a : Act} {w w' : World} {v : Value} {K : Act → World → Prop} (hi : ops[i]? = some o) (hw : Region.wanted o (yielded ops a.tmps) = true) (hr : (execOp a.eval o).run P w = .ok (.value v) w') (h : K (a.put o.dst v) w') : wpOp P ops Q i K a w := by
  unfold wpOp
  simp only [hi, hw, if_true]
  refine .inl ?_
  unfold Oper.wp
  rw [hr]
  exact h
/-- Wanted in whatever frame that is as a but for the slots of ds. -/
def Wd (ops : Array Oper) (o : Oper) (a : Act) (ds : List Tmp) : Prop := ∀ b : Act, b.tmps.size = a.tmps.size → (∀ p, p ∉ ds → b.eval (.tmp p) = a.eval (.tmp p)) → Region.wanted o (yielded ops b.tmps) = true
theorem wd_free {o : Oper} {a : Act} {ds : List Tmp} (h : o.guard = none) : Wd ops o a ds := fun b _ _ => by simp [Region.wanted, h]
theorem wd_guard {o : Oper} {a : Act} {ds : List Tmp} {j d : Nat} {want : Bool} (h : o.guard = some (j, want)) (hd : (ops[j]?).bind (·.dst) = some d) (hs : d < a.tmps.size) (hv : a.eval (.tmp d) = .bool want) (hn : d ∉ ds) : Wd ops o a ds := fun b hz hb => by
  have h1 := (hb d hn).trans hv
  have h2 : b.tmps[d]? = some (.bool want) := by
    have hlt : d < b.tmps.size := by omega
    rw [Array.getElem?_eq_getElem hlt]
    simpa [Act.eval, hlt] using h1
  simp [Region.wanted, h, yielded, hd, h2]
theorem Wd.put {o : Oper} {a b : Act} {ds : List Tmp} (h : Wd ops o a ds) (hz : b.tmps.size = a.tmps.size) (hb : ∀ p, p ∉ ds → b.eval (.tmp p) = a.eval (.tmp p)) : Region.wanted o (yielded ops b.tmps) = true := h b hz hb
theorem wpOp_call {i : Nat} {o : Oper} {a : Act} {p : Tmp} {u : Value} {f : FuncId} {args : Array Value} {w0 w : World} {M : Nat → Prop} {l : List Item} {it : Value → Item} {K : Act → World → Prop} (hi : ops[i]? = some o) (hw : Region.wanted o (yielded ops a.tmps) = true) (he : Enters P o p u f args) (hu : a.eval (.tmp p) = u)
    (hL : Loc w0 M w l) (hc : Gives P f args it w) (h : ∀ v w', Below w.heap.size w w' → Loc w0 M w' (it v :: l) → K (a.put o.dst v) w') : wpOp P ops Q i K a w := by
  unfold wpOp
  simp only [hi, hw, if_true]
  refine .inl ?_
  unfold Oper.wp
  rw [he a w hu]
  exact hc.mono fun e w' ⟨v, e1, hb, hi, hS⟩ => by subst e1; exact h v w' hb (hL.callNew hb hi hS)
theorem wpAny_twoG {f i1 j1 i2 j2 : Nat} {L1 C1 L2 C2 : Oper} {done : Array Bool} {a : Act} {w w0 : World} {M : Nat → Prop} {l : List Item} {s1 s2 p1 p2 q1 q2 : Tmp} {u1 u2 : Value} {F1 F2 : FuncId} {A1 A2 : Array Value} {it1 it2 : Value → Item}
    (hi1 : ops[i1]? = some L1) (hj1 : ops[j1]? = some C1) (hi2 : ops[i2]? = some L2) (hj2 : ops[j2]? = some C2) (g1 : Wd ops L1 a [p1, q1, p2, q2]) (k1 : Wd ops C1 a [p1, q1, p2, q2]) (g2 : Wd ops L2 a [p1, q1, p2, q2]) (k2 : Wd ops C2 a [p1, q1, p2, q2])
    (d1 : L1.dst = some p1) (e1 : C1.dst = some q1) (d2 : L2.dst = some p2) (e2 : C2.dst = some q2)
    (r00 : Region.ready md ops done = [i1, i2]) (r10 : Region.ready md ops (done.setIfInBounds i1 true) = [j1, i2]) (r01 : Region.ready md ops (done.setIfInBounds i2 true) = [i1])
    (r20 : Region.ready md ops ((done.setIfInBounds i1 true).setIfInBounds j1 true) = [i2]) (r11 : Region.ready md ops ((done.setIfInBounds i1 true).setIfInBounds i2 true) = [j1])
    (r21 : Region.ready md ops (((done.setIfInBounds i1 true).setIfInBounds i2 true).setIfInBounds j1 true) = [j2])
    (nd : [p1, q1, p2, q2].Nodup) (ns1 : s1 ∉ [p1, q1, p2, q2]) (ns2 : s2 ∉ [p1, q1, p2, q2]) (ni : [i1, j1, i2, j2].Nodup) (hs : p1 < a.tmps.size ∧ p2 < a.tmps.size)
    (hL : Loc w0 M w l)
    (ld1 : ∀ (b : Act) (w' : World) (l' : List Item), Loc w0 M w' l' → (∀ i ∈ l, i ∈ l') → b.eval (.tmp s1) = a.eval (.tmp s1) → (execOp b.eval L1).run P w' = .ok (.value u1) w')
    (ld2 : ∀ (b : Act) (w' : World) (l' : List Item), Loc w0 M w' l' → (∀ i ∈ l, i ∈ l') → b.eval (.tmp s2) = a.eval (.tmp s2) → (execOp b.eval L2).run P w' = .ok (.value u2) w')
    (en1 : Enters P C1 p1 u1 F1 A1) (en2 : Enters P C2 p2 u2 F2 A2) (c1 : ∀ w' l', Loc w0 M w' l' → Below w.heap.size w w' → Gives P F1 A1 it1 w') (c2 : ∀ w' l', Loc w0 M w' l' → Below w.heap.size w w' → Gives P F2 A2 it2 w')
    (H : ∀ r1 r2 w', Loc w0 M w' (it2 r2 :: it1 r1 :: l) → wpAny P md ops Q f ((((done.setIfInBounds i1 true).setIfInBounds i2 true).setIfInBounds j1 true).setIfInBounds j2 true) ((((a.put (some p1) u1).put (some p2) u2).put (some q1) r1).put (some q2) r2) w') :
    wpAny P md ops Q (f + 4) done a w := by
  simp only [List.nodup_cons, List.mem_cons, List.not_mem_nil, not_or, or_false, not_false_eq_true, List.nodup_nil, and_true] at nd ni
  obtain ⟨⟨n1, n2, n3⟩, ⟨n6, n7⟩, n10⟩ := nd
  obtain ⟨⟨m1, m2, m3⟩, ⟨m4, m5⟩, m6⟩ := ni
  have pc : ∀ (b : Act) (p q : Tmp) (u v : Value), p ≠ q → (b.put (some p) u).put (some q) v = (b.put (some q) v).put (some p) u := fun b p q u v h => Act.put_comm b u v fun d h1 h2 => h (by rw [Option.some.inj h1, Option.some.inj h2])
  have ne : ∀ (b : Act) (d p : Tmp) (v : Value), d ≠ p → (b.put (some d) v).eval (.tmp p) = b.eval (.tmp p) := fun b d p v h => eval_put_ne (by simpa using h)
  have lc : ∀ (x : Array Bool) (i j : Nat), i ≠ j → (x.setIfInBounds i true).setIfInBounds j true = (x.setIfInBounds j true).setIfInBounds i true := fun x i j h => Array.setIfInBounds_comm _ _ h
  have sz : ∀ (b : Act) (p : Tmp) (v : Value), (b.put (some p) v).tmps.size = b.tmps.size := fun _ _ _ => size_put
  have ou : ∀ (b : Act) (p : Tmp) (v : Value), p ∈ [p1, q1, p2, q2] → (∀ r, r ∉ [p1, q1, p2, q2] → b.eval (.tmp r) = a.eval (.tmp r)) → ∀ r, r ∉ [p1, q1, p2, q2] → (b.put (some p) v).eval (.tmp r) = a.eval (.tmp r) := fun b p v hp hb r hr => by
    rw [eval_put_ne (by rintro h; injection h with h; subst h; exact hr hp)]; exact hb r hr
  have o0 : ∀ r, r ∉ [p1, q1, p2, q2] → a.eval (.tmp r) = a.eval (.tmp r) := fun _ _ => rfl
  have ip1 : p1 ∈ [p1, q1, p2, q2] := .head _
  have iq1 : q1 ∈ [p1, q1, p2, q2] := .tail _ (.head _)
  have ip2 : p2 ∈ [p1, q1, p2, q2] := .tail _ (.tail _ (.head _))
  have iq2 : q2 ∈ [p1, q1, p2, q2] := .tail _ (.tail _ (.tail _ (.head _)))
  have r21' : Region.ready md ops (((done.setIfInBounds i1 true).setIfInBounds j1 true).setIfInBounds i2 true) = [j2] := by rw [lc _ _ _ m4]; exact r21
  have both : wpAny P md ops Q (f + 2) ((done.setIfInBounds i1 true).setIfInBounds i2 true) ((a.put (some p1) u1).put (some p2) u2) w := by
    refine wpAny_all r11 (by simp) fun x hx => ?_
    obtain rfl := List.mem_singleton.1 hx
    refine wpOp_call hj1 (k1 _ (by simp only [sz]) (ou _ _ _ ip2 (ou _ _ _ ip1 o0))) en1 (by rw [ne _ _ _ _ (Ne.symm n2)]; exact eval_put_self hs.1) hL (c1 w l hL (Below.refl _ _)) fun v w2 hb2 hL2 => wpAny_all r21 (by simp) fun y hy => ?_
    obtain rfl := List.mem_singleton.1 hy
    rw [e1]
    refine wpOp_call hj2 (k2 _ (by simp only [sz]) (ou _ _ _ iq1 (ou _ _ _ ip2 (ou _ _ _ ip1 o0)))) en2 (by rw [ne _ _ _ _ n6]; exact eval_put_self (by rw [size_put]; exact hs.2)) hL2 (c2 w2 _ hL2 hb2) fun v' w3 hb3 hL3 => ?_
    rw [e2]
    exact H v v' w3 hL3
  refine wpAny_all r00 (by simp) fun x hx => ?_
  rcases List.mem_cons.1 hx with rfl | hx
  · refine wpOp_runW hi1 (g1 _ rfl o0) (ld1 a w l hL (fun _ h => h) rfl) (wpAny_all r10 (by simp) fun y hy => ?_)
    rw [d1]
    rcases List.mem_cons.1 hy with rfl | hy
    · refine wpOp_call hj1 (k1 _ (by simp only [sz]) (ou _ _ _ ip1 o0)) en1 (eval_put_self hs.1) hL (c1 w l hL (Below.refl _ _)) fun v w2 hb2 hL2 => wpAny_all r20 (by simp) fun z hz => ?_
      obtain rfl := List.mem_singleton.1 hz
      rw [e1]
      refine wpOp_runW hi2 (g2 _ (by simp only [sz]) (ou _ _ _ iq1 (ou _ _ _ ip1 o0))) (ld2 _ w2 _ hL2 (fun _ h => .tail _ h) (ou _ _ _ iq1 (ou _ _ _ ip1 o0) _ ns2)) (wpAny_all r21' (by simp) fun z hz => ?_)
      obtain rfl := List.mem_singleton.1 hz
      rw [d2]
      refine wpOp_call hj2 (k2 _ (by simp only [sz]) (ou _ _ _ ip2 (ou _ _ _ iq1 (ou _ _ _ ip1 o0)))) en2 (eval_put_self (by rw [size_put, size_put]; exact hs.2)) hL2 (c2 w2 _ hL2 hb2) fun v' w3 hb3 hL3 => ?_
      rw [e2, pc _ _ _ _ _ n6, lc _ _ _ m4]
      exact H v v' w3 hL3
    · obtain rfl := List.mem_singleton.1 hy
      refine wpOp_runW hi2 (g2 _ (by simp only [sz]) (ou _ _ _ ip1 o0)) (ld2 _ w l hL (fun _ h => h) (ou _ _ _ ip1 o0 _ ns2)) ?_
      rw [d2]
      exact both
  · obtain rfl := List.mem_singleton.1 hx
    refine wpOp_runW hi2 (g2 _ rfl o0) (ld2 a w l hL (fun _ h => h) rfl) (wpAny_all r01 (by simp) fun y hy => ?_)
    rw [d2]
    obtain rfl := List.mem_singleton.1 hy
    refine wpOp_runW hi1 (g1 _ (by simp only [sz]) (ou _ _ _ ip2 o0)) (ld1 _ w l hL (fun _ h => h) (ou _ _ _ ip2 o0 _ ns1)) ?_
    rw [d1, pc _ _ _ _ _ (Ne.symm n2), lc _ _ _ (Ne.symm m2)]
    exact both
theorem wpAny_two {f i1 j1 i2 j2 : Nat} {L1 C1 L2 C2 : Oper} {done : Array Bool} {a : Act} {w w0 : World} {M : Nat → Prop} {l : List Item} {T1 T2 t : TypeId} {s1 s2 p1 p2 q1 q2 : Tmp} {g o1 o2 : Nat} {cs : List Value} {u1 u2 : Value} {F1 F2 : FuncId} {A1 A2 : Array Value} {it1 it2 : Value → Item}
    (hi1 : ops[i1]? = some L1) (hj1 : ops[j1]? = some C1) (hi2 : ops[i2]? = some L2) (hj2 : ops[j2]? = some C2) (g1 : Wd ops L1 a [p1, q1, p2, q2]) (k1 : Wd ops C1 a [p1, q1, p2, q2]) (g2 : Wd ops L2 a [p1, q1, p2, q2]) (k2 : Wd ops C2 a [p1, q1, p2, q2])
    (d1 : L1.dst = some p1) (e1 : C1.dst = some q1) (d2 : L2.dst = some p2) (e2 : C2.dst = some q2)
    (r00 : Region.ready md ops done = [i1, i2]) (r10 : Region.ready md ops (done.setIfInBounds i1 true) = [j1, i2]) (r01 : Region.ready md ops (done.setIfInBounds i2 true) = [i1])
    (r20 : Region.ready md ops ((done.setIfInBounds i1 true).setIfInBounds j1 true) = [i2]) (r11 : Region.ready md ops ((done.setIfInBounds i1 true).setIfInBounds i2 true) = [j1])
    (r21 : Region.ready md ops (((done.setIfInBounds i1 true).setIfInBounds i2 true).setIfInBounds j1 true) = [j2])
    (nd : [p1, q1, p2, q2, s1, s2].Nodup) (ni : [i1, j1, i2, j2].Nodup) (hs : p1 < a.tmps.size ∧ p2 < a.tmps.size)
    (op1 : L1.op = .load T1 (.tmp s1)) (op2 : L2.op = .load T2 (.tmp s2)) (ht1 : OneT P T1) (ht2 : OneT P T2) (x1 : a.eval (.tmp s1) = .pointer (some ⟨g, o1, none⟩)) (x2 : a.eval (.tmp s2) = .pointer (some ⟨g, o2, none⟩))
    (hL : Loc w0 M w l) (hm : var g cs t ∈ l) (v1 : cs[o1]? = some u1) (v2 : cs[o2]? = some u2)
    (en1 : Enters P C1 p1 u1 F1 A1) (en2 : Enters P C2 p2 u2 F2 A2) (c1 : ∀ w' l', Loc w0 M w' l' → Below w.heap.size w w' → Gives P F1 A1 it1 w') (c2 : ∀ w' l', Loc w0 M w' l' → Below w.heap.size w w' → Gives P F2 A2 it2 w')
    (H : ∀ r1 r2 w', Loc w0 M w' (it2 r2 :: it1 r1 :: l) → wpAny P md ops Q f ((((done.setIfInBounds i1 true).setIfInBounds i2 true).setIfInBounds j1 true).setIfInBounds j2 true) ((((a.put (some p1) u1).put (some p2) u2).put (some q1) r1).put (some q2) r2) w') :
    wpAny P md ops Q (f + 4) done a w := by
  have nd2 := nd
  simp only [List.nodup_cons, List.mem_cons, List.not_mem_nil, not_or, or_false, not_false_eq_true, List.nodup_nil, and_true] at nd2
  obtain ⟨⟨n1, n2, n3, n4, n5⟩, ⟨n6, n7, n8, n9⟩, ⟨n10, n11, n12⟩, ⟨n13, n14⟩, n15⟩ := nd2
  refine wpAny_twoG (s1 := s1) (s2 := s2) (u1 := u1) (u2 := u2) hi1 hj1 hi2 hj2 g1 k1 g2 k2 d1 e1 d2 e2 r00 r10 r01 r20 r11 r21 ?_ ?_ ?_ ni hs hL
    (fun b w' l' hL' hs' hx => run_load1L ht1 hL' op1 (hx.trans x1) (hs' _ hm) v1) (fun b w' l' hL' hs' hx => run_load1L ht2 hL' op2 (hx.trans x2) (hs' _ hm) v2) en1 en2 c1 c2 H
  · simp only [List.nodup_cons, List.mem_cons, List.not_mem_nil, not_or, or_false, not_false_eq_true, List.nodup_nil, and_true]; exact ⟨⟨n1, n2, n3⟩, ⟨n6, n7⟩, n10⟩
  · simp only [List.mem_cons, List.not_mem_nil, not_or, or_false]; exact ⟨Ne.symm n4, Ne.symm n8, Ne.symm n11, Ne.symm n13⟩
  · simp only [List.mem_cons, List.not_mem_nil, not_or, or_false]; exact ⟨Ne.symm n5, Ne.symm n9, Ne.symm n12, Ne.symm n14⟩
/-- One operation alone may come. -/
theorem wpAny_one {f i : Nat} {done : Array Bool} {a : Act} {w : World} (r : Region.ready md ops done = [i]) (h : wpOp P ops Q i (fun a' w' => wpAny P md ops Q f (done.setIfInBounds i true) a' w') a w) : wpAny P md ops Q (f + 1) done a w :=
  wpAny_all r (by simp) fun x hx => by obtain rfl := List.mem_singleton.1 hx; exact h
theorem wpOp_calls {i : Nat} {o : Oper} {a : Act} {p : Tmp} {u : Value} {f : FuncId} {args : Array Value} {w : World} {R : Ending → World → Prop} {K : Act → World → Prop} (hi : ops[i]? = some o) (hw : Region.wanted o (yielded ops a.tmps) = true) (he : Enters P o p u f args) (hu : a.eval (.tmp p) = u)
    (hc : Calls P f args w R) (h : ∀ e w', R e w' → ∃ v, e = .returned v ∧ K (a.put o.dst v) w') : wpOp P ops Q i K a w := by
  unfold wpOp
  simp only [hi, hw, if_true]
  refine .inl ?_
  unfold Oper.wp
  rw [he a w hu]
  exact hc.mono fun e w' hr => by obtain ⟨v, e1, hk⟩ := h e w' hr; subst e1; exact hk
theorem run_litL {o : Oper} {a : Act} {W : World} {t : TypeId} {n : Nat} {parts : Array (Nat × Operand)} {e : TypeId} {sz : Nat} {z : Value} {cs : List Value} [ht : SliceT P t e] [hz : ZeroT P e z] [hs : SizeT P e sz] (ho : o.op = .buildSlice t n parts)
    (hn : decide (n * sz ≤ 16777216) = true) (h0 : decide (0 < n * sz) = true) (hfill : Instr.fill (fun i => some (i * sz, sz)) ((Array.range (n * sz)).map fun j => z.cells[j % z.cells.size]!) (parts.map fun (i, x) => (i, a.eval x)).toList = some cs.toArray) :
    (execOp a.eval o).run P W = .ok (.value (.slice (some ⟨W.heap.size, 0, none⟩) n n)) (W.alloc (.cells cs.toArray e)) := by
  obtain ⟨i, hi, hzz⟩ := Option.map_eq_some_iff.1 hz.zero
  have hsz : i.size = sz := by have := hs.size; simpa [hi] using this
  have h1 : ¬ n * sz > 2 ^ 24 := by have := of_decide_eq_true hn; omega
  have h2 : ¬ n * sz = 0 := by have := of_decide_eq_true h0; omega
  simp at hfill
  simp [execOp, ho, Instr.buildSlice, run_underlying ht.slice, sizeOf, typeInfo, hi, hsz, zeroValue, hzz, h1, h2, hfill, newRow]
end
end Go.Proofs.YtebpacmhdkgfeaaDoor
